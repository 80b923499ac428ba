/- The program's bytes and key of a node. No condition. -/
import Derived.Test.YtikpakhccmdmcaaNodeF
import Derived.Test.YtikpakhccmdmcaaConcN
namespace Go.Proofs.Ytikpakhccmdmcaa
open Go.RowKit
set_option linter.unusedVariables false
set_option linter.unusedSimpArgs false

/-- the bytes of a text, in new memory: one step of a region that draws its order -/
theorem stp_conv {P : Program} {ops : Array Oper} {o : Oper} {a : Act} {w : World} {K : Act → World → Prop} {Q : Exit → Act → World → Prop} {E : Prop} {src dst e : TypeId} {s : ByteArray}
    (hs : P.underlying src = some .string) (hd : P.underlying dst = some (.slice e)) (he : P.underlying e = some (.int .u8)) (hgd : o.guard = none) (x : Operand) (ho : o.op = .convert src dst x) (hx : a.eval x = .string s) (hl : s.size ≤ 140737488351232)
    (h : ∀ A c w', RdL tByte w' (fun _ => True) (.slice A s.size c) (strL s) → Ext w w' → K (a.put o.dst (.slice A s.size c)) w') : if Region.wanted o (yielded ops a.tmps) = true then Oper.wp P o a w K Q else E := by
  have hw : Region.wanted o (yielded ops a.tmps) = true := by simp [Region.wanted, hgd]
  rw [if_pos hw]
  unfold Oper.wp execOp
  simp only [ho, hx, Sem.run_bind, Sem.run_pure, Result.andThen_ok, Lib.run_convert_string_bytes w src dst e s hs hd he]
  exact h _ _ _ ((bytesWorld_rd w e s hl).mono fun _ _ => trivial) (bytesWorld_ext w e s)
/-- bytes that lie in a variable -/
theorem rdl_blk {w : World} {g t off n : Nat} {cs : Array Value} {xs : List Int} (hb : Blk w g t cs) (hp : ∀ j u, (numsA .u8 xs)[j]? = some u → cs[off + j]? = some u) (hn : xs.length = n) (h1 : B8 xs) (h2 : n ≤ 1000) (c : Nat) (hc : n ≤ c) : RdL tByte w (fun _ => True) (.slice (some ⟨g, off, none⟩) n c) xs := by
  subst hn
  refine ⟨_, _, rfl, hc, by omega, ⟨by rw [flat_bytes, nums_length]; exact (Nat.mul_one _).symm, fun _ => ⟨g, off, rfl, trivial, fun j u hu => ?_⟩⟩, h1⟩
  rw [hb.cell]
  exact hp j u (by rw [flat_bytes] at hu; simpa [numsA] using hu)
theorem rdl_one {w : World} {g : Nat} {x : Int} (hx : 0 ≤ x ∧ x ≤ 255) (hc : w.cell? ⟨g, 0, none⟩ = some (.int .u8 x)) (c : Nat) (h : 1 ≤ c) : RdL tByte w (fun _ => True) (.slice (some ⟨g, 0, none⟩) 1 c) [x] := by
  refine ⟨_, _, rfl, h, by simp, ⟨by simp [tByte], fun _ => ⟨g, 0, rfl, trivial, fun j u hu => ?_⟩⟩, okOne hx⟩
  simp [tByte] at hu
  obtain ⟨rfl, rfl⟩ : j = 0 ∧ u = .int .u8 x := by
    cases j with
    | zero => simp at hu; exact ⟨rfl, hu.symm⟩
    | succ j => simp at hu
  exact hc
/-- the five parts of a node's bytes put together -/
theorem nodeCat_any (x : Nd) (hok : x.ok) (b : Nat) (v9 v13 : Value) (W : World) (v17 : Value) (hn2 : x.n.size ≤ 24) (B1 : Blk W b 60 x.enc.toArray) (r9 : RdL tByte W (fun _ => True) v9 [(x.n.size : Int)]) (r13 : RdL tByte W (fun _ => True) v13 (strL x.n)) (r17 : RdL tByte W (fun _ => True) v17 (strL x.v))
    (h0 : 0 < (x.l ++ x.r ++ [(x.n.size : Int) % 256] ++ strL x.n ++ strL x.v).length) (h1 : (x.l ++ x.r ++ [(x.n.size : Int) % 256] ++ strL x.n ++ strL x.v).length ≤ 70368744177664) :
    Calls Try.prog 113 #[.slice (some ⟨W.heap.size, 0, none⟩) 5 5] (W.alloc (.cells #[.slice (some ⟨b, 0, none⟩) 32 32, .slice (some ⟨b, 32, none⟩) 32 32, v9, v13, v17] 126)) fun e w' => ∃ v', e = .returned v' ∧ Own tByte 5 w' (W.alloc (.cells #[.slice (some ⟨b, 0, none⟩) 32 32, .slice (some ⟨b, 32, none⟩) 32 32, v9, v13, v17] 126)).heap.size v' (x.l ++ x.r ++ [(x.n.size : Int) % 256] ++ strL x.n ++ strL x.v) ∧ Ext (W.alloc (.cells #[.slice (some ⟨b, 0, none⟩) 32 32, .slice (some ⟨b, 32, none⟩) 32 32, v9, v13, v17] 126)) w' := by
  have e : (x.n.size : Int) % 256 = x.n.size := by omega
  rw [e] at h0 h1 ⊢
  obtain ⟨L, hL⟩ : ∃ L : List (Value × List Int), L = [(.slice (some ⟨b, 0, none⟩) 32 32, x.l), (.slice (some ⟨b, 32, none⟩) 32 32, x.r), (v9, [(x.n.size : Int)]), (v13, strL x.n), (v17, strL x.v)] := ⟨_, rfl⟩
  have hcat : catL L L.length = x.l ++ x.r ++ [(x.n.size : Int)] ++ strL x.n ++ strL x.v := by rw [catL, List.take_length, hL]; simp
  have hrow := Blk.new W 126 #[.slice (some ⟨b, 0, none⟩) 32 32, .slice (some ⟨b, 32, none⟩) 32 32, v9, v13, v17]
  have H := concat_any W.heap.size 0 5 L (W.alloc (.cells #[.slice (some ⟨b, 0, none⟩) 32 32, .slice (some ⟨b, 32, none⟩) 32 32, v9, v13, v17] 126)) (fun _ => True) ?_ ?_ (by rw [hL]; simp) (by rw [hcat]; exact h0) (by rw [hcat]; exact h1)
  · rw [hcat] at H
    rw [show L.length = 5 by rw [hL]; rfl] at H
    exact H
  · have hE := ext_alloc W (.cells #[.slice (some ⟨b, 0, none⟩) 32 32, .slice (some ⟨b, 32, none⟩) 32 32, v9, v13, v17] 126)
    intro i hi
    subst hL
    simp only [List.length_cons, List.length_nil] at hi
    rcases (show i = 0 ∨ i = 1 ∨ i = 2 ∨ i = 3 ∨ i = 4 by omega) with rfl | rfl | rfl | rfl | rfl
    · exact (rdl_blk B1 (Nd.left hok) hok.1.1 hok.1.2 (by decide) 32 (Nat.le_refl _)).ext (by decide) hE
    · exact (rdl_blk B1 (Nd.right hok) hok.2.1.1 hok.2.1.2 (by decide) 32 (Nat.le_refl _)).ext (by decide) hE
    · exact r9.ext (by decide) hE
    · exact r13.ext (by decide) hE
    · exact r17.ext (by decide) hE
  · intro i hi
    subst hL
    simp only [List.length_cons, List.length_nil] at hi
    rcases (show i = 0 ∨ i = 1 ∨ i = 2 ∨ i = 3 ∨ i = 4 by omega) with rfl | rfl | rfl | rfl | rfl <;> exact hrow.at_ _ rfl
set_option maxHeartbeats 1000000 in
set_option maxRecDepth 100000 in
theorem nodeBytes_any (x : Nd) (hok : x.ok) (he : entB x.n x.v = true) (w : World) :
    Calls Try.prog 121 #[.agg x.enc.toArray] w fun e w' => ∃ v', e = .returned v' ∧ Own tByte 5 w' w.heap.size v' (nodeL x) ∧ Ext w w' := by
  obtain ⟨hn1, hn2, hv⟩ := entB_le he
  have HL := Lib.hid hok.1.1
  have HR := Lib.hid hok.2.1.1
  have HO := Lib.hid hok
  have HNL := Lib.hid (nodeL_length hok)
  have HN := Lib.hid (nodeL_eq x)
  have W1 : IntKind.u8.wrap (x.n.size : Int) = x.n.size := by rw [IntKind.wrap_u8]; omega
  have hu : (0 : Int) ≤ x.n.size ∧ (x.n.size : Int) ≤ 255 := by omega
  have B0 := Lib.hid (Blk.new w 60 x.enc.toArray)
  have hc0 : ∀ W, Ext (w.alloc (.cells x.enc.toArray 60)) W → W.cell? ⟨w.heap.size, 64, none⟩ = some (.string x.n) := fun W h => (B0.out.ext h).at_ 64 (Nd.at64 HO.out)
  have hc1 : ∀ W, Ext (w.alloc (.cells x.enc.toArray 60)) W → W.cell? ⟨w.heap.size, 65, none⟩ = some (.string x.v) := fun W h => (B0.out.ext h).at_ 65 (Nd.at65 HO.out)
  clear hok he
  go_enter Try.func121, Try.ntmps121
  go_wp2_with fail
  refine wp_region_held_drew (S := fun W => Ext (w.alloc (.cells x.enc.toArray 60)) W) (by kernel_rfl) (Ext.refl _).drew (fun hHeld => ?_)
  refine wpAnyH_take (i := 0) (oi := ?oiz1) (v := ?vz1) ?hiz1 (by kernel_rfl) (by kernel_rfl) (by kernel_rfl) ?hQz1 ?hyz1 (by assumption) ?restz1
  case hiz1 => simp only [List.getElem?_toArray, List.getElem?_cons_zero, List.getElem?_cons_succ]; rfl
  case hQz1 => exact fun _ _ _ h => h
  case hyz1 => exact Or.inl ⟨by rfl, by intro w hSw; (try dsimp only at hSw); go_simp; with_reducible rfl⟩
  try simp only [Act.put, List.setIfInBounds_toArray, List.set_cons_zero, List.set_cons_succ]
  refine wpAnyH_take (i := 1) (oi := ?oiz2) (v := ?vz2) ?hiz2 (by kernel_rfl) (by kernel_rfl) (by kernel_rfl) ?hQz2 ?hyz2 (by assumption) ?restz2
  case hiz2 => simp only [List.getElem?_toArray, List.getElem?_cons_zero, List.getElem?_cons_succ]; rfl
  case hQz2 => exact fun _ _ _ h => h
  case hyz2 => exact Or.inl ⟨by rfl, by intro w hSw; (try dsimp only at hSw); go_simp; with_reducible rfl⟩
  try simp only [Act.put, List.setIfInBounds_toArray, List.set_cons_zero, List.set_cons_succ]
  refine wpAnyH_take (i := 2) (oi := ?oiz3) (v := ?vz3) ?hiz3 (by kernel_rfl) (by kernel_rfl) (by kernel_rfl) ?hQz3 ?hyz3 (by assumption) ?restz3
  case hiz3 => simp only [List.getElem?_toArray, List.getElem?_cons_zero, List.getElem?_cons_succ]; rfl
  case hQz3 => exact fun _ _ _ h => h
  case hyz3 => exact Or.inl ⟨by rfl, by intro w hSw; (try dsimp only at hSw); go_simp; with_reducible rfl⟩
  try simp only [Act.put, List.setIfInBounds_toArray, List.set_cons_zero, List.set_cons_succ]
  refine wpAnyH_take (i := 3) (oi := ?oiz4) (v := ?vz4) ?hiz4 (by kernel_rfl) (by kernel_rfl) (by kernel_rfl) ?hQz4 ?hyz4 (by assumption) ?restz4
  case hiz4 => simp only [List.getElem?_toArray, List.getElem?_cons_zero, List.getElem?_cons_succ]; rfl
  case hQz4 => exact fun _ _ _ h => h
  case hyz4 => exact Or.inl ⟨by rfl, by intro w hSw; (try dsimp only at hSw); go_simp; with_reducible rfl⟩
  try simp only [Act.put, List.setIfInBounds_toArray, List.set_cons_zero, List.set_cons_succ]
  refine wpAnyH_take (i := 4) (oi := ?oiz5) (v := ?vz5) ?hiz5 (by kernel_rfl) (by kernel_rfl) (by kernel_rfl) ?hQz5 ?hyz5 (by assumption) ?restz5
  case hiz5 => simp only [List.getElem?_toArray, List.getElem?_cons_zero, List.getElem?_cons_succ]; rfl
  case hQz5 => exact fun _ _ _ h => h
  case hyz5 => exact Or.inl ⟨by rfl, by intro w hSw; (try dsimp only at hSw); go_simp; with_reducible rfl⟩
  try simp only [Act.put, List.setIfInBounds_toArray, List.set_cons_zero, List.set_cons_succ]
  refine wpAnyH_take (i := 5) (oi := ?oiz6) (v := ?vz6) ?hiz6 (by kernel_rfl) (by kernel_rfl) (by kernel_rfl) ?hQz6 ?hyz6 (by assumption) ?restz6
  case hiz6 => simp only [List.getElem?_toArray, List.getElem?_cons_zero, List.getElem?_cons_succ]; rfl
  case hQz6 => exact fun _ _ _ h => h
  case hyz6 => exact Or.inl ⟨by rfl, by intro w hSw; (try dsimp only at hSw); go_simp; with_reducible rfl⟩
  try simp only [Act.put, List.setIfInBounds_toArray, List.set_cons_zero, List.set_cons_succ]
  refine wpAnyH_take (i := 6) (oi := ?oiz7) (v := ?vz7) ?hiz7 (by kernel_rfl) (by kernel_rfl) (by kernel_rfl) ?hQz7 ?hyz7 (by assumption) ?restz7
  case hiz7 => simp only [List.getElem?_toArray, List.getElem?_cons_zero, List.getElem?_cons_succ]; rfl
  case hQz7 => exact fun _ _ _ h => h
  case hyz7 => exact Or.inl ⟨by rfl, by intro w hSw; (try dsimp only at hSw); go_simp; with_reducible rfl⟩
  try simp only [Act.put, List.setIfInBounds_toArray, List.set_cons_zero, List.set_cons_succ]
  refine wpAnyH_take (i := 7) (oi := ?oiz8) (v := ?vz8) ?hiz8 (by kernel_rfl) (by kernel_rfl) (by kernel_rfl) ?hQz8 ?hyz8 (by assumption) ?restz8
  case hiz8 => simp only [List.getElem?_toArray, List.getElem?_cons_zero, List.getElem?_cons_succ]; rfl
  case hQz8 => exact fun _ _ _ h => h
  case hyz8 => exact Or.inl ⟨by rfl, by intro w hSw; (try dsimp only at hSw); go_simp; with_reducible rfl⟩
  try simp only [Act.put, List.setIfInBounds_toArray, List.set_cons_zero, List.set_cons_succ]
  refine wpAnyH_take (i := 8) (oi := ?oiz9) (v := ?vz9) ?hiz9 (by kernel_rfl) (by kernel_rfl) (by kernel_rfl) ?hQz9 ?hyz9 (by assumption) ?restz9
  case hiz9 => simp only [List.getElem?_toArray, List.getElem?_cons_zero, List.getElem?_cons_succ]; rfl
  case hQz9 => exact fun _ _ _ h => h
  case hyz9 => exact Or.inl ⟨by rfl, by intro w hSw; (try dsimp only at hSw); go_simp; with_reducible rfl⟩
  try simp only [Act.put, List.setIfInBounds_toArray, List.set_cons_zero, List.set_cons_succ]
  refine wpAnyH_take (i := 10) (oi := ?oiz10) (v := ?vz10) ?hiz10 (by kernel_rfl) (by kernel_rfl) (by kernel_rfl) ?hQz10 ?hyz10 (by assumption) ?restz10
  case hiz10 => simp only [List.getElem?_toArray, List.getElem?_cons_zero, List.getElem?_cons_succ]; rfl
  case hQz10 => exact fun _ _ _ h => h
  case hyz10 => exact Or.inl ⟨by rfl, by intro w hSw; (try dsimp only at hSw); go_simp; with_reducible rfl⟩
  try simp only [Act.put, List.setIfInBounds_toArray, List.set_cons_zero, List.set_cons_succ]
  refine wpAnyH_take (i := 11) (oi := ?oiz11) (v := ?vz11) ?hiz11 (by kernel_rfl) (by kernel_rfl) (by kernel_rfl) ?hQz11 ?hyz11 (by assumption) ?restz11
  case hiz11 => simp only [List.getElem?_toArray, List.getElem?_cons_zero, List.getElem?_cons_succ]; rfl
  case hQz11 => exact fun _ _ _ h => h
  case hyz11 => exact Or.inl ⟨by rfl, by intro w hSw; (try dsimp only at hSw); go_simp; with_reducible rfl⟩
  try simp only [Act.put, List.setIfInBounds_toArray, List.set_cons_zero, List.set_cons_succ]
  refine wpAnyH_take (i := 12) (oi := ?oiz12) (v := ?vz12) ?hiz12 (by kernel_rfl) (by kernel_rfl) (by kernel_rfl) ?hQz12 ?hyz12 (by assumption) ?restz12
  case hiz12 => simp only [List.getElem?_toArray, List.getElem?_cons_zero, List.getElem?_cons_succ]; rfl
  case hQz12 => exact fun _ _ _ h => h
  case hyz12 => exact Or.inl ⟨by rfl, by intro w hSw; (try dsimp only at hSw); go_simp; with_reducible rfl⟩
  try simp only [Act.put, List.setIfInBounds_toArray, List.set_cons_zero, List.set_cons_succ]
  refine wpAnyH_take (i := 14) (oi := ?oiz13) (v := ?vz13) ?hiz13 (by kernel_rfl) (by kernel_rfl) (by kernel_rfl) ?hQz13 ?hyz13 (by assumption) ?restz13
  case hiz13 => simp only [List.getElem?_toArray, List.getElem?_cons_zero, List.getElem?_cons_succ]; rfl
  case hQz13 => exact fun _ _ _ h => h
  case hyz13 => exact Or.inl ⟨by rfl, by intro w hSw; (try dsimp only at hSw); go_simp; with_reducible rfl⟩
  try simp only [Act.put, List.setIfInBounds_toArray, List.set_cons_zero, List.set_cons_succ]
  refine wpAnyH_take (i := 15) (oi := ?oiz14) (v := ?vz14) ?hiz14 (by kernel_rfl) (by kernel_rfl) (by kernel_rfl) ?hQz14 ?hyz14 (by assumption) ?restz14
  case hiz14 => simp only [List.getElem?_toArray, List.getElem?_cons_zero, List.getElem?_cons_succ]; rfl
  case hQz14 => exact fun _ _ _ h => h
  case hyz14 => exact Or.inl ⟨by rfl, by intro w hSw; (try dsimp only at hSw); go_simp; with_reducible rfl⟩
  try simp only [Act.put, List.setIfInBounds_toArray, List.set_cons_zero, List.set_cons_succ]
  refine wpAnyH_take (i := 16) (oi := ?oiz15) (v := ?vz15) ?hiz15 (by kernel_rfl) (by kernel_rfl) (by kernel_rfl) ?hQz15 ?hyz15 (by assumption) ?restz15
  case hiz15 => simp only [List.getElem?_toArray, List.getElem?_cons_zero, List.getElem?_cons_succ]; rfl
  case hQz15 => exact fun _ _ _ h => h
  case hyz15 => exact Or.inl ⟨by rfl, by intro w hSw; (try dsimp only at hSw); go_simp; with_reducible rfl⟩
  try simp only [Act.put, List.setIfInBounds_toArray, List.set_cons_zero, List.set_cons_succ]
  have XW := Lib.hid (ext_alloc w (.cells x.enc.toArray 60))
  generalize World.drew (World.alloc w (.cells x.enc.toArray 60)) = w0 at hHeld ⊢
  refine wpAnyH_ready (rs := [9, 13, 17]) (by kernel_rfl) (by simp) (AllReadyH.cons (o := ?oy169) ?hy169 (fun K hK => ?sy169) (AllReadyH.cons (o := ?oy1613) ?hy1613 (fun K hK => ?sy1613) (AllReadyH.cons (o := ?oy1617) ?hy1617 (fun K hK => ?sy1617) AllReadyH.nil)))
  case hy169 => simp only [List.getElem?_toArray, List.getElem?_cons_zero, List.getElem?_cons_succ]; rfl
  case hy1613 => simp only [List.getElem?_toArray, List.getElem?_cons_zero, List.getElem?_cons_succ]; rfl
  case hy1617 => simp only [List.getElem?_toArray, List.getElem?_cons_zero, List.getElem?_cons_succ]; rfl
  case sy169 =>
    go_simp
    obtain ⟨p1, hp1⟩ : ∃ W, W = World.alloc w0 (.cells #[.int .u8 x.n.size] 5) := ⟨_, rfl⟩
    have hx : Ext w0 p1 := by rw [hp1]; exact ext_alloc _ _
    have r9 : p1.cell? ⟨w0.heap.size, 0, none⟩ = some (.int .u8 x.n.size) := by rw [hp1]; exact (Blk.new _ _ _).at_ 0 rfl
    have R9 := Lib.hid (rdl_one hu r9 1 (Nat.le_refl _))
    clear r9
    rw [← hp1]
    clear hp1
    have hH2 := hHeld.trans hx
    refine hK.out _ _ hH2 (fun _ => ?_)
    clear hHeld hK K
    have hHeld := hH2
    clear hH2 hx
    try simp only [Act.put, List.setIfInBounds_toArray, List.set_cons_zero, List.set_cons_succ]
    refine wpAnyH_ready (rs := [13, 17]) (by kernel_rfl) (by simp) (AllReadyH.cons (o := ?oy1713) ?hy1713 (fun K hK => ?sy1713) (AllReadyH.cons (o := ?oy1717) ?hy1717 (fun K hK => ?sy1717) AllReadyH.nil))
    case hy1713 => simp only [List.getElem?_toArray, List.getElem?_cons_zero, List.getElem?_cons_succ]; rfl
    case hy1717 => simp only [List.getElem?_toArray, List.getElem?_cons_zero, List.getElem?_cons_succ]; rfl
    case sy1713 =>
      refine stp_conv (s := x.n) Try.underlying9 Try.underlying126 Try.underlying5 rfl (.tmp 15) rfl rfl (by omega) ?_
      intro A13 c13 p2 hr hx
      have R13 := Lib.hid hr
      clear hr
      replace R9 := Lib.hid (R9.out.ext (by decide) hx)
      have hH2 := hHeld.trans hx
      refine hK.out _ _ hH2 (fun _ => ?_)
      clear hHeld hK K
      have hHeld := hH2
      clear hH2 hx
      try simp only [Act.put, List.setIfInBounds_toArray, List.set_cons_zero, List.set_cons_succ]
      refine wpAnyH_ready (rs := [17]) (by kernel_rfl) (by simp) (AllReadyH.cons (o := ?oy1817) ?hy1817 (fun K hK => ?sy1817) AllReadyH.nil)
      case hy1817 => simp only [List.getElem?_toArray, List.getElem?_cons_zero, List.getElem?_cons_succ]; rfl
      case sy1817 =>
        refine stp_conv (s := x.v) Try.underlying9 Try.underlying126 Try.underlying5 rfl (.tmp 19) rfl rfl (by omega) ?_
        intro A17 c17 p3 hr hx
        have R17 := Lib.hid hr
        clear hr
        replace R9 := Lib.hid (R9.out.ext (by decide) hx)
        replace R13 := Lib.hid (R13.out.ext (by decide) hx)
        have hH2 := hHeld.trans hx
        refine hK.out _ _ hH2 (fun _ => ?_)
        clear hHeld hK K
        have hHeld := hH2
        clear hH2 hx
        try simp only [Act.put, List.setIfInBounds_toArray, List.set_cons_zero, List.set_cons_succ]
        refine wpAnyH_ready (rs := [18]) (by kernel_rfl) (by simp) (AllReadyH.cons (o := ?oy1918) ?hy1918 (fun K hK => ?sy1918) AllReadyH.nil)
        case hy1918 => simp only [List.getElem?_toArray, List.getElem?_cons_zero, List.getElem?_cons_succ]; rfl
        case sy1918 =>
          go_simp
          refine hK.out _ _ (hHeld.alloc _) (fun _ => ?_)
          clear hK K
          try simp only [Act.put, List.setIfInBounds_toArray, List.set_cons_zero, List.set_cons_succ]
          have B1 := Lib.hid (B0.out.ext hHeld)
          refine wpAnyH_ready (rs := [19]) (by kernel_rfl) (by simp) (AllReadyH.cons (o := ?oy2019) ?hy2019 (fun K hK => ?sy2019) AllReadyH.nil)
          case hy2019 => simp only [List.getElem?_toArray, List.getElem?_cons_zero, List.getElem?_cons_succ]; rfl
          case sy2019 =>
            go_simp
            refine (nodeCat_any x HO.out w.heap.size _ _ p3 _ hn2 B1.out R9.out R13.out R17.out (by rw [← HN.out, HNL.out]; omega) (by rw [← HN.out, HNL.out]; omega)).mono ?_
            rintro e q ⟨v1, rfl, ho, hx⟩
            rw [← HN.out] at ho
            obtain ⟨A1, n1, c1, rfl⟩ := ho.shape3
            have HO1 := Lib.hid ho
            clear ho
            have hH2 := (hHeld.alloc _).trans hx
            refine hK.out _ _ hH2 (fun _ => ?_)
            clear hK K
            try simp only [Act.put, List.setIfInBounds_toArray, List.set_cons_zero, List.set_cons_succ]
            have HE := Lib.hid (XW.out.trans hH2)
            have HG := Lib.hid (show w.heap.size ≤ _ from (XW.out.trans hHeld).size)
            clear hx hHeld
            refine wpAnyH_take (i := 20) (oi := ?oiz21) (v := ?vz21) ?hiz21 (by kernel_rfl) (by kernel_rfl) (by kernel_rfl) ?hQz21 ?hyz21 (by assumption) ?restz21
            case hiz21 => simp only [List.getElem?_toArray, List.getElem?_cons_zero, List.getElem?_cons_succ]; rfl
            case hQz21 => exact fun _ _ _ h => h
            case hyz21 => exact Or.inl ⟨by rfl, by intro w hSw; (try dsimp only at hSw); go_simp; with_reducible rfl⟩
            try simp only [Act.put, List.setIfInBounds_toArray, List.set_cons_zero, List.set_cons_succ]
            refine wpAnyH_done (by kernel_rfl) ?_ _
            go_wp2_with fail
            go_ret
            exact ⟨_, rfl, HO1.out.le (by have := HG.out; simp; omega), HE.out⟩
    case sy1717 =>
      refine stp_conv (s := x.v) Try.underlying9 Try.underlying126 Try.underlying5 rfl (.tmp 19) rfl rfl (by omega) ?_
      intro A17 c17 p4 hr hx
      have R17 := Lib.hid hr
      clear hr
      replace R9 := Lib.hid (R9.out.ext (by decide) hx)
      have hH2 := hHeld.trans hx
      refine hK.out _ _ hH2 (fun _ => ?_)
      clear hHeld hK K
      have hHeld := hH2
      clear hH2 hx
      try simp only [Act.put, List.setIfInBounds_toArray, List.set_cons_zero, List.set_cons_succ]
      refine wpAnyH_ready (rs := [13]) (by kernel_rfl) (by simp) (AllReadyH.cons (o := ?oy2213) ?hy2213 (fun K hK => ?sy2213) AllReadyH.nil)
      case hy2213 => simp only [List.getElem?_toArray, List.getElem?_cons_zero, List.getElem?_cons_succ]; rfl
      case sy2213 =>
        refine stp_conv (s := x.n) Try.underlying9 Try.underlying126 Try.underlying5 rfl (.tmp 15) rfl rfl (by omega) ?_
        intro A13 c13 p5 hr hx
        have R13 := Lib.hid hr
        clear hr
        replace R9 := Lib.hid (R9.out.ext (by decide) hx)
        replace R17 := Lib.hid (R17.out.ext (by decide) hx)
        have hH2 := hHeld.trans hx
        refine hK.out _ _ hH2 (fun _ => ?_)
        clear hHeld hK K
        have hHeld := hH2
        clear hH2 hx
        try simp only [Act.put, List.setIfInBounds_toArray, List.set_cons_zero, List.set_cons_succ]
        refine wpAnyH_ready (rs := [18]) (by kernel_rfl) (by simp) (AllReadyH.cons (o := ?oy2318) ?hy2318 (fun K hK => ?sy2318) AllReadyH.nil)
        case hy2318 => simp only [List.getElem?_toArray, List.getElem?_cons_zero, List.getElem?_cons_succ]; rfl
        case sy2318 =>
          go_simp
          refine hK.out _ _ (hHeld.alloc _) (fun _ => ?_)
          clear hK K
          try simp only [Act.put, List.setIfInBounds_toArray, List.set_cons_zero, List.set_cons_succ]
          have B1 := Lib.hid (B0.out.ext hHeld)
          refine wpAnyH_ready (rs := [19]) (by kernel_rfl) (by simp) (AllReadyH.cons (o := ?oy2419) ?hy2419 (fun K hK => ?sy2419) AllReadyH.nil)
          case hy2419 => simp only [List.getElem?_toArray, List.getElem?_cons_zero, List.getElem?_cons_succ]; rfl
          case sy2419 =>
            go_simp
            refine (nodeCat_any x HO.out w.heap.size _ _ p5 _ hn2 B1.out R9.out R13.out R17.out (by rw [← HN.out, HNL.out]; omega) (by rw [← HN.out, HNL.out]; omega)).mono ?_
            rintro e q ⟨v1, rfl, ho, hx⟩
            rw [← HN.out] at ho
            obtain ⟨A1, n1, c1, rfl⟩ := ho.shape3
            have HO1 := Lib.hid ho
            clear ho
            have hH2 := (hHeld.alloc _).trans hx
            refine hK.out _ _ hH2 (fun _ => ?_)
            clear hK K
            try simp only [Act.put, List.setIfInBounds_toArray, List.set_cons_zero, List.set_cons_succ]
            have HE := Lib.hid (XW.out.trans hH2)
            have HG := Lib.hid (show w.heap.size ≤ _ from (XW.out.trans hHeld).size)
            clear hx hHeld
            refine wpAnyH_take (i := 20) (oi := ?oiz25) (v := ?vz25) ?hiz25 (by kernel_rfl) (by kernel_rfl) (by kernel_rfl) ?hQz25 ?hyz25 (by assumption) ?restz25
            case hiz25 => simp only [List.getElem?_toArray, List.getElem?_cons_zero, List.getElem?_cons_succ]; rfl
            case hQz25 => exact fun _ _ _ h => h
            case hyz25 => exact Or.inl ⟨by rfl, by intro w hSw; (try dsimp only at hSw); go_simp; with_reducible rfl⟩
            try simp only [Act.put, List.setIfInBounds_toArray, List.set_cons_zero, List.set_cons_succ]
            refine wpAnyH_done (by kernel_rfl) ?_ _
            go_wp2_with fail
            go_ret
            exact ⟨_, rfl, HO1.out.le (by have := HG.out; simp; omega), HE.out⟩
  case sy1613 =>
    refine stp_conv (s := x.n) Try.underlying9 Try.underlying126 Try.underlying5 rfl (.tmp 15) rfl rfl (by omega) ?_
    intro A13 c13 p6 hr hx
    have R13 := Lib.hid hr
    clear hr
    have hH2 := hHeld.trans hx
    refine hK.out _ _ hH2 (fun _ => ?_)
    clear hHeld hK K
    have hHeld := hH2
    clear hH2 hx
    try simp only [Act.put, List.setIfInBounds_toArray, List.set_cons_zero, List.set_cons_succ]
    refine wpAnyH_ready (rs := [9, 17]) (by kernel_rfl) (by simp) (AllReadyH.cons (o := ?oy269) ?hy269 (fun K hK => ?sy269) (AllReadyH.cons (o := ?oy2617) ?hy2617 (fun K hK => ?sy2617) AllReadyH.nil))
    case hy269 => simp only [List.getElem?_toArray, List.getElem?_cons_zero, List.getElem?_cons_succ]; rfl
    case hy2617 => simp only [List.getElem?_toArray, List.getElem?_cons_zero, List.getElem?_cons_succ]; rfl
    case sy269 =>
      go_simp
      obtain ⟨p7, hp7⟩ : ∃ W, W = World.alloc p6 (.cells #[.int .u8 x.n.size] 5) := ⟨_, rfl⟩
      have hx : Ext p6 p7 := by rw [hp7]; exact ext_alloc _ _
      have r9 : p7.cell? ⟨p6.heap.size, 0, none⟩ = some (.int .u8 x.n.size) := by rw [hp7]; exact (Blk.new _ _ _).at_ 0 rfl
      have R9 := Lib.hid (rdl_one hu r9 1 (Nat.le_refl _))
      clear r9
      rw [← hp7]
      clear hp7
      replace R13 := Lib.hid (R13.out.ext (by decide) hx)
      have hH2 := hHeld.trans hx
      refine hK.out _ _ hH2 (fun _ => ?_)
      clear hHeld hK K
      have hHeld := hH2
      clear hH2 hx
      try simp only [Act.put, List.setIfInBounds_toArray, List.set_cons_zero, List.set_cons_succ]
      refine wpAnyH_ready (rs := [17]) (by kernel_rfl) (by simp) (AllReadyH.cons (o := ?oy2717) ?hy2717 (fun K hK => ?sy2717) AllReadyH.nil)
      case hy2717 => simp only [List.getElem?_toArray, List.getElem?_cons_zero, List.getElem?_cons_succ]; rfl
      case sy2717 =>
        refine stp_conv (s := x.v) Try.underlying9 Try.underlying126 Try.underlying5 rfl (.tmp 19) rfl rfl (by omega) ?_
        intro A17 c17 p8 hr hx
        have R17 := Lib.hid hr
        clear hr
        replace R13 := Lib.hid (R13.out.ext (by decide) hx)
        replace R9 := Lib.hid (R9.out.ext (by decide) hx)
        have hH2 := hHeld.trans hx
        refine hK.out _ _ hH2 (fun _ => ?_)
        clear hHeld hK K
        have hHeld := hH2
        clear hH2 hx
        try simp only [Act.put, List.setIfInBounds_toArray, List.set_cons_zero, List.set_cons_succ]
        refine wpAnyH_ready (rs := [18]) (by kernel_rfl) (by simp) (AllReadyH.cons (o := ?oy2818) ?hy2818 (fun K hK => ?sy2818) AllReadyH.nil)
        case hy2818 => simp only [List.getElem?_toArray, List.getElem?_cons_zero, List.getElem?_cons_succ]; rfl
        case sy2818 =>
          go_simp
          refine hK.out _ _ (hHeld.alloc _) (fun _ => ?_)
          clear hK K
          try simp only [Act.put, List.setIfInBounds_toArray, List.set_cons_zero, List.set_cons_succ]
          have B1 := Lib.hid (B0.out.ext hHeld)
          refine wpAnyH_ready (rs := [19]) (by kernel_rfl) (by simp) (AllReadyH.cons (o := ?oy2919) ?hy2919 (fun K hK => ?sy2919) AllReadyH.nil)
          case hy2919 => simp only [List.getElem?_toArray, List.getElem?_cons_zero, List.getElem?_cons_succ]; rfl
          case sy2919 =>
            go_simp
            refine (nodeCat_any x HO.out w.heap.size _ _ p8 _ hn2 B1.out R9.out R13.out R17.out (by rw [← HN.out, HNL.out]; omega) (by rw [← HN.out, HNL.out]; omega)).mono ?_
            rintro e q ⟨v1, rfl, ho, hx⟩
            rw [← HN.out] at ho
            obtain ⟨A1, n1, c1, rfl⟩ := ho.shape3
            have HO1 := Lib.hid ho
            clear ho
            have hH2 := (hHeld.alloc _).trans hx
            refine hK.out _ _ hH2 (fun _ => ?_)
            clear hK K
            try simp only [Act.put, List.setIfInBounds_toArray, List.set_cons_zero, List.set_cons_succ]
            have HE := Lib.hid (XW.out.trans hH2)
            have HG := Lib.hid (show w.heap.size ≤ _ from (XW.out.trans hHeld).size)
            clear hx hHeld
            refine wpAnyH_take (i := 20) (oi := ?oiz30) (v := ?vz30) ?hiz30 (by kernel_rfl) (by kernel_rfl) (by kernel_rfl) ?hQz30 ?hyz30 (by assumption) ?restz30
            case hiz30 => simp only [List.getElem?_toArray, List.getElem?_cons_zero, List.getElem?_cons_succ]; rfl
            case hQz30 => exact fun _ _ _ h => h
            case hyz30 => exact Or.inl ⟨by rfl, by intro w hSw; (try dsimp only at hSw); go_simp; with_reducible rfl⟩
            try simp only [Act.put, List.setIfInBounds_toArray, List.set_cons_zero, List.set_cons_succ]
            refine wpAnyH_done (by kernel_rfl) ?_ _
            go_wp2_with fail
            go_ret
            exact ⟨_, rfl, HO1.out.le (by have := HG.out; simp; omega), HE.out⟩
    case sy2617 =>
      refine stp_conv (s := x.v) Try.underlying9 Try.underlying126 Try.underlying5 rfl (.tmp 19) rfl rfl (by omega) ?_
      intro A17 c17 p9 hr hx
      have R17 := Lib.hid hr
      clear hr
      replace R13 := Lib.hid (R13.out.ext (by decide) hx)
      have hH2 := hHeld.trans hx
      refine hK.out _ _ hH2 (fun _ => ?_)
      clear hHeld hK K
      have hHeld := hH2
      clear hH2 hx
      try simp only [Act.put, List.setIfInBounds_toArray, List.set_cons_zero, List.set_cons_succ]
      refine wpAnyH_ready (rs := [9]) (by kernel_rfl) (by simp) (AllReadyH.cons (o := ?oy319) ?hy319 (fun K hK => ?sy319) AllReadyH.nil)
      case hy319 => simp only [List.getElem?_toArray, List.getElem?_cons_zero, List.getElem?_cons_succ]; rfl
      case sy319 =>
        go_simp
        obtain ⟨p10, hp10⟩ : ∃ W, W = World.alloc p9 (.cells #[.int .u8 x.n.size] 5) := ⟨_, rfl⟩
        have hx : Ext p9 p10 := by rw [hp10]; exact ext_alloc _ _
        have r9 : p10.cell? ⟨p9.heap.size, 0, none⟩ = some (.int .u8 x.n.size) := by rw [hp10]; exact (Blk.new _ _ _).at_ 0 rfl
        have R9 := Lib.hid (rdl_one hu r9 1 (Nat.le_refl _))
        clear r9
        rw [← hp10]
        clear hp10
        replace R13 := Lib.hid (R13.out.ext (by decide) hx)
        replace R17 := Lib.hid (R17.out.ext (by decide) hx)
        have hH2 := hHeld.trans hx
        refine hK.out _ _ hH2 (fun _ => ?_)
        clear hHeld hK K
        have hHeld := hH2
        clear hH2 hx
        try simp only [Act.put, List.setIfInBounds_toArray, List.set_cons_zero, List.set_cons_succ]
        refine wpAnyH_ready (rs := [18]) (by kernel_rfl) (by simp) (AllReadyH.cons (o := ?oy3218) ?hy3218 (fun K hK => ?sy3218) AllReadyH.nil)
        case hy3218 => simp only [List.getElem?_toArray, List.getElem?_cons_zero, List.getElem?_cons_succ]; rfl
        case sy3218 =>
          go_simp
          refine hK.out _ _ (hHeld.alloc _) (fun _ => ?_)
          clear hK K
          try simp only [Act.put, List.setIfInBounds_toArray, List.set_cons_zero, List.set_cons_succ]
          have B1 := Lib.hid (B0.out.ext hHeld)
          refine wpAnyH_ready (rs := [19]) (by kernel_rfl) (by simp) (AllReadyH.cons (o := ?oy3319) ?hy3319 (fun K hK => ?sy3319) AllReadyH.nil)
          case hy3319 => simp only [List.getElem?_toArray, List.getElem?_cons_zero, List.getElem?_cons_succ]; rfl
          case sy3319 =>
            go_simp
            refine (nodeCat_any x HO.out w.heap.size _ _ p10 _ hn2 B1.out R9.out R13.out R17.out (by rw [← HN.out, HNL.out]; omega) (by rw [← HN.out, HNL.out]; omega)).mono ?_
            rintro e q ⟨v1, rfl, ho, hx⟩
            rw [← HN.out] at ho
            obtain ⟨A1, n1, c1, rfl⟩ := ho.shape3
            have HO1 := Lib.hid ho
            clear ho
            have hH2 := (hHeld.alloc _).trans hx
            refine hK.out _ _ hH2 (fun _ => ?_)
            clear hK K
            try simp only [Act.put, List.setIfInBounds_toArray, List.set_cons_zero, List.set_cons_succ]
            have HE := Lib.hid (XW.out.trans hH2)
            have HG := Lib.hid (show w.heap.size ≤ _ from (XW.out.trans hHeld).size)
            clear hx hHeld
            refine wpAnyH_take (i := 20) (oi := ?oiz34) (v := ?vz34) ?hiz34 (by kernel_rfl) (by kernel_rfl) (by kernel_rfl) ?hQz34 ?hyz34 (by assumption) ?restz34
            case hiz34 => simp only [List.getElem?_toArray, List.getElem?_cons_zero, List.getElem?_cons_succ]; rfl
            case hQz34 => exact fun _ _ _ h => h
            case hyz34 => exact Or.inl ⟨by rfl, by intro w hSw; (try dsimp only at hSw); go_simp; with_reducible rfl⟩
            try simp only [Act.put, List.setIfInBounds_toArray, List.set_cons_zero, List.set_cons_succ]
            refine wpAnyH_done (by kernel_rfl) ?_ _
            go_wp2_with fail
            go_ret
            exact ⟨_, rfl, HO1.out.le (by have := HG.out; simp; omega), HE.out⟩
  case sy1617 =>
    refine stp_conv (s := x.v) Try.underlying9 Try.underlying126 Try.underlying5 rfl (.tmp 19) rfl rfl (by omega) ?_
    intro A17 c17 p11 hr hx
    have R17 := Lib.hid hr
    clear hr
    have hH2 := hHeld.trans hx
    refine hK.out _ _ hH2 (fun _ => ?_)
    clear hHeld hK K
    have hHeld := hH2
    clear hH2 hx
    try simp only [Act.put, List.setIfInBounds_toArray, List.set_cons_zero, List.set_cons_succ]
    refine wpAnyH_ready (rs := [9, 13]) (by kernel_rfl) (by simp) (AllReadyH.cons (o := ?oy359) ?hy359 (fun K hK => ?sy359) (AllReadyH.cons (o := ?oy3513) ?hy3513 (fun K hK => ?sy3513) AllReadyH.nil))
    case hy359 => simp only [List.getElem?_toArray, List.getElem?_cons_zero, List.getElem?_cons_succ]; rfl
    case hy3513 => simp only [List.getElem?_toArray, List.getElem?_cons_zero, List.getElem?_cons_succ]; rfl
    case sy359 =>
      go_simp
      obtain ⟨p12, hp12⟩ : ∃ W, W = World.alloc p11 (.cells #[.int .u8 x.n.size] 5) := ⟨_, rfl⟩
      have hx : Ext p11 p12 := by rw [hp12]; exact ext_alloc _ _
      have r9 : p12.cell? ⟨p11.heap.size, 0, none⟩ = some (.int .u8 x.n.size) := by rw [hp12]; exact (Blk.new _ _ _).at_ 0 rfl
      have R9 := Lib.hid (rdl_one hu r9 1 (Nat.le_refl _))
      clear r9
      rw [← hp12]
      clear hp12
      replace R17 := Lib.hid (R17.out.ext (by decide) hx)
      have hH2 := hHeld.trans hx
      refine hK.out _ _ hH2 (fun _ => ?_)
      clear hHeld hK K
      have hHeld := hH2
      clear hH2 hx
      try simp only [Act.put, List.setIfInBounds_toArray, List.set_cons_zero, List.set_cons_succ]
      refine wpAnyH_ready (rs := [13]) (by kernel_rfl) (by simp) (AllReadyH.cons (o := ?oy3613) ?hy3613 (fun K hK => ?sy3613) AllReadyH.nil)
      case hy3613 => simp only [List.getElem?_toArray, List.getElem?_cons_zero, List.getElem?_cons_succ]; rfl
      case sy3613 =>
        refine stp_conv (s := x.n) Try.underlying9 Try.underlying126 Try.underlying5 rfl (.tmp 15) rfl rfl (by omega) ?_
        intro A13 c13 p13 hr hx
        have R13 := Lib.hid hr
        clear hr
        replace R17 := Lib.hid (R17.out.ext (by decide) hx)
        replace R9 := Lib.hid (R9.out.ext (by decide) hx)
        have hH2 := hHeld.trans hx
        refine hK.out _ _ hH2 (fun _ => ?_)
        clear hHeld hK K
        have hHeld := hH2
        clear hH2 hx
        try simp only [Act.put, List.setIfInBounds_toArray, List.set_cons_zero, List.set_cons_succ]
        refine wpAnyH_ready (rs := [18]) (by kernel_rfl) (by simp) (AllReadyH.cons (o := ?oy3718) ?hy3718 (fun K hK => ?sy3718) AllReadyH.nil)
        case hy3718 => simp only [List.getElem?_toArray, List.getElem?_cons_zero, List.getElem?_cons_succ]; rfl
        case sy3718 =>
          go_simp
          refine hK.out _ _ (hHeld.alloc _) (fun _ => ?_)
          clear hK K
          try simp only [Act.put, List.setIfInBounds_toArray, List.set_cons_zero, List.set_cons_succ]
          have B1 := Lib.hid (B0.out.ext hHeld)
          refine wpAnyH_ready (rs := [19]) (by kernel_rfl) (by simp) (AllReadyH.cons (o := ?oy3819) ?hy3819 (fun K hK => ?sy3819) AllReadyH.nil)
          case hy3819 => simp only [List.getElem?_toArray, List.getElem?_cons_zero, List.getElem?_cons_succ]; rfl
          case sy3819 =>
            go_simp
            refine (nodeCat_any x HO.out w.heap.size _ _ p13 _ hn2 B1.out R9.out R13.out R17.out (by rw [← HN.out, HNL.out]; omega) (by rw [← HN.out, HNL.out]; omega)).mono ?_
            rintro e q ⟨v1, rfl, ho, hx⟩
            rw [← HN.out] at ho
            obtain ⟨A1, n1, c1, rfl⟩ := ho.shape3
            have HO1 := Lib.hid ho
            clear ho
            have hH2 := (hHeld.alloc _).trans hx
            refine hK.out _ _ hH2 (fun _ => ?_)
            clear hK K
            try simp only [Act.put, List.setIfInBounds_toArray, List.set_cons_zero, List.set_cons_succ]
            have HE := Lib.hid (XW.out.trans hH2)
            have HG := Lib.hid (show w.heap.size ≤ _ from (XW.out.trans hHeld).size)
            clear hx hHeld
            refine wpAnyH_take (i := 20) (oi := ?oiz39) (v := ?vz39) ?hiz39 (by kernel_rfl) (by kernel_rfl) (by kernel_rfl) ?hQz39 ?hyz39 (by assumption) ?restz39
            case hiz39 => simp only [List.getElem?_toArray, List.getElem?_cons_zero, List.getElem?_cons_succ]; rfl
            case hQz39 => exact fun _ _ _ h => h
            case hyz39 => exact Or.inl ⟨by rfl, by intro w hSw; (try dsimp only at hSw); go_simp; with_reducible rfl⟩
            try simp only [Act.put, List.setIfInBounds_toArray, List.set_cons_zero, List.set_cons_succ]
            refine wpAnyH_done (by kernel_rfl) ?_ _
            go_wp2_with fail
            go_ret
            exact ⟨_, rfl, HO1.out.le (by have := HG.out; simp; omega), HE.out⟩
    case sy3513 =>
      refine stp_conv (s := x.n) Try.underlying9 Try.underlying126 Try.underlying5 rfl (.tmp 15) rfl rfl (by omega) ?_
      intro A13 c13 p14 hr hx
      have R13 := Lib.hid hr
      clear hr
      replace R17 := Lib.hid (R17.out.ext (by decide) hx)
      have hH2 := hHeld.trans hx
      refine hK.out _ _ hH2 (fun _ => ?_)
      clear hHeld hK K
      have hHeld := hH2
      clear hH2 hx
      try simp only [Act.put, List.setIfInBounds_toArray, List.set_cons_zero, List.set_cons_succ]
      refine wpAnyH_ready (rs := [9]) (by kernel_rfl) (by simp) (AllReadyH.cons (o := ?oy409) ?hy409 (fun K hK => ?sy409) AllReadyH.nil)
      case hy409 => simp only [List.getElem?_toArray, List.getElem?_cons_zero, List.getElem?_cons_succ]; rfl
      case sy409 =>
        go_simp
        obtain ⟨p15, hp15⟩ : ∃ W, W = World.alloc p14 (.cells #[.int .u8 x.n.size] 5) := ⟨_, rfl⟩
        have hx : Ext p14 p15 := by rw [hp15]; exact ext_alloc _ _
        have r9 : p15.cell? ⟨p14.heap.size, 0, none⟩ = some (.int .u8 x.n.size) := by rw [hp15]; exact (Blk.new _ _ _).at_ 0 rfl
        have R9 := Lib.hid (rdl_one hu r9 1 (Nat.le_refl _))
        clear r9
        rw [← hp15]
        clear hp15
        replace R17 := Lib.hid (R17.out.ext (by decide) hx)
        replace R13 := Lib.hid (R13.out.ext (by decide) hx)
        have hH2 := hHeld.trans hx
        refine hK.out _ _ hH2 (fun _ => ?_)
        clear hHeld hK K
        have hHeld := hH2
        clear hH2 hx
        try simp only [Act.put, List.setIfInBounds_toArray, List.set_cons_zero, List.set_cons_succ]
        refine wpAnyH_ready (rs := [18]) (by kernel_rfl) (by simp) (AllReadyH.cons (o := ?oy4118) ?hy4118 (fun K hK => ?sy4118) AllReadyH.nil)
        case hy4118 => simp only [List.getElem?_toArray, List.getElem?_cons_zero, List.getElem?_cons_succ]; rfl
        case sy4118 =>
          go_simp
          refine hK.out _ _ (hHeld.alloc _) (fun _ => ?_)
          clear hK K
          try simp only [Act.put, List.setIfInBounds_toArray, List.set_cons_zero, List.set_cons_succ]
          have B1 := Lib.hid (B0.out.ext hHeld)
          refine wpAnyH_ready (rs := [19]) (by kernel_rfl) (by simp) (AllReadyH.cons (o := ?oy4219) ?hy4219 (fun K hK => ?sy4219) AllReadyH.nil)
          case hy4219 => simp only [List.getElem?_toArray, List.getElem?_cons_zero, List.getElem?_cons_succ]; rfl
          case sy4219 =>
            go_simp
            refine (nodeCat_any x HO.out w.heap.size _ _ p15 _ hn2 B1.out R9.out R13.out R17.out (by rw [← HN.out, HNL.out]; omega) (by rw [← HN.out, HNL.out]; omega)).mono ?_
            rintro e q ⟨v1, rfl, ho, hx⟩
            rw [← HN.out] at ho
            obtain ⟨A1, n1, c1, rfl⟩ := ho.shape3
            have HO1 := Lib.hid ho
            clear ho
            have hH2 := (hHeld.alloc _).trans hx
            refine hK.out _ _ hH2 (fun _ => ?_)
            clear hK K
            try simp only [Act.put, List.setIfInBounds_toArray, List.set_cons_zero, List.set_cons_succ]
            have HE := Lib.hid (XW.out.trans hH2)
            have HG := Lib.hid (show w.heap.size ≤ _ from (XW.out.trans hHeld).size)
            clear hx hHeld
            refine wpAnyH_take (i := 20) (oi := ?oiz43) (v := ?vz43) ?hiz43 (by kernel_rfl) (by kernel_rfl) (by kernel_rfl) ?hQz43 ?hyz43 (by assumption) ?restz43
            case hiz43 => simp only [List.getElem?_toArray, List.getElem?_cons_zero, List.getElem?_cons_succ]; rfl
            case hQz43 => exact fun _ _ _ h => h
            case hyz43 => exact Or.inl ⟨by rfl, by intro w hSw; (try dsimp only at hSw); go_simp; with_reducible rfl⟩
            try simp only [Act.put, List.setIfInBounds_toArray, List.set_cons_zero, List.set_cons_succ]
            refine wpAnyH_done (by kernel_rfl) ?_ _
            go_wp2_with fail
            go_ret
            exact ⟨_, rfl, HO1.out.le (by have := HG.out; simp; omega), HE.out⟩

end Go.Proofs.Ytikpakhccmdmcaa
