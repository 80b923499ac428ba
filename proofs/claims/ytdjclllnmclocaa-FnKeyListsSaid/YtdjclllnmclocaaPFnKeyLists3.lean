/- What the walk of the law FnKeyLists needs, part 3 of 3. No condition. -/
import Derived.Test.YtdjclllnmclocaaPFnKeyLists2
/- The walk of the law FnKeyLists. No condition. -/
namespace Go.Proofs.Ytdjclllnmclocaa
open Go.RowKit
set_option linter.unusedVariables false
set_option linter.unusedSimpArgs false

theorem K32.list8 {w : World} {S : Nat → Prop} {A : Option Addr} {n c : Nat} {L : List (List Int)} (h : RdL tKey w S (.slice A n c) L) (hn : L.length = n) (i : Nat) (hi : i < n) :
    ∃ g o, A = some ⟨g, o, none⟩ ∧ K32 (L[i]'(by omega)) ∧ ∀ j u, (nums .u8 (L[i]'(by omega)))[j]? = some u → w.cell? ⟨g, o + i * 32 + j, none⟩ = some u := by
  obtain ⟨A', c', e, _, _, hrd, hok⟩ := h
  obtain ⟨rfl, e2, e3⟩ := Value.slice.inj e
  obtain ⟨g, o, e4, _, hc⟩ := hrd.elem hok i (by omega)
  exact ⟨g, o, e4, hok _ (List.getElem_mem _), hc⟩
theorem K32.cell8 {w : World} {S : Nat → Prop} {g o n c : Nat} {L : List (List Int)} (h : RdL tKey w S (.slice (some ⟨g, o, none⟩) n c) L) (hn : L.length = n) (i : Nat) (hi : i < n) :
    K32 (L[i]'(by omega)) ∧ ∀ j u, (nums .u8 (L[i]'(by omega)))[j]? = some u → w.cell? ⟨g, o + i * 32 + j, none⟩ = some u := by
  obtain ⟨g', o', e, h1, h2⟩ := K32.list8 h hn i hi
  injection e with e
  injection e with e1 e2
  subst e1
  subst e2
  exact ⟨h1, h2⟩
theorem strict_same : ∀ (L M : List (List Int)), L.Pairwise (fun a b => cmpL a b < 0) → M.Pairwise (fun a b => cmpL a b < 0) → (∀ x, x ∈ L ↔ x ∈ M) → L = M
  | [], [], _, _, _ => rfl
  | [], y :: M, _, _, h => by have := (h y).2 (by simp); simp at this
  | x :: L, [], _, _, h => by have := (h x).1 (by simp); simp at this
  | x :: L, y :: M, hl, hm, h => by
    have h1 := List.pairwise_cons.1 hl
    have h2 := List.pairwise_cons.1 hm
    have e : x = y := by
      rcases List.mem_cons.1 ((h x).1 (by simp)) with e | hx
      · exact e
      · rcases List.mem_cons.1 ((h y).2 (by simp)) with e | hy
        · exact e.symm
        · have a := h1.1 y hy
          have b := h2.1 x hx
          have c := cmpL7_neg x y
          omega
    subst e
    rw [strict_same L M h1.2 h2.2 (fun z => by
      constructor
      · intro hz
        rcases List.mem_cons.1 ((h z).1 (List.mem_cons_of_mem _ hz)) with e | hz2
        · subst e
          have := h1.1 z hz
          rw [cmpL_self] at this
          omega
        · exact hz2
      · intro hz
        rcases List.mem_cons.1 ((h z).2 (List.mem_cons_of_mem _ hz)) with e | hz2
        · subst e
          have := h2.1 z hz
          rw [cmpL_self] at this
          omega
        · exact hz2)]
theorem sK_twice {L : List (List Int)} (h : ∀ x ∈ L, K32 x) : sK (L ++ L) = sK L := by
  refine strict_same _ _ (sK_pw (fun x hx => by simp at hx; exact h x hx)) (sK_pw h) (fun x => ?_)
  rw [mem_sK, mem_sK]
  simp
theorem sK_next {D : List (List Int)} (h : D.Pairwise (fun a b => cmpL a b < 0)) (k : Nat) (h0 : 0 < k) (hk : k < D.length) : cmpL (D[k - 1]'(by omega)) D[k] = -1 := by
  have h1 := List.pairwise_iff_getElem.1 h (k - 1) k (by omega) hk (by omega)
  rcases cmpL_vals (D[k - 1]'(by omega)) D[k] with e | e | e <;> omega
theorem built_twoK (x y : Int) : Try.prog.built 28 [(0, .int .u8 x), (1, .int .u8 y)] = some (numsA .u8 (x :: y :: List.replicate 30 0)) := by kernel_rfl
theorem cutG {P : Program} {c : Code} {a : Act} {w : World} {Q : Exit → Act → World → Prop} {F : Nat → Act} {Φ : Nat → World → Prop} (reg : (∀ g w', Φ g w' → Q .normal (F g) w') → Code.wp P c Q a w) (rest : ∀ g w', Φ g w' → Q .normal (F g) w') : Code.wp P c Q a w := reg rest
set_option maxRecDepth 100000 in
theorem cutX {P : Program} {c : Code} {a : Act} {w : World} {Q : Exit → Act → World → Prop} {x0 x1 x2 x3 x4 x5 x6 x7 x8 x9 x10 x11 x12 x13 x14 x15 x16 x17 x18 x19 x20 x21 x22 x23 x24 x25 x26 x27 x28 x29 x30 x31 x32 x33 x34 x35 x36 x37 x38 x39 x40 x41 x42 x43 x44 x45 x46 x47 x48 x49 x50 x51 x52 x53 x54 x55 x56 x57 x58 x59 x60 x61 x62 x63 x64 x65 x66 x67 x68 x69 x70 x71 x72 x73 x74 x75 x76 x77 x78 x79 x80 x81 x82 x83 x84 x85 x86 x87 x88 x89 x90 x91 x92 x93 x94 x95 x96 x97 x98 x99 x100 x101 x102 x103 x104 x105 x106 x107 x108 x109 x110 x111 x112 x113 x114 x115 x116 x117 x118 x119 x120 x121 x122 x123 x124 x125 x126 x127 x128 x129 x130 x131 x132 x133 x134 x135 x136 x137 x138 x139 x140 x141 x142 x143 x144 x145 x146 x147 x148 x149 x150 x151 x152 x153 x154 x155 x156 x157 x158 x159 x160 x161 x162 x163 x164 x165 x166 x167 x168 x169 x170 x171 x172 x173 x174 x175 x176 x177 x178 x179 x180 x181 x182 x183 x184 x185 x186 x187 x188 x189 x190 x191 x192 x193 x194 x195 x196 x197 x210 x211 x212 x213 x214 x215 x216 x217 x218 x219 x220 x221 x222 x223 x224 x225 x226 x227 x228 x229 x230 x231 x232 x233 x234 x235 : Value} {Φ : World → Prop} (reg : (∀ u198 u199 u200 u201 u202 u203 u204 u205 u206 u207 u208 u209 w', Φ w' → Q .normal ⟨(x0 :: x1 :: x2 :: x3 :: x4 :: x5 :: x6 :: x7 :: x8 :: x9 :: x10 :: x11 :: x12 :: x13 :: x14 :: x15 :: x16 :: x17 :: x18 :: x19 :: x20 :: x21 :: x22 :: x23 :: x24 :: x25 :: x26 :: x27 :: x28 :: x29 :: x30 :: x31 :: x32 :: x33 :: x34 :: x35 :: x36 :: x37 :: x38 :: x39 :: x40 :: x41 :: x42 :: x43 :: x44 :: x45 :: x46 :: x47 :: x48 :: x49 :: x50 :: x51 :: x52 :: x53 :: x54 :: x55 :: x56 :: x57 :: x58 :: x59 :: x60 :: x61 :: x62 :: x63 :: x64 :: x65 :: x66 :: x67 :: x68 :: x69 :: x70 :: x71 :: x72 :: x73 :: x74 :: x75 :: x76 :: x77 :: x78 :: x79 :: x80 :: x81 :: x82 :: x83 :: x84 :: x85 :: x86 :: x87 :: x88 :: x89 :: x90 :: x91 :: x92 :: x93 :: x94 :: x95 :: x96 :: x97 :: x98 :: x99 :: x100 :: x101 :: x102 :: x103 :: x104 :: x105 :: x106 :: x107 :: x108 :: x109 :: x110 :: x111 :: x112 :: x113 :: x114 :: x115 :: x116 :: x117 :: x118 :: x119 :: x120 :: x121 :: x122 :: x123 :: x124 :: x125 :: x126 :: x127 :: x128 :: x129 :: x130 :: x131 :: x132 :: x133 :: x134 :: x135 :: x136 :: x137 :: x138 :: x139 :: x140 :: x141 :: x142 :: x143 :: x144 :: x145 :: x146 :: x147 :: x148 :: x149 :: x150 :: x151 :: x152 :: x153 :: x154 :: x155 :: x156 :: x157 :: x158 :: x159 :: x160 :: x161 :: x162 :: x163 :: x164 :: x165 :: x166 :: x167 :: x168 :: x169 :: x170 :: x171 :: x172 :: x173 :: x174 :: x175 :: x176 :: x177 :: x178 :: x179 :: x180 :: x181 :: x182 :: x183 :: x184 :: x185 :: x186 :: x187 :: x188 :: x189 :: x190 :: x191 :: x192 :: x193 :: x194 :: x195 :: x196 :: x197 :: u198 :: u199 :: u200 :: u201 :: u202 :: u203 :: u204 :: u205 :: u206 :: u207 :: u208 :: u209 :: x210 :: x211 :: x212 :: x213 :: x214 :: x215 :: x216 :: x217 :: x218 :: x219 :: x220 :: x221 :: x222 :: x223 :: x224 :: x225 :: x226 :: x227 :: x228 :: x229 :: x230 :: x231 :: x232 :: x233 :: x234 :: x235 :: []).toArray, []⟩ w') → Code.wp P c Q a w) (rest : ∀ u198 u199 u200 u201 u202 u203 u204 u205 u206 u207 u208 u209 w', Φ w' → Q .normal ⟨(x0 :: x1 :: x2 :: x3 :: x4 :: x5 :: x6 :: x7 :: x8 :: x9 :: x10 :: x11 :: x12 :: x13 :: x14 :: x15 :: x16 :: x17 :: x18 :: x19 :: x20 :: x21 :: x22 :: x23 :: x24 :: x25 :: x26 :: x27 :: x28 :: x29 :: x30 :: x31 :: x32 :: x33 :: x34 :: x35 :: x36 :: x37 :: x38 :: x39 :: x40 :: x41 :: x42 :: x43 :: x44 :: x45 :: x46 :: x47 :: x48 :: x49 :: x50 :: x51 :: x52 :: x53 :: x54 :: x55 :: x56 :: x57 :: x58 :: x59 :: x60 :: x61 :: x62 :: x63 :: x64 :: x65 :: x66 :: x67 :: x68 :: x69 :: x70 :: x71 :: x72 :: x73 :: x74 :: x75 :: x76 :: x77 :: x78 :: x79 :: x80 :: x81 :: x82 :: x83 :: x84 :: x85 :: x86 :: x87 :: x88 :: x89 :: x90 :: x91 :: x92 :: x93 :: x94 :: x95 :: x96 :: x97 :: x98 :: x99 :: x100 :: x101 :: x102 :: x103 :: x104 :: x105 :: x106 :: x107 :: x108 :: x109 :: x110 :: x111 :: x112 :: x113 :: x114 :: x115 :: x116 :: x117 :: x118 :: x119 :: x120 :: x121 :: x122 :: x123 :: x124 :: x125 :: x126 :: x127 :: x128 :: x129 :: x130 :: x131 :: x132 :: x133 :: x134 :: x135 :: x136 :: x137 :: x138 :: x139 :: x140 :: x141 :: x142 :: x143 :: x144 :: x145 :: x146 :: x147 :: x148 :: x149 :: x150 :: x151 :: x152 :: x153 :: x154 :: x155 :: x156 :: x157 :: x158 :: x159 :: x160 :: x161 :: x162 :: x163 :: x164 :: x165 :: x166 :: x167 :: x168 :: x169 :: x170 :: x171 :: x172 :: x173 :: x174 :: x175 :: x176 :: x177 :: x178 :: x179 :: x180 :: x181 :: x182 :: x183 :: x184 :: x185 :: x186 :: x187 :: x188 :: x189 :: x190 :: x191 :: x192 :: x193 :: x194 :: x195 :: x196 :: x197 :: u198 :: u199 :: u200 :: u201 :: u202 :: u203 :: u204 :: u205 :: u206 :: u207 :: u208 :: u209 :: x210 :: x211 :: x212 :: x213 :: x214 :: x215 :: x216 :: x217 :: x218 :: x219 :: x220 :: x221 :: x222 :: x223 :: x224 :: x225 :: x226 :: x227 :: x228 :: x229 :: x230 :: x231 :: x232 :: x233 :: x234 :: x235 :: []).toArray, []⟩ w') : Code.wp P c Q a w := reg rest
set_option maxHeartbeats 16000000 in
set_option maxRecDepth 100000 in
theorem FnKeyLists_any (w : World) (v0 : Value) (x0 : List Int) (S0 : Nat → Prop) (h0 : RdL tByte w S0 v0 x0) (v1 : Value) (x1 : List Int) (S1 : Nat → Prop) (h1 : RdL tByte w S1 v1 x1) :
    Calls Try.prog 7 #[v0, v1] w fun e w' => e = .returned (.bool true) ∧ Ext w w' := by
  obtain ⟨A0, cap0, rfl, _⟩ := id h0
  obtain ⟨A1, cap1, rfl, _⟩ := id h1
  have H0 := Lib.hid h0
  have H1 := Lib.hid h1
  clear h0 h1
  cases hlong : (decide (3000 < x0.length) || decide (3000 < x1.length)) with
  | true =>
    have hl := fun W => a2Long_any A0 A1 x0.length x1.length cap0 cap1 W true hlong
    clear hlong
    go_enter Try.func7, Try.ntmps7
    go_wp2_with fail
    refine (hl _).mono ?_
    rintro e w' ⟨rfl, rfl⟩
    go_wp2
    go_ret
    exact ⟨rfl, Ext.refl _⟩
  | false =>
    have hl := fun W => a2Long_any A0 A1 x0.length x1.length cap0 cap1 W false hlong
    clear hlong
    go_enter Try.func7, Try.ntmps7
    go_wp2_with fail
    refine (hl _).mono ?_
    rintro e w' ⟨rfl, rfl⟩
    clear hl
    go_wp2_with fail
    refine (a2Keys_any _ x0 8 (by omega) _ _ H0.out).mono ?_
    rintro e w1 ⟨va, ks, rfl, hoa, hla, hx⟩
    have XW := Lib.hid hx
    obtain ⟨Al, cl, e1, hcl, hnl, hrl, hkl⟩ := hoa.rd
    subst e1
    have HRL := Lib.hid (show RdL tKey w1 (fun _ => True) (.slice Al ks.length cl) ks from hoa.rd.mono (fun _ _ => trivial))
    have HRA := Lib.hid hrl
    have HKL := Lib.hid (show ∀ x ∈ ks, K32 x from hkl)
    clear hx hoa hrl hkl hnl
    go_wp2_with (first
      | (at_builtin; refine wpl_append rowKeyA rfl _ _ rfl rfl (Own.empty tKey w1 28 w1.heap.size (Nat.le_refl _)) _ _ rfl rfl (HRA.out.ext (by decide) (ext_alloc _ _)) HKL.out (by simp; omega) (by simp) ?_; intro v2 w2 ho2 hg2 hat2; obtain ⟨A2, n2, c2, rfl⟩ := ho2.shape3; have X2 := Lib.hid ((ext_alloc w1 _).grown hg2 (fun k hk => Nat.le_of_eq (Option.some.inj hk))); have HO2 := Lib.hid ho2; clear ho2 hg2 hat2)
      | (at_builtin; refine wpl_append rowKeyA rfl _ _ rfl (v := .slice A2 n2 c2) rfl HO2.out _ _ rfl rfl (HRA.out.ext (by decide) X2.out) HKL.out (by simp; omega) X2.out.size ?_; intro v3 w3 ho3 hg3 hat3; have X3 := Lib.hid (HO2.out.ext_app X2.out hg3); have HO3 := Lib.hid ho3; obtain ⟨A3, n3, c3, rfl⟩ := ho3.shape3; clear ho3 hg3 hat3))
    refine (sortKeys_any _ (ks ++ ks) (by simp; omega) w3 _ (by have := HO3.out.rd; rwa [List.nil_append] at this)).mono ?_
    rintro e w4 ⟨v4, rfl, ho, hx⟩
    rw [sK_twice HKL.out] at ho
    have hX4 := X3.out.trans hx
    replace XW := Lib.hid (XW.out.trans hX4)
    replace HRL := Lib.hid (HRL.out.ext (by decide) hX4)
    have HMEM := Lib.hid (fun x => mem_sK (L := ks) (x := x))
    have HPW := Lib.hid (sK_pw HKL.out)
    have HSO := Lib.hid (sK_ok HKL.out)
    have hsl := sK_len ks
    have HNP := Lib.hid (fun f hf (D' : List (List Int)) hp hs => near_pw HKL.out (f := f) hf (D := D') hp hs)
    have HNK := Lib.hid (fun (f : List Int) (hf : K32 f) (c : Nat) (hc : c ≤ 256) (W : World) hW => nearestKeys_any (.slice Al ks.length cl) ks (by omega) f hf c hc W (fun _ => True) hW)
    obtain ⟨D, hD⟩ : ∃ D, sK ks = D := ⟨_, rfl⟩
    rw [hD] at ho HPW HSO hsl
    simp only [hD] at HMEM HNP HNK
    obtain ⟨As, cs, e1, hcs, _, _, _⟩ := ho.rd
    subst e1
    have HRS := Lib.hid (show RdL tKey w4 (fun _ => True) (.slice As D.length cs) D from ho.rd.mono (fun _ _ => trivial))
    clear hx ho hX4 hD HO3 HO2 X2 X3 HRA
    go_wp2_with fail
    go_loopw [8] (fun i wr => ∃ k : Nat, k ≤ D.length ∧ i = .int .i64 k ∧ Ext w4 wr) (fun i _ => D.length - (intOf i).toNat)
    case atStart => exact ⟨0, by omega, rfl, Ext.refl _⟩
    case round =>
      obtain ⟨k, hk, rfl, hx⟩ := hrel
      have HX := Lib.hid hx
      have HRL1 := Lib.hid (HRL.out.ext (by decide) hx)
      have HRS1 := Lib.hid (HRS.out.ext (by decide) hx)
      clear hx
      by_cases hlt : k < D.length
      · obtain ⟨g, o, rfl, hk1, hc1⟩ := K32.list8 HRS1.out rfl k hlt
        have hq := (HMEM.out _).1 (List.getElem_mem hlt)
        have HH := Lib.hid (show ∀ W, RdL tKey W (fun _ => True) (.slice Al ks.length cl) ks → Calls Try.prog 40 #[.slice Al ks.length cl, .agg (numsA .u8 D[k])] W fun q w' => q = .returned (.bool true) ∧ Ext W w' from fun W hW => by
          have := a2Has_any _ ks D[k] hk1 W (fun _ => True) hW
          rwa [decide_eq_true hq] at this)
        have hkI : (k : Int) < (D.length : Int) := by omega
        have hk0 : (0 : Int) ≤ (k : Int) := by omega
        by_cases hz : 0 < k
        · obtain ⟨hk2, hc2⟩ := K32.cell8 HRS1.out rfl (k - 1) (by omega)
          have HCM := Lib.hid (show ∀ W, Calls Try.prog 27 #[.agg (numsA .u8 (D[k - 1]'(by omega))), .agg (numsA .u8 D[k])] W fun q w' => q = .returned (.int .i64 (-1)) ∧ Ext W w' from fun W => by
            have := compareKeysI_any (D[k - 1]'(by omega)) D[k] hk2 hk1 W
            rwa [sK_next HPW.out k hz hlt] at this)
          have HK1 := Lib.hid hk1
          have HK2 := Lib.hid hk2
          have HC1 := Lib.hid hc1
          have HC2 := Lib.hid hc2
          generalize (D[k - 1]'(by omega)) = y2 at HCM HK2 HC2
          generalize D[k] = y1 at HCM HK1 HC1 HH
          clear hk1 hk2 hc1 hc2 hq
          have hzI : (0 : Int) < (k : Int) := by omega
          have p1 : IntKind.i64.wrap ((k : Int) - 1) = ((k - 1 : Nat) : Int) := by rw [IntWalk.i64_in _ (by omega)]; omega
          have p2 : (0 : Int) ≤ ((k - 1 : Nat) : Int) := by omega
          have p3 : ((k - 1 : Nat) : Int) < (D.length : Int) := by omega
          obtain ⟨j, hj⟩ : ∃ j, k - 1 = j := ⟨_, rfl⟩
          rw [hj] at p1 p2 p3 HC2
          clear hj
          go_wp2_with fail
          refine wp_region_held_drew (S := fun W => Ext wr W) (by kernel_rfl) (Ext.refl _).drew (fun hHeld => ?_)
          iterate 4
            refine tkD 0 (by simp only [List.size_toArray, List.length_cons, List.length_nil]; rfl) (by simp only [List.getElem?_toArray, List.getElem?_cons_zero, List.getElem?_cons_succ]; rfl) (by kernel_rfl) (by exact fun _ _ _ h => h) (by first | (exact Or.inl ⟨by rfl, by intro w hSw; (try dsimp only at hSw); go_simp; with_reducible rfl⟩) | (exact Or.inr ⟨by rfl, by rfl⟩)) (by assumption) ?_
            try simp only [Act.put, List.setIfInBounds_toArray, List.set_cons_zero, List.set_cons_succ]
          refine tkI 4 (v := (.agg (numsA .u8 y1))) (by simp only [List.getElem?_toArray, List.getElem?_cons_zero, List.getElem?_cons_succ]; rfl) (by kernel_rfl) (by exact fun _ _ _ h => h) (by refine yields_loadSP g (o + k * 32) (nums .u8 y1) (by rw [nums_length, HK1.out.1]; exact aggKey) (fun W hW j u hu => hW.cell (HC1.out j u hu)) ?_ _ rfl rfl; rfl) (by assumption) ?_
          try simp only [Act.put, List.setIfInBounds_toArray, List.set_cons_zero, List.set_cons_succ]
          refine wpAnyH_ready (rs := [5]) (by kernel_rfl) (by simp) (AllReadyH.cons (o := ?oy65) ?hy65 (fun K hK => ?sy65) AllReadyH.nil)
          case hy65 => simp only [List.getElem?_toArray, List.getElem?_cons_zero, List.getElem?_cons_succ]; rfl
          go_simp
          refine (HH.out _ (HRL1.out.ext (by decide) hHeld)).mono ?_
          rintro e w5 ⟨rfl, hx⟩
          have hH2 := hHeld.trans hx
          refine hK.out _ _ hH2 (fun _ => ?_)
          clear hHeld hK K
          have hHeld := hH2
          clear hH2
          try simp only [Act.put, List.setIfInBounds_toArray, List.set_cons_zero, List.set_cons_succ]
          iterate 9
            refine tkD 0 (by simp only [List.size_toArray, List.length_cons, List.length_nil]; rfl) (by simp only [List.getElem?_toArray, List.getElem?_cons_zero, List.getElem?_cons_succ]; rfl) (by kernel_rfl) (by exact fun _ _ _ h => h) (by first | (exact Or.inl ⟨by rfl, by intro w hSw; (try dsimp only at hSw); go_simp; with_reducible rfl⟩) | (exact Or.inr ⟨by rfl, by rfl⟩)) (by assumption) ?_
            try simp only [Act.put, List.setIfInBounds_toArray, List.set_cons_zero, List.set_cons_succ]
          refine tkI 15 (v := (.agg (numsA .u8 y2))) (by simp only [List.getElem?_toArray, List.getElem?_cons_zero, List.getElem?_cons_succ]; rfl) (by kernel_rfl) (by exact fun _ _ _ h => h) (by refine yields_loadSP g (o + j * 32) (nums .u8 y2) (by rw [nums_length, HK2.out.1]; exact aggKey) (fun W hW j u hu => hW.cell (HC2.out j u hu)) ?_ _ rfl rfl; rfl) (by assumption) ?_
          try simp only [Act.put, List.setIfInBounds_toArray, List.set_cons_zero, List.set_cons_succ]
          iterate 3
            refine tkD 0 (by simp only [List.size_toArray, List.length_cons, List.length_nil]; rfl) (by simp only [List.getElem?_toArray, List.getElem?_cons_zero, List.getElem?_cons_succ]; rfl) (by kernel_rfl) (by exact fun _ _ _ h => h) (by first | (exact Or.inl ⟨by rfl, by intro w hSw; (try dsimp only at hSw); go_simp; with_reducible rfl⟩) | (exact Or.inr ⟨by rfl, by rfl⟩)) (by assumption) ?_
            try simp only [Act.put, List.setIfInBounds_toArray, List.set_cons_zero, List.set_cons_succ]
          refine tkI 19 (v := (.agg (numsA .u8 y1))) (by simp only [List.getElem?_toArray, List.getElem?_cons_zero, List.getElem?_cons_succ]; rfl) (by kernel_rfl) (by exact fun _ _ _ h => h) (by refine yields_loadSP g (o + k * 32) (nums .u8 y1) (by rw [nums_length, HK1.out.1]; exact aggKey) (fun W hW j u hu => hW.cell (HC1.out j u hu)) ?_ _ rfl rfl; rfl) (by assumption) ?_
          try simp only [Act.put, List.setIfInBounds_toArray, List.set_cons_zero, List.set_cons_succ]
          refine wpAnyH_ready (rs := [20]) (by kernel_rfl) (by simp) (AllReadyH.cons (o := ?oy2120) ?hy2120 (fun K hK => ?sy2120) AllReadyH.nil)
          case hy2120 => simp only [List.getElem?_toArray, List.getElem?_cons_zero, List.getElem?_cons_succ]; rfl
          go_simp
          refine (HCM.out _).mono ?_
          rintro e w6 ⟨rfl, hx⟩
          have hH2 := hHeld.trans hx
          refine hK.out _ _ hH2 (fun _ => ?_)
          clear hHeld hK K
          have hHeld := hH2
          clear hH2
          try simp only [Act.put, List.setIfInBounds_toArray, List.set_cons_zero, List.set_cons_succ]
          iterate 3
            refine tkD 0 (by simp only [List.size_toArray, List.length_cons, List.length_nil]; rfl) (by simp only [List.getElem?_toArray, List.getElem?_cons_zero, List.getElem?_cons_succ]; rfl) (by kernel_rfl) (by exact fun _ _ _ h => h) (by first | (exact Or.inl ⟨by rfl, by intro w hSw; (try dsimp only at hSw); go_simp; with_reducible rfl⟩) | (exact Or.inr ⟨by rfl, by rfl⟩)) (by assumption) ?_
            try simp only [Act.put, List.setIfInBounds_toArray, List.set_cons_zero, List.set_cons_succ]
          refine wpAnyH_done (by kernel_rfl) ?_ _
          have HXF := Lib.hid (HX.out.trans hHeld)
          clear hHeld
          go_wp2
          go_roundw
          case rel => exact ⟨k + 1, by omega, by go_num, HXF.out⟩
          case measure => simp [intOf]; omega
        · have HK1 := Lib.hid hk1
          have HC1 := Lib.hid hc1
          generalize D[k] = y1 at HK1 HC1 HH
          clear hk1 hc1 hq
          have hzd : decide ((0 : Int) < (k : Int)) = false := decide_eq_false (by omega)
          go_wp2_with fail
          refine wp_region_held_drew (S := fun W => Ext wr W) (by kernel_rfl) (Ext.refl _).drew (fun hHeld => ?_)
          iterate 4
            refine tkD 0 (by simp only [List.size_toArray, List.length_cons, List.length_nil]; rfl) (by simp only [List.getElem?_toArray, List.getElem?_cons_zero, List.getElem?_cons_succ]; rfl) (by kernel_rfl) (by exact fun _ _ _ h => h) (by first | (exact Or.inl ⟨by rfl, by intro w hSw; (try dsimp only at hSw); go_simp; with_reducible rfl⟩) | (exact Or.inr ⟨by rfl, by rfl⟩)) (by assumption) ?_
            try simp only [Act.put, List.setIfInBounds_toArray, List.set_cons_zero, List.set_cons_succ]
          refine tkI 4 (v := (.agg (numsA .u8 y1))) (by simp only [List.getElem?_toArray, List.getElem?_cons_zero, List.getElem?_cons_succ]; rfl) (by kernel_rfl) (by exact fun _ _ _ h => h) (by refine yields_loadSP g (o + k * 32) (nums .u8 y1) (by rw [nums_length, HK1.out.1]; exact aggKey) (fun W hW j u hu => hW.cell (HC1.out j u hu)) ?_ _ rfl rfl; rfl) (by assumption) ?_
          try simp only [Act.put, List.setIfInBounds_toArray, List.set_cons_zero, List.set_cons_succ]
          refine wpAnyH_ready (rs := [5]) (by kernel_rfl) (by simp) (AllReadyH.cons (o := ?oy305) ?hy305 (fun K hK => ?sy305) AllReadyH.nil)
          case hy305 => simp only [List.getElem?_toArray, List.getElem?_cons_zero, List.getElem?_cons_succ]; rfl
          go_simp
          refine (HH.out _ (HRL1.out.ext (by decide) hHeld)).mono ?_
          rintro e w5 ⟨rfl, hx⟩
          have hH2 := hHeld.trans hx
          refine hK.out _ _ hH2 (fun _ => ?_)
          clear hHeld hK K
          have hHeld := hH2
          clear hH2
          try simp only [Act.put, List.setIfInBounds_toArray, List.set_cons_zero, List.set_cons_succ]
          iterate 5
            refine tkD 0 (by simp only [List.size_toArray, List.length_cons, List.length_nil]; rfl) (by simp only [List.getElem?_toArray, List.getElem?_cons_zero, List.getElem?_cons_succ]; rfl) (by kernel_rfl) (by exact fun _ _ _ h => h) (by first | (exact Or.inl ⟨by rfl, by intro w hSw; (try dsimp only at hSw); go_simp; with_reducible rfl⟩) | (exact Or.inr ⟨by rfl, by rfl⟩)) (by assumption) ?_
            try simp only [Act.put, List.setIfInBounds_toArray, List.set_cons_zero, List.set_cons_succ]
          refine tkI 11 (v := undef) (by simp only [List.getElem?_toArray, List.getElem?_cons_zero, List.getElem?_cons_succ]; rfl) (by kernel_rfl) (by exact fun _ _ _ h => h) (by exact Or.inr ⟨by rfl, rfl⟩) (by assumption) ?_
          try simp only [Act.put, List.setIfInBounds_toArray, List.set_cons_zero, List.set_cons_succ]
          refine tkI 12 (v := undef) (by simp only [List.getElem?_toArray, List.getElem?_cons_zero, List.getElem?_cons_succ]; rfl) (by kernel_rfl) (by exact fun _ _ _ h => h) (by exact Or.inr ⟨by rfl, rfl⟩) (by assumption) ?_
          try simp only [Act.put, List.setIfInBounds_toArray, List.set_cons_zero, List.set_cons_succ]
          refine tkI 13 (v := undef) (by simp only [List.getElem?_toArray, List.getElem?_cons_zero, List.getElem?_cons_succ]; rfl) (by kernel_rfl) (by exact fun _ _ _ h => h) (by exact Or.inr ⟨by rfl, rfl⟩) (by assumption) ?_
          try simp only [Act.put, List.setIfInBounds_toArray, List.set_cons_zero, List.set_cons_succ]
          refine tkI 14 (v := undef) (by simp only [List.getElem?_toArray, List.getElem?_cons_zero, List.getElem?_cons_succ]; rfl) (by kernel_rfl) (by exact fun _ _ _ h => h) (by exact Or.inr ⟨by rfl, rfl⟩) (by assumption) ?_
          try simp only [Act.put, List.setIfInBounds_toArray, List.set_cons_zero, List.set_cons_succ]
          refine tkI 15 (v := undef) (by simp only [List.getElem?_toArray, List.getElem?_cons_zero, List.getElem?_cons_succ]; rfl) (by kernel_rfl) (by exact fun _ _ _ h => h) (by exact Or.inr ⟨by rfl, rfl⟩) (by assumption) ?_
          try simp only [Act.put, List.setIfInBounds_toArray, List.set_cons_zero, List.set_cons_succ]
          refine tkI 16 (v := undef) (by simp only [List.getElem?_toArray, List.getElem?_cons_zero, List.getElem?_cons_succ]; rfl) (by kernel_rfl) (by exact fun _ _ _ h => h) (by exact Or.inr ⟨by rfl, rfl⟩) (by assumption) ?_
          try simp only [Act.put, List.setIfInBounds_toArray, List.set_cons_zero, List.set_cons_succ]
          refine tkI 17 (v := undef) (by simp only [List.getElem?_toArray, List.getElem?_cons_zero, List.getElem?_cons_succ]; rfl) (by kernel_rfl) (by exact fun _ _ _ h => h) (by exact Or.inr ⟨by rfl, rfl⟩) (by assumption) ?_
          try simp only [Act.put, List.setIfInBounds_toArray, List.set_cons_zero, List.set_cons_succ]
          refine tkI 18 (v := undef) (by simp only [List.getElem?_toArray, List.getElem?_cons_zero, List.getElem?_cons_succ]; rfl) (by kernel_rfl) (by exact fun _ _ _ h => h) (by exact Or.inr ⟨by rfl, rfl⟩) (by assumption) ?_
          try simp only [Act.put, List.setIfInBounds_toArray, List.set_cons_zero, List.set_cons_succ]
          refine tkI 19 (v := undef) (by simp only [List.getElem?_toArray, List.getElem?_cons_zero, List.getElem?_cons_succ]; rfl) (by kernel_rfl) (by exact fun _ _ _ h => h) (by exact Or.inr ⟨by rfl, rfl⟩) (by assumption) ?_
          try simp only [Act.put, List.setIfInBounds_toArray, List.set_cons_zero, List.set_cons_succ]
          refine tkI 20 (v := undef) (by simp only [List.getElem?_toArray, List.getElem?_cons_zero, List.getElem?_cons_succ]; rfl) (by kernel_rfl) (by exact fun _ _ _ h => h) (by exact Or.inr ⟨by rfl, rfl⟩) (by assumption) ?_
          try simp only [Act.put, List.setIfInBounds_toArray, List.set_cons_zero, List.set_cons_succ]
          refine tkI 21 (v := undef) (by simp only [List.getElem?_toArray, List.getElem?_cons_zero, List.getElem?_cons_succ]; rfl) (by kernel_rfl) (by exact fun _ _ _ h => h) (by exact Or.inr ⟨by rfl, rfl⟩) (by assumption) ?_
          try simp only [Act.put, List.setIfInBounds_toArray, List.set_cons_zero, List.set_cons_succ]
          iterate 2
            refine tkD 0 (by simp only [List.size_toArray, List.length_cons, List.length_nil]; rfl) (by simp only [List.getElem?_toArray, List.getElem?_cons_zero, List.getElem?_cons_succ]; rfl) (by kernel_rfl) (by exact fun _ _ _ h => h) (by first | (exact Or.inl ⟨by rfl, by intro w hSw; (try dsimp only at hSw); go_simp; with_reducible rfl⟩) | (exact Or.inr ⟨by rfl, by rfl⟩)) (by assumption) ?_
            try simp only [Act.put, List.setIfInBounds_toArray, List.set_cons_zero, List.set_cons_succ]
          refine wpAnyH_done (by kernel_rfl) ?_ _
          have HXF := Lib.hid (HX.out.trans hHeld)
          clear hHeld
          go_wp2
          go_roundw
          case rel => exact ⟨k + 1, by omega, by go_num, HXF.out⟩
          case measure => simp [intOf]; omega
      · obtain rfl : k = D.length := by omega
        have XW1 := Lib.hid (XW.out.trans HX.out)
        clear HX XW HRL HRS
        go_wp2_with fail
        go_loopw [9, 10, 11, 12, 13, 14, 15, 16] (fun i _ _ _ _ _ _ _ wq => ∃ k : Nat, k ≤ ks.length ∧ i = .int .i64 k ∧ Ext wr wq) (fun i _ _ _ _ _ _ _ _ => ks.length - (intOf i).toNat)
        case atStart => exact ⟨0, by omega, rfl, Ext.refl _⟩
        case round =>
          obtain ⟨k, hk, rfl, hx⟩ := hrel
          have HX := Lib.hid hx
          have HRL2 := Lib.hid (HRL1.out.ext (by decide) hx)
          have HRS2 := Lib.hid (HRS1.out.ext (by decide) hx)
          clear hx
          by_cases hlt : k < ks.length
          · obtain ⟨g, o, rfl, hk1, hc1⟩ := K32.list8 HRL2.out rfl k hlt
            have hin := List.getElem_mem hlt
            have HH := Lib.hid (show ∀ W, RdL tKey W (fun _ => True) (.slice As D.length cs) D → Calls Try.prog 40 #[.slice As D.length cs, .agg (numsA .u8 (ks[k]'hlt))] W fun q w' => q = .returned (.bool true) ∧ Ext W w' from fun W hW => by
              have := a2Has_any (.slice As D.length cs) D (ks[k]'hlt) hk1 W (fun _ => True) hW
              rwa [decide_eq_true ((HMEM.out _).2 hin)] at this)
            have HSP := Lib.hid (fun W hW => shortestPrefix_any (.slice (some ⟨g, o, none⟩) ks.length cl) ks (by omega) (ks[k]'hlt) hin W (fun _ => True) hW)
            have HKT := Lib.hid (fun W => specKeyText_any (ks[k]'hlt) hk1 W)
            have HONE := Lib.hid (fun n h => withP_one hin n h)
            have HFK := Lib.hid (fun (n : Nat) (h : 0 < (withP ks ((textK (ks[k]'hlt)).take n)).length) W hW => findKey_any (.slice (some ⟨g, o, none⟩) ks.length cl) ks (by omega) ((textK (ks[k]'hlt)).take n) (fun c hc => textK_dig hk1.2 c (List.mem_of_mem_take hc)) (by rw [List.length_take, textK_length, hk1.1]; omega) h W (fun _ => True) hW)
            have HPOS := Lib.hid (fun n => withP_pos hin n)
            have HTL := Lib.hid (show (textK (ks[k]'hlt)).length = 64 by rw [textK_length, hk1.1])
            have HST := Lib.hid (fun n h => str_take (textK (ks[k]'hlt)) n h)
            have hsz : (strOfNums (textK (ks[k]'hlt))).size = 64 := by rw [strOfNums_size, HTL.out]
            have heq := run_neqKey (ks[k]'hlt) (ks[k]'hlt) hk1 hk1
            simp only [decide_true, Bool.not_true] at heq
            have HK1 := Lib.hid hk1
            have HC1 := Lib.hid hc1
            have hy32 := hk1.1
            generalize ks[k] = y at HH HSP HKT HONE HFK HPOS HTL HST hsz heq HK1 HC1 hy32
            generalize strOfNums (textK y) = TX at HKT HST hsz
            clear hk1 hc1 hin
            have hkI : (k : Int) < (ks.length : Int) := by omega
            have hk0 : (0 : Int) ≤ (k : Int) := by omega
            have hC1 := Lib.hid (show ∀ W, Ext wr W → ∀ j u, (nums .u8 y)[j]? = some u → W.cell? ((⟨g, o + k * 32, none⟩ : Addr).add j) = some u from fun W hW j u hu => by rw [Addr.add_lit]; exact hW.cell (HC1.out j u hu))
            go_wp2_with (refine wpl_load ⟨g, o + k * 32, none⟩ (nums .u8 y) (by rw [nums_length, hy32]; exact aggKey) rfl _ rfl rfl (hC1.out _ (Ext.refl _)) ?_)
            refine (HH.out _ HRS2.out).mono ?_
            rintro e w5 ⟨rfl, hx⟩
            have HY := Lib.hid hx
            clear hx
            go_wp2_with (refine wpl_load ⟨g, o + k * 32, none⟩ (nums .u8 y) (by rw [nums_length, hy32]; exact aggKey) rfl _ rfl rfl (hC1.out _ HY.out) ?_)
            refine (HSP.out _ (HRL2.out.ext (by decide) HY.out)).mono ?_
            rintro e w6 ⟨n, rfl, hn1, hn2, hone, hmore, hx⟩
            replace HY := Lib.hid (HY.out.trans hx)
            have HM := Lib.hid hmore
            have HO := Lib.hid hone
            clear hx hmore hone
            go_wp2_with (refine wpl_load ⟨g, o + k * 32, none⟩ (nums .u8 y) (by rw [nums_length, hy32]; exact aggKey) rfl _ rfl rfl (hC1.out _ HY.out) ?_)
            refine (HKT.out _).mono ?_
            rintro e w7 ⟨rfl, hx⟩
            replace HY := Lib.hid (HY.out.trans hx)
            clear hx
            have q1 : decide ((n : Int) < 1) = false := decide_eq_false (by omega)
            have q2 : decide ((64 : Int) < (n : Int)) = false := decide_eq_false (by omega)
            have q3 : (0 : Int) ≤ (n : Int) := by omega
            have q4 : (n : Int) ≤ 64 := by omega
            have q5 := HST.out n (by rw [HTL.out]; exact hn2)
            have HF1 := Lib.hid (HFK.out n (HPOS.out n))
            generalize strOfNums ((textK y).take n) = TP at q5 HF1
            go_wp2_with fail
            refine (HF1.out _ (HRL2.out.ext (by decide) HY.out)).mono ?_
            rintro e w8 ⟨r, code, rfl, hr, hr1, _, hx⟩
            obtain ⟨hr2, rfl⟩ := hr1 HO.out
            rw [HONE.out n HO.out] at hr2
            obtain rfl : y = r := by simpa using hr2
            have hst := St.nums (k := .u8) hy32
            have hsy := sizeN (k := .u8) hy32
            have hE := hx.trans (ext_alloc w8 (.cells (numsA .u8 y) 28))
            replace HY := Lib.hid (HY.out.trans hE)
            have BR := Lib.hid (Blk.new w8 28 (numsA .u8 y))
            clear hx hE hr hr1 hr2 q5 HF1
            go_wp2_with (refine wpl_storeNewB aggKey hst rfl rfl _ _ rfl rfl rfl rfl ?_)
            generalize w8.alloc (.cells (numsA .u8 y) 28) = w9 at HY BR ⊢
            refine wp_region_held_drew (S := fun W => Ext w9 W) (by kernel_rfl) (Ext.refl _).drew (fun hHeld => ?_)
            iterate 3
              refine tkD 0 (by simp only [List.size_toArray, List.length_cons, List.length_nil]; rfl) (by simp only [List.getElem?_toArray, List.getElem?_cons_zero, List.getElem?_cons_succ]; rfl) (by kernel_rfl) (by exact fun _ _ _ h => h) (by first | (exact Or.inl ⟨by rfl, by intro w hSw; (try dsimp only at hSw); go_simp; with_reducible rfl⟩) | (exact Or.inr ⟨by rfl, by rfl⟩)) (by assumption) ?_
              try simp only [Act.put, List.setIfInBounds_toArray, List.set_cons_zero, List.set_cons_succ]
            refine tkI 3 (v := (.agg (numsA .u8 y))) (by simp only [List.getElem?_toArray, List.getElem?_cons_zero, List.getElem?_cons_succ]; rfl) (by kernel_rfl) (by exact fun _ _ _ h => h) (by refine yields_loadBSP (fun W hW => BR.out.ext hW) aggKey hsy ?_ _ rfl rfl; rfl) (by assumption) ?_
            try simp only [Act.put, List.setIfInBounds_toArray, List.set_cons_zero, List.set_cons_succ]
            iterate 3
              refine tkD 0 (by simp only [List.size_toArray, List.length_cons, List.length_nil]; rfl) (by simp only [List.getElem?_toArray, List.getElem?_cons_zero, List.getElem?_cons_succ]; rfl) (by kernel_rfl) (by exact fun _ _ _ h => h) (by first | (exact Or.inl ⟨by rfl, by intro w hSw; (try dsimp only at hSw); go_simp; with_reducible rfl⟩) | (exact Or.inr ⟨by rfl, by rfl⟩)) (by assumption) ?_
              try simp only [Act.put, List.setIfInBounds_toArray, List.set_cons_zero, List.set_cons_succ]
            refine tkI 7 (v := (.agg (numsA .u8 y))) (by simp only [List.getElem?_toArray, List.getElem?_cons_zero, List.getElem?_cons_succ]; rfl) (by kernel_rfl) (by exact fun _ _ _ h => h) (by refine yields_loadSP g (o + k * 32) (nums .u8 y) (by rw [nums_length, hy32]; exact aggKey) (fun W hW j u hu => by have := hC1.out W (HY.out.trans hW) j u hu; rwa [Addr.add_lit] at this) ?_ _ rfl rfl; rfl) (by assumption) ?_
            try simp only [Act.put, List.setIfInBounds_toArray, List.set_cons_zero, List.set_cons_succ]
            iterate 2
              refine tkD 0 (by simp only [List.size_toArray, List.length_cons, List.length_nil]; rfl) (by simp only [List.getElem?_toArray, List.getElem?_cons_zero, List.getElem?_cons_succ]; rfl) (by kernel_rfl) (by exact fun _ _ _ h => h) (by first | (exact Or.inl ⟨by rfl, by intro w hSw; (try dsimp only at hSw); go_simp; with_reducible rfl⟩) | (exact Or.inr ⟨by rfl, by rfl⟩)) (by assumption) ?_
              try simp only [Act.put, List.setIfInBounds_toArray, List.set_cons_zero, List.set_cons_succ]
            refine wpAnyH_done (by kernel_rfl) ?_ _
            replace HY := Lib.hid (HY.out.trans hHeld)
            clear hHeld BR heq
            have q6 : IntKind.i64.wrap ((n : Int) - 1) = ((n - 1 : Nat) : Int) := by rw [IntWalk.i64_in _ (by omega)]; omega
            have q7 : (0 : Int) ≤ ((n - 1 : Nat) : Int) := by omega
            have q8 : ((n - 1 : Nat) : Int) ≤ 64 := by omega
            have q9 := HST.out (n - 1) (by rw [HTL.out]; omega)
            have HF2 := Lib.hid (HFK.out (n - 1) (HPOS.out (n - 1)))
            obtain ⟨j, hj⟩ : ∃ j, n - 1 = j := ⟨_, rfl⟩
            rw [hj] at q6 q7 q8 q9 HF2 HM
            have HJ := Lib.hid hj
            generalize strOfNums ((textK y).take j) = TQ at q9 HF2
            clear hj
            go_wp2_with fail
            refine (HF2.out _ (HRL2.out.ext (by decide) HY.out)).mono ?_
            rintro e w10 ⟨r2, code2, rfl, hr, _, hr4, hx⟩
            have hst2 := St.nums (k := .u8) hr.1
            have hE := hx.trans (ext_alloc w10 (.cells (numsA .u8 r2) 28))
            replace HY := Lib.hid (HX.out.trans (HY.out.trans hE))
            have HR4 := Lib.hid hr4
            clear hx hE hr hr4 q9 HF2
            by_cases hn3 : 1 < n
            · obtain rfl : code2 = 4 := HR4.out (HM.out hn3)
              have p1 : (1 : Int) < (n : Int) := by omega
              go_wp2_with (refine wpl_storeNewB aggKey hst2 rfl rfl _ _ rfl rfl rfl rfl ?_)
              go_roundw
              case rel => exact ⟨k + 1, by omega, by go_num, HY.out⟩
              case measure => simp [intOf]; omega
            · have p1 : decide ((1 : Int) < (n : Int)) = false := decide_eq_false (by omega)
              go_wp2_with (refine wpl_storeNewB aggKey hst2 rfl rfl _ _ rfl rfl rfl rfl ?_)
              go_roundw
              case rel => exact ⟨k + 1, by omega, by go_num, HY.out⟩
              case measure => simp [intOf]; omega
          · obtain rfl : k = ks.length := by omega
            have XW2 := Lib.hid (XW1.out.trans HX.out)
            clear HX XW1 HRL1 HRS1
            go_wp2_with fail
            refine (a2At_any _ x1 0 256 (by omega) _ _ (H1.out.ext (by decide) XW2.out) (by omega)).mono ?_
            rintro e w' ⟨fx, rfl, fx0, fx1, rfl⟩
            have fx2 : fx ≤ 255 := by omega
            have fxw := u8_inP fx fx0 fx2
            clear fx1
            go_wp2_with fail
            refine (a2At_any _ x1 1 256 (by omega) _ _ (H1.out.ext (by decide) XW2.out) (by omega)).mono ?_
            rintro e w' ⟨fy, rfl, fy0, fy1, rfl⟩
            have fy2 : fy ≤ 255 := by omega
            have fyw := u8_inP fy fy0 fy2
            clear fy1
            have HKF := Lib.hid (show K32 (fx :: fy :: List.replicate 30 0) from ⟨rfl, fun z hz => by
              rcases List.mem_cons.1 hz with rfl | hz
              · exact ⟨fx0, fx2⟩
              · rcases List.mem_cons.1 hz with rfl | hz
                · exact ⟨fy0, fy2⟩
                · obtain rfl := (List.mem_replicate.1 hz).2; omega⟩)
            have hbt := built_twoK fx fy
            generalize fx :: fy :: List.replicate 30 0 = f at HKF hbt
            have hstf := St.nums (k := .u8) HKF.out.1
            have hszf := sizeN (k := .u8) HKF.out.1
            have hE := ext_alloc wr (.cells (numsA .u8 f) 28)
            have HRL3 := Lib.hid (HRL2.out.ext (by decide) hE)
            have HRS3 := Lib.hid (HRS2.out.ext (by decide) hE)
            have XW3 := Lib.hid (XW2.out.trans hE)
            have BF0 := Lib.hid (Blk.new wr 28 (numsA .u8 f))
            clear hE HRL2 HRS2 XW2 fx0 fy0 fx2 fy2
            go_wp2_with (first
              | (refine wpl_buildN rfl rfl hbt ?_)
              | (refine wpl_storeNewB aggKey hstf rfl rfl _ _ rfl rfl rfl rfl ?_))
            obtain ⟨gF, hgF⟩ : ∃ gF, wr.heap.size = gF := ⟨_, rfl⟩
            rw [hgF] at BF0 ⊢
            generalize wr.alloc (.cells (numsA .u8 f) 28) = w5 at HRL3 HRS3 XW3 BF0 ⊢
            clear hbt fxw fyw hgF
            refine (a2At_any _ x1 2 6 (by omega) _ _ (H1.out.ext (by decide) XW3.out) (by omega)).mono ?_
            rintro e w' ⟨c, rfl, hc0, hc1, rfl⟩
            obtain ⟨c, rfl⟩ := Int.eq_ofNat_of_zero_le hc0
            have hc2 : c ≤ 256 := by omega
            clear hc1
            go_wp2_with (refine wpl_loadB BF0.out aggKey hszf rfl _ rfl rfl ?_)
            refine (HNK.out f HKF.out c hc2 _ HRL3.out).mono ?_
            rintro e w6 ⟨v6, D2, rfl, hp, hs, hrn, hx⟩
            have hnp := HNP.out f HKF.out D2 hp hs
            have hDl := hp.length_eq
            have HRL4 := Lib.hid (HRL3.out.ext (by decide) hx)
            have HRS4 := Lib.hid (HRS3.out.ext (by decide) hx)
            have XW4 := Lib.hid (XW3.out.trans hx)
            have BF := Lib.hid (BF0.out.ext hx)
            obtain ⟨N, hN⟩ : ∃ N, D2.take (min c D2.length) = N := ⟨_, rfl⟩
            have hNl : N.length = min c D.length := by rw [← hN, List.length_take, hDl]; omega
            have HNM := Lib.hid (show ∀ x ∈ N, x ∈ ks from fun x hx => (HMEM.out x).1 (hp.subset (by rw [← hN] at hx; exact List.mem_of_mem_take hx)))
            have HNS := Lib.hid (show ∀ (i : Nat) (h0 : 0 < i) (hi : i < N.length), cmpL (xorL (N[i - 1]'(Nat.lt_of_le_of_lt (Nat.sub_le i 1) hi)) f) (xorL (N[i]'hi) f) = -1 from by
              subst hN
              exact fun i h0 hi => near_step hnp _ i h0 hi)
            have HNF := Lib.hid (show ∀ (i : Nat) (hi : i < N.length) (x : List Int), x ∈ D → x ∉ N → cmpL (xorL x f) (xorL (N[i]'hi) f) = 1 from by
              subst hN
              exact fun i hi x hx hn => near_far hnp _ i hi x (hp.symm.subset hx) hn)
            rw [hN] at hrn
            clear hN
            obtain ⟨An, cn, e1, hcn, _, _, _⟩ := id hrn
            subst e1
            have HRN := Lib.hid hrn
            clear hx hp hs hnp hDl hrn HRL3 HRS3 XW3 BF0 HNK HNP HPW
            have HNL := Lib.hid hNl
            have p1 : decide ((c : Int) < (N.length : Int)) = false := decide_eq_false (by omega)
            have p1n : decide (c < N.length) = false := decide_eq_false (by omega)
            clear hNl
            by_cases hcn2 : N.length < c
            · have p2 : (N.length : Int) < (c : Int) := by omega
              have p3 : ((N.length : Int) != (D.length : Int)) = false := by rw [bne_eq_false_iff_eq]; have := HNL.out; omega
              go_wp2_with fail
              go_loopw [21, 22, 23] (fun i _ _ wr => ∃ k : Nat, k ≤ N.length ∧ i = .int .i64 k ∧ Ext w6 wr) (fun i _ _ _ => N.length - (intOf i).toNat)
              case atStart => exact ⟨0, by omega, rfl, Ext.refl _⟩
              case round =>
                obtain ⟨k, hk, rfl, hx⟩ := hrel
                have HX := Lib.hid hx
                have HRL5 := Lib.hid (HRL4.out.ext (by decide) hx)
                have HRS5 := Lib.hid (HRS4.out.ext (by decide) hx)
                have HRN5 := Lib.hid (HRN.out.ext (by decide) hx)
                have BF1 := Lib.hid (BF.out.ext hx)
                clear hx
                by_cases hlt : k < N.length
                · obtain ⟨gn, on, rfl, hk1, hc1⟩ := K32.list8 HRN5.out rfl k hlt
                  have hin := HNM.out _ (List.getElem_mem hlt)
                  have HH := Lib.hid (show ∀ W, RdL tKey W (fun _ => True) (.slice Al ks.length cl) ks → Calls Try.prog 40 #[.slice Al ks.length cl, .agg (numsA .u8 (N[k]'hlt))] W fun q w' => q = .returned (.bool true) ∧ Ext W w' from fun W hW => by
                    have := a2Has_any _ ks (N[k]'hlt) hk1 W (fun _ => True) hW
                    rwa [decide_eq_true hin] at this)
                  have HXC := Lib.hid (fun W => xorKeys_any (N[k]'hlt) f hk1 HKF.out W)
                  have HKX := Lib.hid (xorL_ok hk1 HKF.out)
                  have HFAR := Lib.hid (fun x hx hn => HNF.out k hlt x hx hn)
                  have hkI : (k : Int) < (N.length : Int) := by omega
                  have hk0 : (0 : Int) ≤ (k : Int) := by omega
                  have HK1 := Lib.hid hk1
                  have HC1 := Lib.hid hc1
                  have HST := Lib.hid (fun (h0 : 0 < k) => HNS.out k h0 hlt)
                  obtain ⟨y1, hy1⟩ : ∃ y1, N[k]'hlt = y1 := ⟨_, rfl⟩
                  rw [hy1] at HH HXC HKX HFAR HK1 HC1 HST
                  obtain ⟨X, hX⟩ : ∃ X, xorL y1 f = X := ⟨_, rfl⟩
                  rw [hX] at HXC HKX HFAR HST
                  have hstX := St.nums (k := .u8) HKX.out.1
                  have hszX := sizeN (k := .u8) HKX.out.1
                  have hZA : (Try.prog.info? 28).map (·.zero) = some (some (.agg (numsA .u8 (List.replicate 32 0)))) := by kernel_rfl
                  have HZA := Lib.hid hZA
                  have HZS := Lib.hid (show (numsA .u8 (List.replicate 32 0)).size = 32 by simp [numsA, nums])
                  generalize numsA .u8 (List.replicate 32 0) = ZA at HZA HZS
                  clear hk1 hc1 hin hy1 hX hZA
                  go_wp2_with fail
                  apply cutG (Φ := fun g W => Ext wr W ∧ Blk W g 28 (numsA .u8 X))
                  case reg =>
                    intro hN
                    refine wp_region_held_drew (S := fun W => Ext wr W) (by kernel_rfl) (Ext.refl _).drew (fun hHeld => ?_)
                    iterate 3
                      refine tkD 0 (by simp only [List.size_toArray, List.length_cons, List.length_nil]; rfl) (by simp only [List.getElem?_toArray, List.getElem?_cons_zero, List.getElem?_cons_succ]; rfl) (by kernel_rfl) (by exact fun _ _ _ h => h) (by first | (exact Or.inl ⟨by rfl, by intro w hSw; (try dsimp only at hSw); go_simp; with_reducible rfl⟩) | (exact Or.inr ⟨by rfl, by rfl⟩)) (by assumption) ?_
                      try simp only [Act.put, List.setIfInBounds_toArray, List.set_cons_zero, List.set_cons_succ]
                    refine tkI 3 (v := (.agg (numsA .u8 y1))) (by simp only [List.getElem?_toArray, List.getElem?_cons_zero, List.getElem?_cons_succ]; rfl) (by kernel_rfl) (by exact fun _ _ _ h => h) (by refine yields_loadSP gn (on + k * 32) (nums .u8 y1) (by rw [nums_length, HK1.out.1]; exact aggKey) (fun W hW j u hu => hW.cell (HC1.out j u hu)) ?_ _ rfl rfl; rfl) (by assumption) ?_
                    try simp only [Act.put, List.setIfInBounds_toArray, List.set_cons_zero, List.set_cons_succ]
                    refine tkI 4 (v := (.agg (numsA .u8 f))) (by simp only [List.getElem?_toArray, List.getElem?_cons_zero, List.getElem?_cons_succ]; rfl) (by kernel_rfl) (by exact fun _ _ _ h => h) (by refine yields_loadBSP (fun W hW => BF1.out.ext hW) aggKey hszf ?_ _ rfl rfl; rfl) (by assumption) ?_
                    try simp only [Act.put, List.setIfInBounds_toArray, List.set_cons_zero, List.set_cons_succ]
                    refine wpAnyH_ready (rs := [5, 6]) (by kernel_rfl) (by simp) (AllReadyH.cons (o := ?oy645) ?hy645 (fun K hK => ?sy645) (AllReadyH.cons (o := ?oy646) ?hy646 (fun K hK => ?sy646) AllReadyH.nil))
                    case hy645 => simp only [List.getElem?_toArray, List.getElem?_cons_zero, List.getElem?_cons_succ]; rfl
                    case hy646 => simp only [List.getElem?_toArray, List.getElem?_cons_zero, List.getElem?_cons_succ]; rfl
                    case sy645 =>
                      go_simp
                      refine (HXC.out _).mono ?_
                      rintro e w7 ⟨rfl, hx⟩
                      have hH2 := hHeld.trans hx
                      refine hK.out _ _ hH2 (fun _ => ?_)
                      clear hHeld hK K
                      have hHeld := hH2
                      clear hH2
                      try simp only [Act.put, List.setIfInBounds_toArray, List.set_cons_zero, List.set_cons_succ]
                      refine wpAnyH_ready (rs := [6]) (by kernel_rfl) (by simp) (AllReadyH.cons (o := ?oy656) ?hy656 (fun K hK => ?sy656) AllReadyH.nil)
                      case hy656 => simp only [List.getElem?_toArray, List.getElem?_cons_zero, List.getElem?_cons_succ]; rfl
                      refine stp_alloc ZA HZA.out rfl rfl ?_
                      have hE6 := ext_alloc w7 (.cells ZA 28)
                      have BG := Lib.hid (Blk.new w7 28 ZA)
                      have hgB : wr.heap.size ≤ w7.heap.size := hHeld.size
                      have hH2 := hHeld.trans hE6
                      refine hK.out _ _ hH2 (fun _ => ?_)
                      clear hHeld hK K
                      have hHeld := hH2
                      clear hH2
                      try simp only [Act.put, List.setIfInBounds_toArray, List.set_cons_zero, List.set_cons_succ]
                      clear hE6
                      obtain ⟨g6, hg6⟩ : ∃ g6, w7.heap.size = g6 := ⟨_, rfl⟩
                      rw [hg6] at BG hgB ⊢
                      generalize w7.alloc (.cells ZA 28) = w8 at hHeld BG ⊢
                      refine wpAnyH_ready (rs := [7]) (by kernel_rfl) (by simp) (AllReadyH.cons (o := ?oy667) ?hy667 (fun K hK => ?sy667) AllReadyH.nil)
                      case hy667 => simp only [List.getElem?_toArray, List.getElem?_cons_zero, List.getElem?_cons_succ]; rfl
                      refine stp_storeP (off := 0) BG.out aggKey hstX (by have := HZS.out; omega) rfl _ _ rfl rfl rfl rfl ?_
                      rw [splice_all _ _ (by rw [Array.length_toList, HZS.out, hstX.size])]
                      have e9 : (numsA .u8 X).toList.toArray = numsA .u8 X := by simp
                      rw [e9]
                      clear e9
                      have hH2 := hHeld.setRow (g := g6) hgB (numsA .u8 X)
                      have BG9 := Lib.hid (BG.out.setRow (numsA .u8 X))
                      refine hK.out _ _ hH2 (fun _ => ?_)
                      clear hHeld hK K
                      have hHeld := hH2
                      clear hH2
                      try simp only [Act.put, List.setIfInBounds_toArray, List.set_cons_zero, List.set_cons_succ]
                      refine wpAnyH_done (by kernel_rfl) ?_ _
                      exact hN g6 _ ⟨hHeld, BG9.out⟩
                    case sy646 =>
                      refine stp_alloc ZA HZA.out rfl rfl ?_
                      have hE6 := ext_alloc wr.drew (.cells ZA 28)
                      have BG0 := Lib.hid (Blk.new wr.drew 28 ZA)
                      have hgB : wr.heap.size ≤ wr.drew.heap.size := Nat.le_refl _
                      have hH2 := hHeld.trans hE6
                      refine hK.out _ _ hH2 (fun _ => ?_)
                      clear hHeld hK K
                      have hHeld := hH2
                      clear hH2
                      try simp only [Act.put, List.setIfInBounds_toArray, List.set_cons_zero, List.set_cons_succ]
                      clear hE6
                      obtain ⟨g6, hg6⟩ : ∃ g6, wr.drew.heap.size = g6 := ⟨_, rfl⟩
                      rw [hg6] at BG0 hgB ⊢
                      generalize wr.drew.alloc (.cells ZA 28) = w8 at hHeld BG0 ⊢
                      refine wpAnyH_ready (rs := [5]) (by kernel_rfl) (by simp) (AllReadyH.cons (o := ?oy675) ?hy675 (fun K hK => ?sy675) AllReadyH.nil)
                      case hy675 => simp only [List.getElem?_toArray, List.getElem?_cons_zero, List.getElem?_cons_succ]; rfl
                      go_simp
                      refine (HXC.out _).mono ?_
                      rintro e w7 ⟨rfl, hx⟩
                      have BG := Lib.hid (BG0.out.ext hx)
                      have hH2 := hHeld.trans hx
                      refine hK.out _ _ hH2 (fun _ => ?_)
                      clear hHeld hK K
                      have hHeld := hH2
                      clear hH2
                      try simp only [Act.put, List.setIfInBounds_toArray, List.set_cons_zero, List.set_cons_succ]
                      refine wpAnyH_ready (rs := [7]) (by kernel_rfl) (by simp) (AllReadyH.cons (o := ?oy687) ?hy687 (fun K hK => ?sy687) AllReadyH.nil)
                      case hy687 => simp only [List.getElem?_toArray, List.getElem?_cons_zero, List.getElem?_cons_succ]; rfl
                      refine stp_storeP (off := 0) BG.out aggKey hstX (by have := HZS.out; omega) rfl _ _ rfl rfl rfl rfl ?_
                      rw [splice_all _ _ (by rw [Array.length_toList, HZS.out, hstX.size])]
                      have e9 : (numsA .u8 X).toList.toArray = numsA .u8 X := by simp
                      rw [e9]
                      clear e9
                      have hH2 := hHeld.setRow (g := g6) hgB (numsA .u8 X)
                      have BG9 := Lib.hid (BG.out.setRow (numsA .u8 X))
                      refine hK.out _ _ hH2 (fun _ => ?_)
                      clear hHeld hK K
                      have hHeld := hH2
                      clear hH2
                      try simp only [Act.put, List.setIfInBounds_toArray, List.set_cons_zero, List.set_cons_succ]
                      refine wpAnyH_done (by kernel_rfl) ?_ _
                      exact hN g6 _ ⟨hHeld, BG9.out⟩
                  case rest =>
                    intro gX w7 hΦ
                    obtain ⟨hx, hb⟩ := hΦ
                    have HX7 := Lib.hid (HX.out.trans hx)
                    have BX := Lib.hid hb
                    have BF7 := Lib.hid (BF1.out.ext hx)
                    have HRL7 := Lib.hid (HRL5.out.ext (by decide) hx)
                    have HRS7 := Lib.hid (HRS5.out.ext (by decide) hx)
                    have HRN7 := Lib.hid (HRN5.out.ext (by decide) hx)
                    have HC7 := Lib.hid (fun j u hu => hx.cell (HC1.out j u hu))
                    clear hx hb HXC HX HRL5 HRS5 BF1
                    go_wp2_with fail
                    apply cutX (Φ := fun W => Ext w7 W)
                    case reg =>
                      intro hN
                      by_cases hz : 0 < k
                      · obtain ⟨hk2, hc2⟩ := K32.cell8 HRN7.out rfl (k - 1) (by omega)
                        have HST0 := Lib.hid (HST.out hz)
                        have HX2 := Lib.hid (fun W => xorKeys_any (N[k - 1]'(Nat.lt_of_le_of_lt (Nat.sub_le k 1) hlt)) f hk2 HKF.out W)
                        have HKX2 := Lib.hid (xorL_ok hk2 HKF.out)
                        have HK2 := Lib.hid hk2
                        have HC8 := Lib.hid hc2
                        generalize (N[k - 1]'(Nat.lt_of_le_of_lt (Nat.sub_le k 1) hlt)) = y2 at HST0 HX2 HKX2 HK2 HC8
                        have HCM := Lib.hid (show ∀ W, Calls Try.prog 27 #[.agg (numsA .u8 (xorL y2 f)), .agg (numsA .u8 X)] W fun q w' => q = .returned (.int .i64 (-1)) ∧ Ext W w' from fun W => by
                          have := compareKeysI_any (xorL y2 f) X HKX2.out HKX.out W
                          rwa [HST0.out] at this)
                        generalize xorL y2 f = X2 at HX2 HCM
                        clear hk2 hc2 HST0 HKX2
                        have hzI : (0 : Int) < (k : Int) := by omega
                        have m1 : IntKind.i64.wrap ((k : Int) - 1) = ((k - 1 : Nat) : Int) := by rw [IntWalk.i64_in _ (by omega)]; omega
                        have m2 : (0 : Int) ≤ ((k - 1 : Nat) : Int) := by omega
                        have m3 : ((k - 1 : Nat) : Int) < (N.length : Int) := by omega
                        obtain ⟨j, hj⟩ : ∃ j, k - 1 = j := ⟨_, rfl⟩
                        rw [hj] at m1 m2 m3 HC8
                        clear hj
                        refine wp_region_held_drew (S := fun W => Ext w7 W) (by kernel_rfl) (Ext.refl _).drew (fun hHeld => ?_)
                        iterate 4
                          refine tkD 0 (by simp only [List.size_toArray, List.length_cons, List.length_nil]; rfl) (by simp only [List.getElem?_toArray, List.getElem?_cons_zero, List.getElem?_cons_succ]; rfl) (by kernel_rfl) (by exact fun _ _ _ h => h) (by first | (exact Or.inl ⟨by rfl, by intro w hSw; (try dsimp only at hSw); go_simp; with_reducible rfl⟩) | (exact Or.inr ⟨by rfl, by rfl⟩)) (by assumption) ?_
                          try simp only [Act.put, List.setIfInBounds_toArray, List.set_cons_zero, List.set_cons_succ]
                        refine tkI 4 (v := (.agg (numsA .u8 y1))) (by simp only [List.getElem?_toArray, List.getElem?_cons_zero, List.getElem?_cons_succ]; rfl) (by kernel_rfl) (by exact fun _ _ _ h => h) (by refine yields_loadSP gn (on + k * 32) (nums .u8 y1) (by rw [nums_length, HK1.out.1]; exact aggKey) (fun W hW j u hu => hW.cell (HC7.out j u hu)) ?_ _ rfl rfl; rfl) (by assumption) ?_
                        try simp only [Act.put, List.setIfInBounds_toArray, List.set_cons_zero, List.set_cons_succ]
                        refine wpAnyH_ready (rs := [5]) (by kernel_rfl) (by simp) (AllReadyH.cons (o := ?oy745) ?hy745 (fun K hK => ?sy745) AllReadyH.nil)
                        case hy745 => simp only [List.getElem?_toArray, List.getElem?_cons_zero, List.getElem?_cons_succ]; rfl
                        go_simp
                        refine (HH.out _ (HRL7.out.ext (by decide) hHeld)).mono ?_
                        rintro e w8 ⟨rfl, hx⟩
                        have hH2 := hHeld.trans hx
                        refine hK.out _ _ hH2 (fun _ => ?_)
                        clear hHeld hK K
                        have hHeld := hH2
                        clear hH2
                        try simp only [Act.put, List.setIfInBounds_toArray, List.set_cons_zero, List.set_cons_succ]
                        iterate 9
                          refine tkD 0 (by simp only [List.size_toArray, List.length_cons, List.length_nil]; rfl) (by simp only [List.getElem?_toArray, List.getElem?_cons_zero, List.getElem?_cons_succ]; rfl) (by kernel_rfl) (by exact fun _ _ _ h => h) (by first | (exact Or.inl ⟨by rfl, by intro w hSw; (try dsimp only at hSw); go_simp; with_reducible rfl⟩) | (exact Or.inr ⟨by rfl, by rfl⟩)) (by assumption) ?_
                          try simp only [Act.put, List.setIfInBounds_toArray, List.set_cons_zero, List.set_cons_succ]
                        refine tkI 15 (v := (.agg (numsA .u8 y2))) (by simp only [List.getElem?_toArray, List.getElem?_cons_zero, List.getElem?_cons_succ]; rfl) (by kernel_rfl) (by exact fun _ _ _ h => h) (by refine yields_loadSP gn (on + j * 32) (nums .u8 y2) (by rw [nums_length, HK2.out.1]; exact aggKey) (fun W hW j u hu => hW.cell (HC8.out j u hu)) ?_ _ rfl rfl; rfl) (by assumption) ?_
                        try simp only [Act.put, List.setIfInBounds_toArray, List.set_cons_zero, List.set_cons_succ]
                        refine tkI 16 (v := (.agg (numsA .u8 f))) (by simp only [List.getElem?_toArray, List.getElem?_cons_zero, List.getElem?_cons_succ]; rfl) (by kernel_rfl) (by exact fun _ _ _ h => h) (by refine yields_loadBSP (fun W hW => BF7.out.ext hW) aggKey hszf ?_ _ rfl rfl; rfl) (by assumption) ?_
                        try simp only [Act.put, List.setIfInBounds_toArray, List.set_cons_zero, List.set_cons_succ]
                        refine tkI 18 (v := (.agg (numsA .u8 X))) (by simp only [List.getElem?_toArray, List.getElem?_cons_zero, List.getElem?_cons_succ]; rfl) (by kernel_rfl) (by exact fun _ _ _ h => h) (by refine yields_loadBSP (fun W hW => BX.out.ext hW) aggKey hszX ?_ _ rfl rfl; rfl) (by assumption) ?_
                        try simp only [Act.put, List.setIfInBounds_toArray, List.set_cons_zero, List.set_cons_succ]
                        refine wpAnyH_ready (rs := [17]) (by kernel_rfl) (by simp) (AllReadyH.cons (o := ?oy8717) ?hy8717 (fun K hK => ?sy8717) AllReadyH.nil)
                        case hy8717 => simp only [List.getElem?_toArray, List.getElem?_cons_zero, List.getElem?_cons_succ]; rfl
                        go_simp
                        refine (HX2.out _).mono ?_
                        rintro e w9 ⟨rfl, hx⟩
                        have hH2 := hHeld.trans hx
                        refine hK.out _ _ hH2 (fun _ => ?_)
                        clear hHeld hK K
                        have hHeld := hH2
                        clear hH2
                        try simp only [Act.put, List.setIfInBounds_toArray, List.set_cons_zero, List.set_cons_succ]
                        refine wpAnyH_ready (rs := [19]) (by kernel_rfl) (by simp) (AllReadyH.cons (o := ?oy8819) ?hy8819 (fun K hK => ?sy8819) AllReadyH.nil)
                        case hy8819 => simp only [List.getElem?_toArray, List.getElem?_cons_zero, List.getElem?_cons_succ]; rfl
                        go_simp
                        refine (HCM.out _).mono ?_
                        rintro e w10 ⟨rfl, hx⟩
                        have hH2 := hHeld.trans hx
                        refine hK.out _ _ hH2 (fun _ => ?_)
                        clear hHeld hK K
                        have hHeld := hH2
                        clear hH2
                        try simp only [Act.put, List.setIfInBounds_toArray, List.set_cons_zero, List.set_cons_succ]
                        iterate 3
                          refine tkD 0 (by simp only [List.size_toArray, List.length_cons, List.length_nil]; rfl) (by simp only [List.getElem?_toArray, List.getElem?_cons_zero, List.getElem?_cons_succ]; rfl) (by kernel_rfl) (by exact fun _ _ _ h => h) (by first | (exact Or.inl ⟨by rfl, by intro w hSw; (try dsimp only at hSw); go_simp; with_reducible rfl⟩) | (exact Or.inr ⟨by rfl, by rfl⟩)) (by assumption) ?_
                          try simp only [Act.put, List.setIfInBounds_toArray, List.set_cons_zero, List.set_cons_succ]
                        refine wpAnyH_done (by kernel_rfl) ?_ _
                        exact hN _ _ _ _ _ _ _ _ _ _ _ _ _ hHeld
                      · have hzd : decide ((0 : Int) < (k : Int)) = false := decide_eq_false (by omega)
                        have hzn : decide (0 < k) = false := decide_eq_false hz
                        refine wp_region_held_drew (S := fun W => Ext w7 W) (by kernel_rfl) (Ext.refl _).drew (fun hHeld => ?_)
                        iterate 4
                          refine tkD 0 (by simp only [List.size_toArray, List.length_cons, List.length_nil]; rfl) (by simp only [List.getElem?_toArray, List.getElem?_cons_zero, List.getElem?_cons_succ]; rfl) (by kernel_rfl) (by exact fun _ _ _ h => h) (by first | (exact Or.inl ⟨by rfl, by intro w hSw; (try dsimp only at hSw); go_simp; with_reducible rfl⟩) | (exact Or.inr ⟨by rfl, by rfl⟩)) (by assumption) ?_
                          try simp only [Act.put, List.setIfInBounds_toArray, List.set_cons_zero, List.set_cons_succ]
                        refine tkI 4 (v := (.agg (numsA .u8 y1))) (by simp only [List.getElem?_toArray, List.getElem?_cons_zero, List.getElem?_cons_succ]; rfl) (by kernel_rfl) (by exact fun _ _ _ h => h) (by refine yields_loadSP gn (on + k * 32) (nums .u8 y1) (by rw [nums_length, HK1.out.1]; exact aggKey) (fun W hW j u hu => hW.cell (HC7.out j u hu)) ?_ _ rfl rfl; rfl) (by assumption) ?_
                        try simp only [Act.put, List.setIfInBounds_toArray, List.set_cons_zero, List.set_cons_succ]
                        refine wpAnyH_ready (rs := [5]) (by kernel_rfl) (by simp) (AllReadyH.cons (o := ?oy975) ?hy975 (fun K hK => ?sy975) AllReadyH.nil)
                        case hy975 => simp only [List.getElem?_toArray, List.getElem?_cons_zero, List.getElem?_cons_succ]; rfl
                        go_simp
                        refine (HH.out _ (HRL7.out.ext (by decide) hHeld)).mono ?_
                        rintro e w8 ⟨rfl, hx⟩
                        have hH2 := hHeld.trans hx
                        refine hK.out _ _ hH2 (fun _ => ?_)
                        clear hHeld hK K
                        have hHeld := hH2
                        clear hH2
                        try simp only [Act.put, List.setIfInBounds_toArray, List.set_cons_zero, List.set_cons_succ]
                        iterate 5
                          refine tkD 0 (by simp only [List.size_toArray, List.length_cons, List.length_nil]; rfl) (by simp only [List.getElem?_toArray, List.getElem?_cons_zero, List.getElem?_cons_succ]; rfl) (by kernel_rfl) (by exact fun _ _ _ h => h) (by first | (exact Or.inl ⟨by rfl, by intro w hSw; (try dsimp only at hSw); go_simp; with_reducible rfl⟩) | (exact Or.inr ⟨by rfl, by rfl⟩)) (by assumption) ?_
                          try simp only [Act.put, List.setIfInBounds_toArray, List.set_cons_zero, List.set_cons_succ]
                        refine tkI 11 (v := undef) (by simp only [List.getElem?_toArray, List.getElem?_cons_zero, List.getElem?_cons_succ]; rfl) (by kernel_rfl) (by exact fun _ _ _ h => h) (by exact Or.inr ⟨by rfl, rfl⟩) (by assumption) ?_
                        try simp only [Act.put, List.setIfInBounds_toArray, List.set_cons_zero, List.set_cons_succ]
                        refine tkI 12 (v := undef) (by simp only [List.getElem?_toArray, List.getElem?_cons_zero, List.getElem?_cons_succ]; rfl) (by kernel_rfl) (by exact fun _ _ _ h => h) (by exact Or.inr ⟨by rfl, rfl⟩) (by assumption) ?_
                        try simp only [Act.put, List.setIfInBounds_toArray, List.set_cons_zero, List.set_cons_succ]
                        refine tkI 13 (v := undef) (by simp only [List.getElem?_toArray, List.getElem?_cons_zero, List.getElem?_cons_succ]; rfl) (by kernel_rfl) (by exact fun _ _ _ h => h) (by exact Or.inr ⟨by rfl, rfl⟩) (by assumption) ?_
                        try simp only [Act.put, List.setIfInBounds_toArray, List.set_cons_zero, List.set_cons_succ]
                        refine tkI 14 (v := undef) (by simp only [List.getElem?_toArray, List.getElem?_cons_zero, List.getElem?_cons_succ]; rfl) (by kernel_rfl) (by exact fun _ _ _ h => h) (by exact Or.inr ⟨by rfl, rfl⟩) (by assumption) ?_
                        try simp only [Act.put, List.setIfInBounds_toArray, List.set_cons_zero, List.set_cons_succ]
                        refine tkI 15 (v := undef) (by simp only [List.getElem?_toArray, List.getElem?_cons_zero, List.getElem?_cons_succ]; rfl) (by kernel_rfl) (by exact fun _ _ _ h => h) (by exact Or.inr ⟨by rfl, rfl⟩) (by assumption) ?_
                        try simp only [Act.put, List.setIfInBounds_toArray, List.set_cons_zero, List.set_cons_succ]
                        refine tkI 16 (v := undef) (by simp only [List.getElem?_toArray, List.getElem?_cons_zero, List.getElem?_cons_succ]; rfl) (by kernel_rfl) (by exact fun _ _ _ h => h) (by exact Or.inr ⟨by rfl, rfl⟩) (by assumption) ?_
                        try simp only [Act.put, List.setIfInBounds_toArray, List.set_cons_zero, List.set_cons_succ]
                        refine tkI 17 (v := undef) (by simp only [List.getElem?_toArray, List.getElem?_cons_zero, List.getElem?_cons_succ]; rfl) (by kernel_rfl) (by exact fun _ _ _ h => h) (by exact Or.inr ⟨by rfl, rfl⟩) (by assumption) ?_
                        try simp only [Act.put, List.setIfInBounds_toArray, List.set_cons_zero, List.set_cons_succ]
                        refine tkI 18 (v := undef) (by simp only [List.getElem?_toArray, List.getElem?_cons_zero, List.getElem?_cons_succ]; rfl) (by kernel_rfl) (by exact fun _ _ _ h => h) (by exact Or.inr ⟨by rfl, rfl⟩) (by assumption) ?_
                        try simp only [Act.put, List.setIfInBounds_toArray, List.set_cons_zero, List.set_cons_succ]
                        refine tkI 19 (v := undef) (by simp only [List.getElem?_toArray, List.getElem?_cons_zero, List.getElem?_cons_succ]; rfl) (by kernel_rfl) (by exact fun _ _ _ h => h) (by exact Or.inr ⟨by rfl, rfl⟩) (by assumption) ?_
                        try simp only [Act.put, List.setIfInBounds_toArray, List.set_cons_zero, List.set_cons_succ]
                        refine tkI 20 (v := undef) (by simp only [List.getElem?_toArray, List.getElem?_cons_zero, List.getElem?_cons_succ]; rfl) (by kernel_rfl) (by exact fun _ _ _ h => h) (by exact Or.inr ⟨by rfl, rfl⟩) (by assumption) ?_
                        try simp only [Act.put, List.setIfInBounds_toArray, List.set_cons_zero, List.set_cons_succ]
                        iterate 2
                          refine tkD 0 (by simp only [List.size_toArray, List.length_cons, List.length_nil]; rfl) (by simp only [List.getElem?_toArray, List.getElem?_cons_zero, List.getElem?_cons_succ]; rfl) (by kernel_rfl) (by exact fun _ _ _ h => h) (by first | (exact Or.inl ⟨by rfl, by intro w hSw; (try dsimp only at hSw); go_simp; with_reducible rfl⟩) | (exact Or.inr ⟨by rfl, by rfl⟩)) (by assumption) ?_
                          try simp only [Act.put, List.setIfInBounds_toArray, List.set_cons_zero, List.set_cons_succ]
                        refine wpAnyH_done (by kernel_rfl) ?_ _
                        exact hN _ _ _ _ _ _ _ _ _ _ _ _ _ hHeld
                    case rest =>
                      intro u198 u199 u200 u201 u202 u203 u204 u205 u206 u207 u208 u209 w10 hHeld
                      obtain ⟨W9, hW9⟩ : ∃ W9, w10 = W9 := ⟨_, rfl⟩
                      replace HX7 := Lib.hid (HX7.out.trans hHeld)
                      replace BX := Lib.hid (BX.out.ext hHeld)
                      replace BF7 := Lib.hid (BF7.out.ext hHeld)
                      replace HRS7 := Lib.hid (HRS7.out.ext (by decide) hHeld)
                      replace HRN7 := Lib.hid (HRN7.out.ext (by decide) hHeld)
                      clear hHeld
                      rw [hW9] at HX7 BX BF7 HRS7 HRN7 ⊢
                      clear hW9
                      go_wp2_with fail
                      go_loopw [23] (fun i wr => ∃ q : Nat, q ≤ D.length ∧ i = .int .i64 q ∧ Ext W9 wr) (fun i _ => D.length - (intOf i).toNat)
                      case atStart => exact ⟨0, by omega, rfl, Ext.refl _⟩
                      case round =>
                        obtain ⟨q, hq, rfl, hx⟩ := hrel
                        have HX9 := Lib.hid hx
                        have BX9 := Lib.hid (BX.out.ext hx)
                        have BF9 := Lib.hid (BF7.out.ext hx)
                        have HRS9 := Lib.hid (HRS7.out.ext (by decide) hx)
                        have HRN9 := Lib.hid (HRN7.out.ext (by decide) hx)
                        clear hx
                        by_cases hlq : q < D.length
                        · obtain ⟨gs, os, rfl, hks, hcs'⟩ := K32.list8 HRS9.out rfl q hlq
                          have hqI : (q : Int) < (D.length : Int) := by omega
                          have hq0 : (0 : Int) ≤ (q : Int) := by omega
                          have HQ := Lib.hid (fun W hW => a2Has_any (.slice (some ⟨gn, on, none⟩) N.length cn) N (D[q]'hlq) hks W (fun _ => True) hW)
                          have HKS := Lib.hid hks
                          have HCS := Lib.hid hcs'
                          have HF := Lib.hid (fun hn => HFAR.out (D[q]'hlq) (List.getElem_mem hlq) hn)
                          have HX3 := Lib.hid (fun W => xorKeys_any (D[q]'hlq) f hks HKF.out W)
                          have HKX3 := Lib.hid (xorL_ok hks HKF.out)
                          obtain ⟨z, hz3⟩ : ∃ z, D[q]'hlq = z := ⟨_, rfl⟩
                          rw [hz3] at HQ HKS HCS HF HX3 HKX3
                          clear hks hcs' hz3
                          by_cases hzn : z ∈ N
                          · rw [decide_eq_true hzn] at HQ
                            clear hzn HX3 HF HKX3
                            go_wp2_with fail
                            refine wp_region_held_drew (S := fun W => Ext wr W) (by kernel_rfl) (Ext.refl _).drew (fun hHeld => ?_)
                            iterate 4
                              refine tkD 0 (by simp only [List.size_toArray, List.length_cons, List.length_nil]; rfl) (by simp only [List.getElem?_toArray, List.getElem?_cons_zero, List.getElem?_cons_succ]; rfl) (by kernel_rfl) (by exact fun _ _ _ h => h) (by first | (exact Or.inl ⟨by rfl, by intro w hSw; (try dsimp only at hSw); go_simp; with_reducible rfl⟩) | (exact Or.inr ⟨by rfl, by rfl⟩)) (by assumption) ?_
                              try simp only [Act.put, List.setIfInBounds_toArray, List.set_cons_zero, List.set_cons_succ]
                            refine tkI 4 (v := (.agg (numsA .u8 z))) (by simp only [List.getElem?_toArray, List.getElem?_cons_zero, List.getElem?_cons_succ]; rfl) (by kernel_rfl) (by exact fun _ _ _ h => h) (by refine yields_loadSP gs (os + q * 32) (nums .u8 z) (by rw [nums_length, HKS.out.1]; exact aggKey) (fun W hW j u hu => hW.cell (HCS.out j u hu)) ?_ _ rfl rfl; rfl) (by assumption) ?_
                            try simp only [Act.put, List.setIfInBounds_toArray, List.set_cons_zero, List.set_cons_succ]
                            refine wpAnyH_ready (rs := [5]) (by kernel_rfl) (by simp) (AllReadyH.cons (o := ?oy1205) ?hy1205 (fun K hK => ?sy1205) AllReadyH.nil)
                            case hy1205 => simp only [List.getElem?_toArray, List.getElem?_cons_zero, List.getElem?_cons_succ]; rfl
                            go_simp
                            refine (HQ.out _ (HRN9.out.ext (by decide) hHeld)).mono ?_
                            rintro e w11 ⟨rfl, hx⟩
                            have hH2 := hHeld.trans hx
                            refine hK.out _ _ hH2 (fun _ => ?_)
                            clear hHeld hK K
                            have hHeld := hH2
                            clear hH2
                            try simp only [Act.put, List.setIfInBounds_toArray, List.set_cons_zero, List.set_cons_succ]
                            iterate 2
                              refine tkD 0 (by simp only [List.size_toArray, List.length_cons, List.length_nil]; rfl) (by simp only [List.getElem?_toArray, List.getElem?_cons_zero, List.getElem?_cons_succ]; rfl) (by kernel_rfl) (by exact fun _ _ _ h => h) (by first | (exact Or.inl ⟨by rfl, by intro w hSw; (try dsimp only at hSw); go_simp; with_reducible rfl⟩) | (exact Or.inr ⟨by rfl, by rfl⟩)) (by assumption) ?_
                              try simp only [Act.put, List.setIfInBounds_toArray, List.set_cons_zero, List.set_cons_succ]
                            refine tkI 8 (v := undef) (by simp only [List.getElem?_toArray, List.getElem?_cons_zero, List.getElem?_cons_succ]; rfl) (by kernel_rfl) (by exact fun _ _ _ h => h) (by exact Or.inr ⟨by rfl, rfl⟩) (by assumption) ?_
                            try simp only [Act.put, List.setIfInBounds_toArray, List.set_cons_zero, List.set_cons_succ]
                            refine tkI 9 (v := undef) (by simp only [List.getElem?_toArray, List.getElem?_cons_zero, List.getElem?_cons_succ]; rfl) (by kernel_rfl) (by exact fun _ _ _ h => h) (by exact Or.inr ⟨by rfl, rfl⟩) (by assumption) ?_
                            try simp only [Act.put, List.setIfInBounds_toArray, List.set_cons_zero, List.set_cons_succ]
                            refine tkI 10 (v := undef) (by simp only [List.getElem?_toArray, List.getElem?_cons_zero, List.getElem?_cons_succ]; rfl) (by kernel_rfl) (by exact fun _ _ _ h => h) (by exact Or.inr ⟨by rfl, rfl⟩) (by assumption) ?_
                            try simp only [Act.put, List.setIfInBounds_toArray, List.set_cons_zero, List.set_cons_succ]
                            refine tkI 11 (v := undef) (by simp only [List.getElem?_toArray, List.getElem?_cons_zero, List.getElem?_cons_succ]; rfl) (by kernel_rfl) (by exact fun _ _ _ h => h) (by exact Or.inr ⟨by rfl, rfl⟩) (by assumption) ?_
                            try simp only [Act.put, List.setIfInBounds_toArray, List.set_cons_zero, List.set_cons_succ]
                            refine tkI 12 (v := undef) (by simp only [List.getElem?_toArray, List.getElem?_cons_zero, List.getElem?_cons_succ]; rfl) (by kernel_rfl) (by exact fun _ _ _ h => h) (by exact Or.inr ⟨by rfl, rfl⟩) (by assumption) ?_
                            try simp only [Act.put, List.setIfInBounds_toArray, List.set_cons_zero, List.set_cons_succ]
                            refine tkI 13 (v := undef) (by simp only [List.getElem?_toArray, List.getElem?_cons_zero, List.getElem?_cons_succ]; rfl) (by kernel_rfl) (by exact fun _ _ _ h => h) (by exact Or.inr ⟨by rfl, rfl⟩) (by assumption) ?_
                            try simp only [Act.put, List.setIfInBounds_toArray, List.set_cons_zero, List.set_cons_succ]
                            refine tkI 14 (v := undef) (by simp only [List.getElem?_toArray, List.getElem?_cons_zero, List.getElem?_cons_succ]; rfl) (by kernel_rfl) (by exact fun _ _ _ h => h) (by exact Or.inr ⟨by rfl, rfl⟩) (by assumption) ?_
                            try simp only [Act.put, List.setIfInBounds_toArray, List.set_cons_zero, List.set_cons_succ]
                            refine tkI 15 (v := undef) (by simp only [List.getElem?_toArray, List.getElem?_cons_zero, List.getElem?_cons_succ]; rfl) (by kernel_rfl) (by exact fun _ _ _ h => h) (by exact Or.inr ⟨by rfl, rfl⟩) (by assumption) ?_
                            try simp only [Act.put, List.setIfInBounds_toArray, List.set_cons_zero, List.set_cons_succ]
                            refine tkI 16 (v := undef) (by simp only [List.getElem?_toArray, List.getElem?_cons_zero, List.getElem?_cons_succ]; rfl) (by kernel_rfl) (by exact fun _ _ _ h => h) (by exact Or.inr ⟨by rfl, rfl⟩) (by assumption) ?_
                            try simp only [Act.put, List.setIfInBounds_toArray, List.set_cons_zero, List.set_cons_succ]
                            refine tkI 17 (by simp only [List.getElem?_toArray, List.getElem?_cons_zero, List.getElem?_cons_succ]; rfl) (by kernel_rfl) (by exact fun _ _ _ h => h) (by first | (exact Or.inl ⟨by rfl, by intro w hSw; (try dsimp only at hSw); go_simp; with_reducible rfl⟩) | (exact Or.inr ⟨by rfl, by rfl⟩)) (by assumption) ?_
                            try simp only [Act.put, List.setIfInBounds_toArray, List.set_cons_zero, List.set_cons_succ]
                            refine wpAnyH_done (by kernel_rfl) ?_ _
                            have HXF := Lib.hid (HX9.out.trans hHeld)
                            clear hHeld
                            go_wp2
                            go_roundw
                            case rel => exact ⟨q + 1, by omega, by go_num, HXF.out⟩
                            case measure => simp [intOf]; omega
                          · rw [decide_eq_false hzn] at HQ
                            have HF2 := Lib.hid (HF.out hzn)
                            have HC3 := Lib.hid (show ∀ W, Calls Try.prog 27 #[.agg (numsA .u8 (xorL z f)), .agg (numsA .u8 X)] W fun q w' => q = .returned (.int .i64 1) ∧ Ext W w' from fun W => by
                              have := compareKeysI_any (xorL z f) X HKX3.out HKX.out W
                              rwa [HF2.out] at this)
                            generalize xorL z f = X3 at HX3 HC3
                            clear hzn HF2 HF HKX3
                            go_wp2_with fail
                            refine wp_region_held_drew (S := fun W => Ext wr W) (by kernel_rfl) (Ext.refl _).drew (fun hHeld => ?_)
                            iterate 4
                              refine tkD 0 (by simp only [List.size_toArray, List.length_cons, List.length_nil]; rfl) (by simp only [List.getElem?_toArray, List.getElem?_cons_zero, List.getElem?_cons_succ]; rfl) (by kernel_rfl) (by exact fun _ _ _ h => h) (by first | (exact Or.inl ⟨by rfl, by intro w hSw; (try dsimp only at hSw); go_simp; with_reducible rfl⟩) | (exact Or.inr ⟨by rfl, by rfl⟩)) (by assumption) ?_
                              try simp only [Act.put, List.setIfInBounds_toArray, List.set_cons_zero, List.set_cons_succ]
                            refine tkI 4 (v := (.agg (numsA .u8 z))) (by simp only [List.getElem?_toArray, List.getElem?_cons_zero, List.getElem?_cons_succ]; rfl) (by kernel_rfl) (by exact fun _ _ _ h => h) (by refine yields_loadSP gs (os + q * 32) (nums .u8 z) (by rw [nums_length, HKS.out.1]; exact aggKey) (fun W hW j u hu => hW.cell (HCS.out j u hu)) ?_ _ rfl rfl; rfl) (by assumption) ?_
                            try simp only [Act.put, List.setIfInBounds_toArray, List.set_cons_zero, List.set_cons_succ]
                            refine wpAnyH_ready (rs := [5]) (by kernel_rfl) (by simp) (AllReadyH.cons (o := ?oy1385) ?hy1385 (fun K hK => ?sy1385) AllReadyH.nil)
                            case hy1385 => simp only [List.getElem?_toArray, List.getElem?_cons_zero, List.getElem?_cons_succ]; rfl
                            go_simp
                            refine (HQ.out _ (HRN9.out.ext (by decide) hHeld)).mono ?_
                            rintro e w11 ⟨rfl, hx⟩
                            have hH2 := hHeld.trans hx
                            refine hK.out _ _ hH2 (fun _ => ?_)
                            clear hHeld hK K
                            have hHeld := hH2
                            clear hH2
                            try simp only [Act.put, List.setIfInBounds_toArray, List.set_cons_zero, List.set_cons_succ]
                            iterate 5
                              refine tkD 0 (by simp only [List.size_toArray, List.length_cons, List.length_nil]; rfl) (by simp only [List.getElem?_toArray, List.getElem?_cons_zero, List.getElem?_cons_succ]; rfl) (by kernel_rfl) (by exact fun _ _ _ h => h) (by first | (exact Or.inl ⟨by rfl, by intro w hSw; (try dsimp only at hSw); go_simp; with_reducible rfl⟩) | (exact Or.inr ⟨by rfl, by rfl⟩)) (by assumption) ?_
                              try simp only [Act.put, List.setIfInBounds_toArray, List.set_cons_zero, List.set_cons_succ]
                            refine tkI 11 (v := (.agg (numsA .u8 z))) (by simp only [List.getElem?_toArray, List.getElem?_cons_zero, List.getElem?_cons_succ]; rfl) (by kernel_rfl) (by exact fun _ _ _ h => h) (by refine yields_loadSP gs (os + q * 32) (nums .u8 z) (by rw [nums_length, HKS.out.1]; exact aggKey) (fun W hW j u hu => hW.cell (HCS.out j u hu)) ?_ _ rfl rfl; rfl) (by assumption) ?_
                            try simp only [Act.put, List.setIfInBounds_toArray, List.set_cons_zero, List.set_cons_succ]
                            refine tkI 12 (v := (.agg (numsA .u8 f))) (by simp only [List.getElem?_toArray, List.getElem?_cons_zero, List.getElem?_cons_succ]; rfl) (by kernel_rfl) (by exact fun _ _ _ h => h) (by refine yields_loadBSP (fun W hW => BF9.out.ext hW) aggKey hszf ?_ _ rfl rfl; rfl) (by assumption) ?_
                            try simp only [Act.put, List.setIfInBounds_toArray, List.set_cons_zero, List.set_cons_succ]
                            refine tkI 14 (v := (.agg (numsA .u8 X))) (by simp only [List.getElem?_toArray, List.getElem?_cons_zero, List.getElem?_cons_succ]; rfl) (by kernel_rfl) (by exact fun _ _ _ h => h) (by refine yields_loadBSP (fun W hW => BX9.out.ext hW) aggKey hszX ?_ _ rfl rfl; rfl) (by assumption) ?_
                            try simp only [Act.put, List.setIfInBounds_toArray, List.set_cons_zero, List.set_cons_succ]
                            refine wpAnyH_ready (rs := [13]) (by kernel_rfl) (by simp) (AllReadyH.cons (o := ?oy14713) ?hy14713 (fun K hK => ?sy14713) AllReadyH.nil)
                            case hy14713 => simp only [List.getElem?_toArray, List.getElem?_cons_zero, List.getElem?_cons_succ]; rfl
                            go_simp
                            refine (HX3.out _).mono ?_
                            rintro e w12 ⟨rfl, hx⟩
                            have hH2 := hHeld.trans hx
                            refine hK.out _ _ hH2 (fun _ => ?_)
                            clear hHeld hK K
                            have hHeld := hH2
                            clear hH2
                            try simp only [Act.put, List.setIfInBounds_toArray, List.set_cons_zero, List.set_cons_succ]
                            refine wpAnyH_ready (rs := [15]) (by kernel_rfl) (by simp) (AllReadyH.cons (o := ?oy14815) ?hy14815 (fun K hK => ?sy14815) AllReadyH.nil)
                            case hy14815 => simp only [List.getElem?_toArray, List.getElem?_cons_zero, List.getElem?_cons_succ]; rfl
                            go_simp
                            refine (HC3.out _).mono ?_
                            rintro e w13 ⟨rfl, hx⟩
                            have hH2 := hHeld.trans hx
                            refine hK.out _ _ hH2 (fun _ => ?_)
                            clear hHeld hK K
                            have hHeld := hH2
                            clear hH2
                            try simp only [Act.put, List.setIfInBounds_toArray, List.set_cons_zero, List.set_cons_succ]
                            iterate 2
                              refine tkD 0 (by simp only [List.size_toArray, List.length_cons, List.length_nil]; rfl) (by simp only [List.getElem?_toArray, List.getElem?_cons_zero, List.getElem?_cons_succ]; rfl) (by kernel_rfl) (by exact fun _ _ _ h => h) (by first | (exact Or.inl ⟨by rfl, by intro w hSw; (try dsimp only at hSw); go_simp; with_reducible rfl⟩) | (exact Or.inr ⟨by rfl, by rfl⟩)) (by assumption) ?_
                              try simp only [Act.put, List.setIfInBounds_toArray, List.set_cons_zero, List.set_cons_succ]
                            refine wpAnyH_done (by kernel_rfl) ?_ _
                            have HXF := Lib.hid (HX9.out.trans hHeld)
                            clear hHeld
                            go_wp2
                            go_roundw
                            case rel => exact ⟨q + 1, by omega, by go_num, HXF.out⟩
                            case measure => simp [intOf]; omega
                        · obtain rfl : q = D.length := by omega
                          have HXF := Lib.hid (HX7.out.trans HX9.out)
                          go_wp2
                          go_roundw
                          case rel => exact ⟨k + 1, by omega, by go_num, HXF.out⟩
                          case measure => simp [intOf]; omega
                · obtain rfl : k = N.length := by omega
                  have XF := Lib.hid (XW4.out.trans HX.out)
                  go_wp2
                  go_ret
                  exact ⟨rfl, XF.out⟩
            · have p2 : decide ((N.length : Int) < (c : Int)) = false := decide_eq_false (by omega)
              have p2n : decide (N.length < c) = false := decide_eq_false (by omega)
              go_wp2_with fail
              go_loopw [21, 22, 23] (fun i _ _ wr => ∃ k : Nat, k ≤ N.length ∧ i = .int .i64 k ∧ Ext w6 wr) (fun i _ _ _ => N.length - (intOf i).toNat)
              case atStart => exact ⟨0, by omega, rfl, Ext.refl _⟩
              case round =>
                obtain ⟨k, hk, rfl, hx⟩ := hrel
                have HX := Lib.hid hx
                have HRL5 := Lib.hid (HRL4.out.ext (by decide) hx)
                have HRS5 := Lib.hid (HRS4.out.ext (by decide) hx)
                have HRN5 := Lib.hid (HRN.out.ext (by decide) hx)
                have BF1 := Lib.hid (BF.out.ext hx)
                clear hx
                by_cases hlt : k < N.length
                · obtain ⟨gn, on, rfl, hk1, hc1⟩ := K32.list8 HRN5.out rfl k hlt
                  have hin := HNM.out _ (List.getElem_mem hlt)
                  have HH := Lib.hid (show ∀ W, RdL tKey W (fun _ => True) (.slice Al ks.length cl) ks → Calls Try.prog 40 #[.slice Al ks.length cl, .agg (numsA .u8 (N[k]'hlt))] W fun q w' => q = .returned (.bool true) ∧ Ext W w' from fun W hW => by
                    have := a2Has_any _ ks (N[k]'hlt) hk1 W (fun _ => True) hW
                    rwa [decide_eq_true hin] at this)
                  have HXC := Lib.hid (fun W => xorKeys_any (N[k]'hlt) f hk1 HKF.out W)
                  have HKX := Lib.hid (xorL_ok hk1 HKF.out)
                  have HFAR := Lib.hid (fun x hx hn => HNF.out k hlt x hx hn)
                  have hkI : (k : Int) < (N.length : Int) := by omega
                  have hk0 : (0 : Int) ≤ (k : Int) := by omega
                  have HK1 := Lib.hid hk1
                  have HC1 := Lib.hid hc1
                  have HST := Lib.hid (fun (h0 : 0 < k) => HNS.out k h0 hlt)
                  obtain ⟨y1, hy1⟩ : ∃ y1, N[k]'hlt = y1 := ⟨_, rfl⟩
                  rw [hy1] at HH HXC HKX HFAR HK1 HC1 HST
                  obtain ⟨X, hX⟩ : ∃ X, xorL y1 f = X := ⟨_, rfl⟩
                  rw [hX] at HXC HKX HFAR HST
                  have hstX := St.nums (k := .u8) HKX.out.1
                  have hszX := sizeN (k := .u8) HKX.out.1
                  have hZA : (Try.prog.info? 28).map (·.zero) = some (some (.agg (numsA .u8 (List.replicate 32 0)))) := by kernel_rfl
                  have HZA := Lib.hid hZA
                  have HZS := Lib.hid (show (numsA .u8 (List.replicate 32 0)).size = 32 by simp [numsA, nums])
                  generalize numsA .u8 (List.replicate 32 0) = ZA at HZA HZS
                  clear hk1 hc1 hin hy1 hX hZA
                  go_wp2_with fail
                  apply cutG (Φ := fun g W => Ext wr W ∧ Blk W g 28 (numsA .u8 X))
                  case reg =>
                    intro hN
                    refine wp_region_held_drew (S := fun W => Ext wr W) (by kernel_rfl) (Ext.refl _).drew (fun hHeld => ?_)
                    iterate 3
                      refine tkD 0 (by simp only [List.size_toArray, List.length_cons, List.length_nil]; rfl) (by simp only [List.getElem?_toArray, List.getElem?_cons_zero, List.getElem?_cons_succ]; rfl) (by kernel_rfl) (by exact fun _ _ _ h => h) (by first | (exact Or.inl ⟨by rfl, by intro w hSw; (try dsimp only at hSw); go_simp; with_reducible rfl⟩) | (exact Or.inr ⟨by rfl, by rfl⟩)) (by assumption) ?_
                      try simp only [Act.put, List.setIfInBounds_toArray, List.set_cons_zero, List.set_cons_succ]
                    refine tkI 3 (v := (.agg (numsA .u8 y1))) (by simp only [List.getElem?_toArray, List.getElem?_cons_zero, List.getElem?_cons_succ]; rfl) (by kernel_rfl) (by exact fun _ _ _ h => h) (by refine yields_loadSP gn (on + k * 32) (nums .u8 y1) (by rw [nums_length, HK1.out.1]; exact aggKey) (fun W hW j u hu => hW.cell (HC1.out j u hu)) ?_ _ rfl rfl; rfl) (by assumption) ?_
                    try simp only [Act.put, List.setIfInBounds_toArray, List.set_cons_zero, List.set_cons_succ]
                    refine tkI 4 (v := (.agg (numsA .u8 f))) (by simp only [List.getElem?_toArray, List.getElem?_cons_zero, List.getElem?_cons_succ]; rfl) (by kernel_rfl) (by exact fun _ _ _ h => h) (by refine yields_loadBSP (fun W hW => BF1.out.ext hW) aggKey hszf ?_ _ rfl rfl; rfl) (by assumption) ?_
                    try simp only [Act.put, List.setIfInBounds_toArray, List.set_cons_zero, List.set_cons_succ]
                    refine wpAnyH_ready (rs := [5, 6]) (by kernel_rfl) (by simp) (AllReadyH.cons (o := ?oy1565) ?hy1565 (fun K hK => ?sy1565) (AllReadyH.cons (o := ?oy1566) ?hy1566 (fun K hK => ?sy1566) AllReadyH.nil))
                    case hy1565 => simp only [List.getElem?_toArray, List.getElem?_cons_zero, List.getElem?_cons_succ]; rfl
                    case hy1566 => simp only [List.getElem?_toArray, List.getElem?_cons_zero, List.getElem?_cons_succ]; rfl
                    case sy1565 =>
                      go_simp
                      refine (HXC.out _).mono ?_
                      rintro e w7 ⟨rfl, hx⟩
                      have hH2 := hHeld.trans hx
                      refine hK.out _ _ hH2 (fun _ => ?_)
                      clear hHeld hK K
                      have hHeld := hH2
                      clear hH2
                      try simp only [Act.put, List.setIfInBounds_toArray, List.set_cons_zero, List.set_cons_succ]
                      refine wpAnyH_ready (rs := [6]) (by kernel_rfl) (by simp) (AllReadyH.cons (o := ?oy1576) ?hy1576 (fun K hK => ?sy1576) AllReadyH.nil)
                      case hy1576 => simp only [List.getElem?_toArray, List.getElem?_cons_zero, List.getElem?_cons_succ]; rfl
                      refine stp_alloc ZA HZA.out rfl rfl ?_
                      have hE6 := ext_alloc w7 (.cells ZA 28)
                      have BG := Lib.hid (Blk.new w7 28 ZA)
                      have hgB : wr.heap.size ≤ w7.heap.size := hHeld.size
                      have hH2 := hHeld.trans hE6
                      refine hK.out _ _ hH2 (fun _ => ?_)
                      clear hHeld hK K
                      have hHeld := hH2
                      clear hH2
                      try simp only [Act.put, List.setIfInBounds_toArray, List.set_cons_zero, List.set_cons_succ]
                      clear hE6
                      obtain ⟨g6, hg6⟩ : ∃ g6, w7.heap.size = g6 := ⟨_, rfl⟩
                      rw [hg6] at BG hgB ⊢
                      generalize w7.alloc (.cells ZA 28) = w8 at hHeld BG ⊢
                      refine wpAnyH_ready (rs := [7]) (by kernel_rfl) (by simp) (AllReadyH.cons (o := ?oy1587) ?hy1587 (fun K hK => ?sy1587) AllReadyH.nil)
                      case hy1587 => simp only [List.getElem?_toArray, List.getElem?_cons_zero, List.getElem?_cons_succ]; rfl
                      refine stp_storeP (off := 0) BG.out aggKey hstX (by have := HZS.out; omega) rfl _ _ rfl rfl rfl rfl ?_
                      rw [splice_all _ _ (by rw [Array.length_toList, HZS.out, hstX.size])]
                      have e9 : (numsA .u8 X).toList.toArray = numsA .u8 X := by simp
                      rw [e9]
                      clear e9
                      have hH2 := hHeld.setRow (g := g6) hgB (numsA .u8 X)
                      have BG9 := Lib.hid (BG.out.setRow (numsA .u8 X))
                      refine hK.out _ _ hH2 (fun _ => ?_)
                      clear hHeld hK K
                      have hHeld := hH2
                      clear hH2
                      try simp only [Act.put, List.setIfInBounds_toArray, List.set_cons_zero, List.set_cons_succ]
                      refine wpAnyH_done (by kernel_rfl) ?_ _
                      exact hN g6 _ ⟨hHeld, BG9.out⟩
                    case sy1566 =>
                      refine stp_alloc ZA HZA.out rfl rfl ?_
                      have hE6 := ext_alloc wr.drew (.cells ZA 28)
                      have BG0 := Lib.hid (Blk.new wr.drew 28 ZA)
                      have hgB : wr.heap.size ≤ wr.drew.heap.size := Nat.le_refl _
                      have hH2 := hHeld.trans hE6
                      refine hK.out _ _ hH2 (fun _ => ?_)
                      clear hHeld hK K
                      have hHeld := hH2
                      clear hH2
                      try simp only [Act.put, List.setIfInBounds_toArray, List.set_cons_zero, List.set_cons_succ]
                      clear hE6
                      obtain ⟨g6, hg6⟩ : ∃ g6, wr.drew.heap.size = g6 := ⟨_, rfl⟩
                      rw [hg6] at BG0 hgB ⊢
                      generalize wr.drew.alloc (.cells ZA 28) = w8 at hHeld BG0 ⊢
                      refine wpAnyH_ready (rs := [5]) (by kernel_rfl) (by simp) (AllReadyH.cons (o := ?oy1595) ?hy1595 (fun K hK => ?sy1595) AllReadyH.nil)
                      case hy1595 => simp only [List.getElem?_toArray, List.getElem?_cons_zero, List.getElem?_cons_succ]; rfl
                      go_simp
                      refine (HXC.out _).mono ?_
                      rintro e w7 ⟨rfl, hx⟩
                      have BG := Lib.hid (BG0.out.ext hx)
                      have hH2 := hHeld.trans hx
                      refine hK.out _ _ hH2 (fun _ => ?_)
                      clear hHeld hK K
                      have hHeld := hH2
                      clear hH2
                      try simp only [Act.put, List.setIfInBounds_toArray, List.set_cons_zero, List.set_cons_succ]
                      refine wpAnyH_ready (rs := [7]) (by kernel_rfl) (by simp) (AllReadyH.cons (o := ?oy1607) ?hy1607 (fun K hK => ?sy1607) AllReadyH.nil)
                      case hy1607 => simp only [List.getElem?_toArray, List.getElem?_cons_zero, List.getElem?_cons_succ]; rfl
                      refine stp_storeP (off := 0) BG.out aggKey hstX (by have := HZS.out; omega) rfl _ _ rfl rfl rfl rfl ?_
                      rw [splice_all _ _ (by rw [Array.length_toList, HZS.out, hstX.size])]
                      have e9 : (numsA .u8 X).toList.toArray = numsA .u8 X := by simp
                      rw [e9]
                      clear e9
                      have hH2 := hHeld.setRow (g := g6) hgB (numsA .u8 X)
                      have BG9 := Lib.hid (BG.out.setRow (numsA .u8 X))
                      refine hK.out _ _ hH2 (fun _ => ?_)
                      clear hHeld hK K
                      have hHeld := hH2
                      clear hH2
                      try simp only [Act.put, List.setIfInBounds_toArray, List.set_cons_zero, List.set_cons_succ]
                      refine wpAnyH_done (by kernel_rfl) ?_ _
                      exact hN g6 _ ⟨hHeld, BG9.out⟩
                  case rest =>
                    intro gX w7 hΦ
                    obtain ⟨hx, hb⟩ := hΦ
                    have HX7 := Lib.hid (HX.out.trans hx)
                    have BX := Lib.hid hb
                    have BF7 := Lib.hid (BF1.out.ext hx)
                    have HRL7 := Lib.hid (HRL5.out.ext (by decide) hx)
                    have HRS7 := Lib.hid (HRS5.out.ext (by decide) hx)
                    have HRN7 := Lib.hid (HRN5.out.ext (by decide) hx)
                    have HC7 := Lib.hid (fun j u hu => hx.cell (HC1.out j u hu))
                    clear hx hb HXC HX HRL5 HRS5 BF1
                    go_wp2_with fail
                    apply cutX (Φ := fun W => Ext w7 W)
                    case reg =>
                      intro hN
                      by_cases hz : 0 < k
                      · obtain ⟨hk2, hc2⟩ := K32.cell8 HRN7.out rfl (k - 1) (by omega)
                        have HST0 := Lib.hid (HST.out hz)
                        have HX2 := Lib.hid (fun W => xorKeys_any (N[k - 1]'(Nat.lt_of_le_of_lt (Nat.sub_le k 1) hlt)) f hk2 HKF.out W)
                        have HKX2 := Lib.hid (xorL_ok hk2 HKF.out)
                        have HK2 := Lib.hid hk2
                        have HC8 := Lib.hid hc2
                        generalize (N[k - 1]'(Nat.lt_of_le_of_lt (Nat.sub_le k 1) hlt)) = y2 at HST0 HX2 HKX2 HK2 HC8
                        have HCM := Lib.hid (show ∀ W, Calls Try.prog 27 #[.agg (numsA .u8 (xorL y2 f)), .agg (numsA .u8 X)] W fun q w' => q = .returned (.int .i64 (-1)) ∧ Ext W w' from fun W => by
                          have := compareKeysI_any (xorL y2 f) X HKX2.out HKX.out W
                          rwa [HST0.out] at this)
                        generalize xorL y2 f = X2 at HX2 HCM
                        clear hk2 hc2 HST0 HKX2
                        have hzI : (0 : Int) < (k : Int) := by omega
                        have m1 : IntKind.i64.wrap ((k : Int) - 1) = ((k - 1 : Nat) : Int) := by rw [IntWalk.i64_in _ (by omega)]; omega
                        have m2 : (0 : Int) ≤ ((k - 1 : Nat) : Int) := by omega
                        have m3 : ((k - 1 : Nat) : Int) < (N.length : Int) := by omega
                        obtain ⟨j, hj⟩ : ∃ j, k - 1 = j := ⟨_, rfl⟩
                        rw [hj] at m1 m2 m3 HC8
                        clear hj
                        refine wp_region_held_drew (S := fun W => Ext w7 W) (by kernel_rfl) (Ext.refl _).drew (fun hHeld => ?_)
                        iterate 4
                          refine tkD 0 (by simp only [List.size_toArray, List.length_cons, List.length_nil]; rfl) (by simp only [List.getElem?_toArray, List.getElem?_cons_zero, List.getElem?_cons_succ]; rfl) (by kernel_rfl) (by exact fun _ _ _ h => h) (by first | (exact Or.inl ⟨by rfl, by intro w hSw; (try dsimp only at hSw); go_simp; with_reducible rfl⟩) | (exact Or.inr ⟨by rfl, by rfl⟩)) (by assumption) ?_
                          try simp only [Act.put, List.setIfInBounds_toArray, List.set_cons_zero, List.set_cons_succ]
                        refine tkI 4 (v := (.agg (numsA .u8 y1))) (by simp only [List.getElem?_toArray, List.getElem?_cons_zero, List.getElem?_cons_succ]; rfl) (by kernel_rfl) (by exact fun _ _ _ h => h) (by refine yields_loadSP gn (on + k * 32) (nums .u8 y1) (by rw [nums_length, HK1.out.1]; exact aggKey) (fun W hW j u hu => hW.cell (HC7.out j u hu)) ?_ _ rfl rfl; rfl) (by assumption) ?_
                        try simp only [Act.put, List.setIfInBounds_toArray, List.set_cons_zero, List.set_cons_succ]
                        refine wpAnyH_ready (rs := [5]) (by kernel_rfl) (by simp) (AllReadyH.cons (o := ?oy1665) ?hy1665 (fun K hK => ?sy1665) AllReadyH.nil)
                        case hy1665 => simp only [List.getElem?_toArray, List.getElem?_cons_zero, List.getElem?_cons_succ]; rfl
                        go_simp
                        refine (HH.out _ (HRL7.out.ext (by decide) hHeld)).mono ?_
                        rintro e w8 ⟨rfl, hx⟩
                        have hH2 := hHeld.trans hx
                        refine hK.out _ _ hH2 (fun _ => ?_)
                        clear hHeld hK K
                        have hHeld := hH2
                        clear hH2
                        try simp only [Act.put, List.setIfInBounds_toArray, List.set_cons_zero, List.set_cons_succ]
                        iterate 9
                          refine tkD 0 (by simp only [List.size_toArray, List.length_cons, List.length_nil]; rfl) (by simp only [List.getElem?_toArray, List.getElem?_cons_zero, List.getElem?_cons_succ]; rfl) (by kernel_rfl) (by exact fun _ _ _ h => h) (by first | (exact Or.inl ⟨by rfl, by intro w hSw; (try dsimp only at hSw); go_simp; with_reducible rfl⟩) | (exact Or.inr ⟨by rfl, by rfl⟩)) (by assumption) ?_
                          try simp only [Act.put, List.setIfInBounds_toArray, List.set_cons_zero, List.set_cons_succ]
                        refine tkI 15 (v := (.agg (numsA .u8 y2))) (by simp only [List.getElem?_toArray, List.getElem?_cons_zero, List.getElem?_cons_succ]; rfl) (by kernel_rfl) (by exact fun _ _ _ h => h) (by refine yields_loadSP gn (on + j * 32) (nums .u8 y2) (by rw [nums_length, HK2.out.1]; exact aggKey) (fun W hW j u hu => hW.cell (HC8.out j u hu)) ?_ _ rfl rfl; rfl) (by assumption) ?_
                        try simp only [Act.put, List.setIfInBounds_toArray, List.set_cons_zero, List.set_cons_succ]
                        refine tkI 16 (v := (.agg (numsA .u8 f))) (by simp only [List.getElem?_toArray, List.getElem?_cons_zero, List.getElem?_cons_succ]; rfl) (by kernel_rfl) (by exact fun _ _ _ h => h) (by refine yields_loadBSP (fun W hW => BF7.out.ext hW) aggKey hszf ?_ _ rfl rfl; rfl) (by assumption) ?_
                        try simp only [Act.put, List.setIfInBounds_toArray, List.set_cons_zero, List.set_cons_succ]
                        refine tkI 18 (v := (.agg (numsA .u8 X))) (by simp only [List.getElem?_toArray, List.getElem?_cons_zero, List.getElem?_cons_succ]; rfl) (by kernel_rfl) (by exact fun _ _ _ h => h) (by refine yields_loadBSP (fun W hW => BX.out.ext hW) aggKey hszX ?_ _ rfl rfl; rfl) (by assumption) ?_
                        try simp only [Act.put, List.setIfInBounds_toArray, List.set_cons_zero, List.set_cons_succ]
                        refine wpAnyH_ready (rs := [17]) (by kernel_rfl) (by simp) (AllReadyH.cons (o := ?oy17917) ?hy17917 (fun K hK => ?sy17917) AllReadyH.nil)
                        case hy17917 => simp only [List.getElem?_toArray, List.getElem?_cons_zero, List.getElem?_cons_succ]; rfl
                        go_simp
                        refine (HX2.out _).mono ?_
                        rintro e w9 ⟨rfl, hx⟩
                        have hH2 := hHeld.trans hx
                        refine hK.out _ _ hH2 (fun _ => ?_)
                        clear hHeld hK K
                        have hHeld := hH2
                        clear hH2
                        try simp only [Act.put, List.setIfInBounds_toArray, List.set_cons_zero, List.set_cons_succ]
                        refine wpAnyH_ready (rs := [19]) (by kernel_rfl) (by simp) (AllReadyH.cons (o := ?oy18019) ?hy18019 (fun K hK => ?sy18019) AllReadyH.nil)
                        case hy18019 => simp only [List.getElem?_toArray, List.getElem?_cons_zero, List.getElem?_cons_succ]; rfl
                        go_simp
                        refine (HCM.out _).mono ?_
                        rintro e w10 ⟨rfl, hx⟩
                        have hH2 := hHeld.trans hx
                        refine hK.out _ _ hH2 (fun _ => ?_)
                        clear hHeld hK K
                        have hHeld := hH2
                        clear hH2
                        try simp only [Act.put, List.setIfInBounds_toArray, List.set_cons_zero, List.set_cons_succ]
                        iterate 3
                          refine tkD 0 (by simp only [List.size_toArray, List.length_cons, List.length_nil]; rfl) (by simp only [List.getElem?_toArray, List.getElem?_cons_zero, List.getElem?_cons_succ]; rfl) (by kernel_rfl) (by exact fun _ _ _ h => h) (by first | (exact Or.inl ⟨by rfl, by intro w hSw; (try dsimp only at hSw); go_simp; with_reducible rfl⟩) | (exact Or.inr ⟨by rfl, by rfl⟩)) (by assumption) ?_
                          try simp only [Act.put, List.setIfInBounds_toArray, List.set_cons_zero, List.set_cons_succ]
                        refine wpAnyH_done (by kernel_rfl) ?_ _
                        exact hN _ _ _ _ _ _ _ _ _ _ _ _ _ hHeld
                      · have hzd : decide ((0 : Int) < (k : Int)) = false := decide_eq_false (by omega)
                        have hzn : decide (0 < k) = false := decide_eq_false hz
                        refine wp_region_held_drew (S := fun W => Ext w7 W) (by kernel_rfl) (Ext.refl _).drew (fun hHeld => ?_)
                        iterate 4
                          refine tkD 0 (by simp only [List.size_toArray, List.length_cons, List.length_nil]; rfl) (by simp only [List.getElem?_toArray, List.getElem?_cons_zero, List.getElem?_cons_succ]; rfl) (by kernel_rfl) (by exact fun _ _ _ h => h) (by first | (exact Or.inl ⟨by rfl, by intro w hSw; (try dsimp only at hSw); go_simp; with_reducible rfl⟩) | (exact Or.inr ⟨by rfl, by rfl⟩)) (by assumption) ?_
                          try simp only [Act.put, List.setIfInBounds_toArray, List.set_cons_zero, List.set_cons_succ]
                        refine tkI 4 (v := (.agg (numsA .u8 y1))) (by simp only [List.getElem?_toArray, List.getElem?_cons_zero, List.getElem?_cons_succ]; rfl) (by kernel_rfl) (by exact fun _ _ _ h => h) (by refine yields_loadSP gn (on + k * 32) (nums .u8 y1) (by rw [nums_length, HK1.out.1]; exact aggKey) (fun W hW j u hu => hW.cell (HC7.out j u hu)) ?_ _ rfl rfl; rfl) (by assumption) ?_
                        try simp only [Act.put, List.setIfInBounds_toArray, List.set_cons_zero, List.set_cons_succ]
                        refine wpAnyH_ready (rs := [5]) (by kernel_rfl) (by simp) (AllReadyH.cons (o := ?oy1895) ?hy1895 (fun K hK => ?sy1895) AllReadyH.nil)
                        case hy1895 => simp only [List.getElem?_toArray, List.getElem?_cons_zero, List.getElem?_cons_succ]; rfl
                        go_simp
                        refine (HH.out _ (HRL7.out.ext (by decide) hHeld)).mono ?_
                        rintro e w8 ⟨rfl, hx⟩
                        have hH2 := hHeld.trans hx
                        refine hK.out _ _ hH2 (fun _ => ?_)
                        clear hHeld hK K
                        have hHeld := hH2
                        clear hH2
                        try simp only [Act.put, List.setIfInBounds_toArray, List.set_cons_zero, List.set_cons_succ]
                        iterate 5
                          refine tkD 0 (by simp only [List.size_toArray, List.length_cons, List.length_nil]; rfl) (by simp only [List.getElem?_toArray, List.getElem?_cons_zero, List.getElem?_cons_succ]; rfl) (by kernel_rfl) (by exact fun _ _ _ h => h) (by first | (exact Or.inl ⟨by rfl, by intro w hSw; (try dsimp only at hSw); go_simp; with_reducible rfl⟩) | (exact Or.inr ⟨by rfl, by rfl⟩)) (by assumption) ?_
                          try simp only [Act.put, List.setIfInBounds_toArray, List.set_cons_zero, List.set_cons_succ]
                        refine tkI 11 (v := undef) (by simp only [List.getElem?_toArray, List.getElem?_cons_zero, List.getElem?_cons_succ]; rfl) (by kernel_rfl) (by exact fun _ _ _ h => h) (by exact Or.inr ⟨by rfl, rfl⟩) (by assumption) ?_
                        try simp only [Act.put, List.setIfInBounds_toArray, List.set_cons_zero, List.set_cons_succ]
                        refine tkI 12 (v := undef) (by simp only [List.getElem?_toArray, List.getElem?_cons_zero, List.getElem?_cons_succ]; rfl) (by kernel_rfl) (by exact fun _ _ _ h => h) (by exact Or.inr ⟨by rfl, rfl⟩) (by assumption) ?_
                        try simp only [Act.put, List.setIfInBounds_toArray, List.set_cons_zero, List.set_cons_succ]
                        refine tkI 13 (v := undef) (by simp only [List.getElem?_toArray, List.getElem?_cons_zero, List.getElem?_cons_succ]; rfl) (by kernel_rfl) (by exact fun _ _ _ h => h) (by exact Or.inr ⟨by rfl, rfl⟩) (by assumption) ?_
                        try simp only [Act.put, List.setIfInBounds_toArray, List.set_cons_zero, List.set_cons_succ]
                        refine tkI 14 (v := undef) (by simp only [List.getElem?_toArray, List.getElem?_cons_zero, List.getElem?_cons_succ]; rfl) (by kernel_rfl) (by exact fun _ _ _ h => h) (by exact Or.inr ⟨by rfl, rfl⟩) (by assumption) ?_
                        try simp only [Act.put, List.setIfInBounds_toArray, List.set_cons_zero, List.set_cons_succ]
                        refine tkI 15 (v := undef) (by simp only [List.getElem?_toArray, List.getElem?_cons_zero, List.getElem?_cons_succ]; rfl) (by kernel_rfl) (by exact fun _ _ _ h => h) (by exact Or.inr ⟨by rfl, rfl⟩) (by assumption) ?_
                        try simp only [Act.put, List.setIfInBounds_toArray, List.set_cons_zero, List.set_cons_succ]
                        refine tkI 16 (v := undef) (by simp only [List.getElem?_toArray, List.getElem?_cons_zero, List.getElem?_cons_succ]; rfl) (by kernel_rfl) (by exact fun _ _ _ h => h) (by exact Or.inr ⟨by rfl, rfl⟩) (by assumption) ?_
                        try simp only [Act.put, List.setIfInBounds_toArray, List.set_cons_zero, List.set_cons_succ]
                        refine tkI 17 (v := undef) (by simp only [List.getElem?_toArray, List.getElem?_cons_zero, List.getElem?_cons_succ]; rfl) (by kernel_rfl) (by exact fun _ _ _ h => h) (by exact Or.inr ⟨by rfl, rfl⟩) (by assumption) ?_
                        try simp only [Act.put, List.setIfInBounds_toArray, List.set_cons_zero, List.set_cons_succ]
                        refine tkI 18 (v := undef) (by simp only [List.getElem?_toArray, List.getElem?_cons_zero, List.getElem?_cons_succ]; rfl) (by kernel_rfl) (by exact fun _ _ _ h => h) (by exact Or.inr ⟨by rfl, rfl⟩) (by assumption) ?_
                        try simp only [Act.put, List.setIfInBounds_toArray, List.set_cons_zero, List.set_cons_succ]
                        refine tkI 19 (v := undef) (by simp only [List.getElem?_toArray, List.getElem?_cons_zero, List.getElem?_cons_succ]; rfl) (by kernel_rfl) (by exact fun _ _ _ h => h) (by exact Or.inr ⟨by rfl, rfl⟩) (by assumption) ?_
                        try simp only [Act.put, List.setIfInBounds_toArray, List.set_cons_zero, List.set_cons_succ]
                        refine tkI 20 (v := undef) (by simp only [List.getElem?_toArray, List.getElem?_cons_zero, List.getElem?_cons_succ]; rfl) (by kernel_rfl) (by exact fun _ _ _ h => h) (by exact Or.inr ⟨by rfl, rfl⟩) (by assumption) ?_
                        try simp only [Act.put, List.setIfInBounds_toArray, List.set_cons_zero, List.set_cons_succ]
                        iterate 2
                          refine tkD 0 (by simp only [List.size_toArray, List.length_cons, List.length_nil]; rfl) (by simp only [List.getElem?_toArray, List.getElem?_cons_zero, List.getElem?_cons_succ]; rfl) (by kernel_rfl) (by exact fun _ _ _ h => h) (by first | (exact Or.inl ⟨by rfl, by intro w hSw; (try dsimp only at hSw); go_simp; with_reducible rfl⟩) | (exact Or.inr ⟨by rfl, by rfl⟩)) (by assumption) ?_
                          try simp only [Act.put, List.setIfInBounds_toArray, List.set_cons_zero, List.set_cons_succ]
                        refine wpAnyH_done (by kernel_rfl) ?_ _
                        exact hN _ _ _ _ _ _ _ _ _ _ _ _ _ hHeld
                    case rest =>
                      intro u198 u199 u200 u201 u202 u203 u204 u205 u206 u207 u208 u209 w10 hHeld
                      obtain ⟨W9, hW9⟩ : ∃ W9, w10 = W9 := ⟨_, rfl⟩
                      replace HX7 := Lib.hid (HX7.out.trans hHeld)
                      replace BX := Lib.hid (BX.out.ext hHeld)
                      replace BF7 := Lib.hid (BF7.out.ext hHeld)
                      replace HRS7 := Lib.hid (HRS7.out.ext (by decide) hHeld)
                      replace HRN7 := Lib.hid (HRN7.out.ext (by decide) hHeld)
                      clear hHeld
                      rw [hW9] at HX7 BX BF7 HRS7 HRN7 ⊢
                      clear hW9
                      go_wp2_with fail
                      go_loopw [23] (fun i wr => ∃ q : Nat, q ≤ D.length ∧ i = .int .i64 q ∧ Ext W9 wr) (fun i _ => D.length - (intOf i).toNat)
                      case atStart => exact ⟨0, by omega, rfl, Ext.refl _⟩
                      case round =>
                        obtain ⟨q, hq, rfl, hx⟩ := hrel
                        have HX9 := Lib.hid hx
                        have BX9 := Lib.hid (BX.out.ext hx)
                        have BF9 := Lib.hid (BF7.out.ext hx)
                        have HRS9 := Lib.hid (HRS7.out.ext (by decide) hx)
                        have HRN9 := Lib.hid (HRN7.out.ext (by decide) hx)
                        clear hx
                        by_cases hlq : q < D.length
                        · obtain ⟨gs, os, rfl, hks, hcs'⟩ := K32.list8 HRS9.out rfl q hlq
                          have hqI : (q : Int) < (D.length : Int) := by omega
                          have hq0 : (0 : Int) ≤ (q : Int) := by omega
                          have HQ := Lib.hid (fun W hW => a2Has_any (.slice (some ⟨gn, on, none⟩) N.length cn) N (D[q]'hlq) hks W (fun _ => True) hW)
                          have HKS := Lib.hid hks
                          have HCS := Lib.hid hcs'
                          have HF := Lib.hid (fun hn => HFAR.out (D[q]'hlq) (List.getElem_mem hlq) hn)
                          have HX3 := Lib.hid (fun W => xorKeys_any (D[q]'hlq) f hks HKF.out W)
                          have HKX3 := Lib.hid (xorL_ok hks HKF.out)
                          obtain ⟨z, hz3⟩ : ∃ z, D[q]'hlq = z := ⟨_, rfl⟩
                          rw [hz3] at HQ HKS HCS HF HX3 HKX3
                          clear hks hcs' hz3
                          by_cases hzn : z ∈ N
                          · rw [decide_eq_true hzn] at HQ
                            clear hzn HX3 HF HKX3
                            go_wp2_with fail
                            refine wp_region_held_drew (S := fun W => Ext wr W) (by kernel_rfl) (Ext.refl _).drew (fun hHeld => ?_)
                            iterate 4
                              refine tkD 0 (by simp only [List.size_toArray, List.length_cons, List.length_nil]; rfl) (by simp only [List.getElem?_toArray, List.getElem?_cons_zero, List.getElem?_cons_succ]; rfl) (by kernel_rfl) (by exact fun _ _ _ h => h) (by first | (exact Or.inl ⟨by rfl, by intro w hSw; (try dsimp only at hSw); go_simp; with_reducible rfl⟩) | (exact Or.inr ⟨by rfl, by rfl⟩)) (by assumption) ?_
                              try simp only [Act.put, List.setIfInBounds_toArray, List.set_cons_zero, List.set_cons_succ]
                            refine tkI 4 (v := (.agg (numsA .u8 z))) (by simp only [List.getElem?_toArray, List.getElem?_cons_zero, List.getElem?_cons_succ]; rfl) (by kernel_rfl) (by exact fun _ _ _ h => h) (by refine yields_loadSP gs (os + q * 32) (nums .u8 z) (by rw [nums_length, HKS.out.1]; exact aggKey) (fun W hW j u hu => hW.cell (HCS.out j u hu)) ?_ _ rfl rfl; rfl) (by assumption) ?_
                            try simp only [Act.put, List.setIfInBounds_toArray, List.set_cons_zero, List.set_cons_succ]
                            refine wpAnyH_ready (rs := [5]) (by kernel_rfl) (by simp) (AllReadyH.cons (o := ?oy2125) ?hy2125 (fun K hK => ?sy2125) AllReadyH.nil)
                            case hy2125 => simp only [List.getElem?_toArray, List.getElem?_cons_zero, List.getElem?_cons_succ]; rfl
                            go_simp
                            refine (HQ.out _ (HRN9.out.ext (by decide) hHeld)).mono ?_
                            rintro e w11 ⟨rfl, hx⟩
                            have hH2 := hHeld.trans hx
                            refine hK.out _ _ hH2 (fun _ => ?_)
                            clear hHeld hK K
                            have hHeld := hH2
                            clear hH2
                            try simp only [Act.put, List.setIfInBounds_toArray, List.set_cons_zero, List.set_cons_succ]
                            iterate 2
                              refine tkD 0 (by simp only [List.size_toArray, List.length_cons, List.length_nil]; rfl) (by simp only [List.getElem?_toArray, List.getElem?_cons_zero, List.getElem?_cons_succ]; rfl) (by kernel_rfl) (by exact fun _ _ _ h => h) (by first | (exact Or.inl ⟨by rfl, by intro w hSw; (try dsimp only at hSw); go_simp; with_reducible rfl⟩) | (exact Or.inr ⟨by rfl, by rfl⟩)) (by assumption) ?_
                              try simp only [Act.put, List.setIfInBounds_toArray, List.set_cons_zero, List.set_cons_succ]
                            refine tkI 8 (v := undef) (by simp only [List.getElem?_toArray, List.getElem?_cons_zero, List.getElem?_cons_succ]; rfl) (by kernel_rfl) (by exact fun _ _ _ h => h) (by exact Or.inr ⟨by rfl, rfl⟩) (by assumption) ?_
                            try simp only [Act.put, List.setIfInBounds_toArray, List.set_cons_zero, List.set_cons_succ]
                            refine tkI 9 (v := undef) (by simp only [List.getElem?_toArray, List.getElem?_cons_zero, List.getElem?_cons_succ]; rfl) (by kernel_rfl) (by exact fun _ _ _ h => h) (by exact Or.inr ⟨by rfl, rfl⟩) (by assumption) ?_
                            try simp only [Act.put, List.setIfInBounds_toArray, List.set_cons_zero, List.set_cons_succ]
                            refine tkI 10 (v := undef) (by simp only [List.getElem?_toArray, List.getElem?_cons_zero, List.getElem?_cons_succ]; rfl) (by kernel_rfl) (by exact fun _ _ _ h => h) (by exact Or.inr ⟨by rfl, rfl⟩) (by assumption) ?_
                            try simp only [Act.put, List.setIfInBounds_toArray, List.set_cons_zero, List.set_cons_succ]
                            refine tkI 11 (v := undef) (by simp only [List.getElem?_toArray, List.getElem?_cons_zero, List.getElem?_cons_succ]; rfl) (by kernel_rfl) (by exact fun _ _ _ h => h) (by exact Or.inr ⟨by rfl, rfl⟩) (by assumption) ?_
                            try simp only [Act.put, List.setIfInBounds_toArray, List.set_cons_zero, List.set_cons_succ]
                            refine tkI 12 (v := undef) (by simp only [List.getElem?_toArray, List.getElem?_cons_zero, List.getElem?_cons_succ]; rfl) (by kernel_rfl) (by exact fun _ _ _ h => h) (by exact Or.inr ⟨by rfl, rfl⟩) (by assumption) ?_
                            try simp only [Act.put, List.setIfInBounds_toArray, List.set_cons_zero, List.set_cons_succ]
                            refine tkI 13 (v := undef) (by simp only [List.getElem?_toArray, List.getElem?_cons_zero, List.getElem?_cons_succ]; rfl) (by kernel_rfl) (by exact fun _ _ _ h => h) (by exact Or.inr ⟨by rfl, rfl⟩) (by assumption) ?_
                            try simp only [Act.put, List.setIfInBounds_toArray, List.set_cons_zero, List.set_cons_succ]
                            refine tkI 14 (v := undef) (by simp only [List.getElem?_toArray, List.getElem?_cons_zero, List.getElem?_cons_succ]; rfl) (by kernel_rfl) (by exact fun _ _ _ h => h) (by exact Or.inr ⟨by rfl, rfl⟩) (by assumption) ?_
                            try simp only [Act.put, List.setIfInBounds_toArray, List.set_cons_zero, List.set_cons_succ]
                            refine tkI 15 (v := undef) (by simp only [List.getElem?_toArray, List.getElem?_cons_zero, List.getElem?_cons_succ]; rfl) (by kernel_rfl) (by exact fun _ _ _ h => h) (by exact Or.inr ⟨by rfl, rfl⟩) (by assumption) ?_
                            try simp only [Act.put, List.setIfInBounds_toArray, List.set_cons_zero, List.set_cons_succ]
                            refine tkI 16 (v := undef) (by simp only [List.getElem?_toArray, List.getElem?_cons_zero, List.getElem?_cons_succ]; rfl) (by kernel_rfl) (by exact fun _ _ _ h => h) (by exact Or.inr ⟨by rfl, rfl⟩) (by assumption) ?_
                            try simp only [Act.put, List.setIfInBounds_toArray, List.set_cons_zero, List.set_cons_succ]
                            refine tkI 17 (by simp only [List.getElem?_toArray, List.getElem?_cons_zero, List.getElem?_cons_succ]; rfl) (by kernel_rfl) (by exact fun _ _ _ h => h) (by first | (exact Or.inl ⟨by rfl, by intro w hSw; (try dsimp only at hSw); go_simp; with_reducible rfl⟩) | (exact Or.inr ⟨by rfl, by rfl⟩)) (by assumption) ?_
                            try simp only [Act.put, List.setIfInBounds_toArray, List.set_cons_zero, List.set_cons_succ]
                            refine wpAnyH_done (by kernel_rfl) ?_ _
                            have HXF := Lib.hid (HX9.out.trans hHeld)
                            clear hHeld
                            go_wp2
                            go_roundw
                            case rel => exact ⟨q + 1, by omega, by go_num, HXF.out⟩
                            case measure => simp [intOf]; omega
                          · rw [decide_eq_false hzn] at HQ
                            have HF2 := Lib.hid (HF.out hzn)
                            have HC3 := Lib.hid (show ∀ W, Calls Try.prog 27 #[.agg (numsA .u8 (xorL z f)), .agg (numsA .u8 X)] W fun q w' => q = .returned (.int .i64 1) ∧ Ext W w' from fun W => by
                              have := compareKeysI_any (xorL z f) X HKX3.out HKX.out W
                              rwa [HF2.out] at this)
                            generalize xorL z f = X3 at HX3 HC3
                            clear hzn HF2 HF HKX3
                            go_wp2_with fail
                            refine wp_region_held_drew (S := fun W => Ext wr W) (by kernel_rfl) (Ext.refl _).drew (fun hHeld => ?_)
                            iterate 4
                              refine tkD 0 (by simp only [List.size_toArray, List.length_cons, List.length_nil]; rfl) (by simp only [List.getElem?_toArray, List.getElem?_cons_zero, List.getElem?_cons_succ]; rfl) (by kernel_rfl) (by exact fun _ _ _ h => h) (by first | (exact Or.inl ⟨by rfl, by intro w hSw; (try dsimp only at hSw); go_simp; with_reducible rfl⟩) | (exact Or.inr ⟨by rfl, by rfl⟩)) (by assumption) ?_
                              try simp only [Act.put, List.setIfInBounds_toArray, List.set_cons_zero, List.set_cons_succ]
                            refine tkI 4 (v := (.agg (numsA .u8 z))) (by simp only [List.getElem?_toArray, List.getElem?_cons_zero, List.getElem?_cons_succ]; rfl) (by kernel_rfl) (by exact fun _ _ _ h => h) (by refine yields_loadSP gs (os + q * 32) (nums .u8 z) (by rw [nums_length, HKS.out.1]; exact aggKey) (fun W hW j u hu => hW.cell (HCS.out j u hu)) ?_ _ rfl rfl; rfl) (by assumption) ?_
                            try simp only [Act.put, List.setIfInBounds_toArray, List.set_cons_zero, List.set_cons_succ]
                            refine wpAnyH_ready (rs := [5]) (by kernel_rfl) (by simp) (AllReadyH.cons (o := ?oy2305) ?hy2305 (fun K hK => ?sy2305) AllReadyH.nil)
                            case hy2305 => simp only [List.getElem?_toArray, List.getElem?_cons_zero, List.getElem?_cons_succ]; rfl
                            go_simp
                            refine (HQ.out _ (HRN9.out.ext (by decide) hHeld)).mono ?_
                            rintro e w11 ⟨rfl, hx⟩
                            have hH2 := hHeld.trans hx
                            refine hK.out _ _ hH2 (fun _ => ?_)
                            clear hHeld hK K
                            have hHeld := hH2
                            clear hH2
                            try simp only [Act.put, List.setIfInBounds_toArray, List.set_cons_zero, List.set_cons_succ]
                            iterate 5
                              refine tkD 0 (by simp only [List.size_toArray, List.length_cons, List.length_nil]; rfl) (by simp only [List.getElem?_toArray, List.getElem?_cons_zero, List.getElem?_cons_succ]; rfl) (by kernel_rfl) (by exact fun _ _ _ h => h) (by first | (exact Or.inl ⟨by rfl, by intro w hSw; (try dsimp only at hSw); go_simp; with_reducible rfl⟩) | (exact Or.inr ⟨by rfl, by rfl⟩)) (by assumption) ?_
                              try simp only [Act.put, List.setIfInBounds_toArray, List.set_cons_zero, List.set_cons_succ]
                            refine tkI 11 (v := (.agg (numsA .u8 z))) (by simp only [List.getElem?_toArray, List.getElem?_cons_zero, List.getElem?_cons_succ]; rfl) (by kernel_rfl) (by exact fun _ _ _ h => h) (by refine yields_loadSP gs (os + q * 32) (nums .u8 z) (by rw [nums_length, HKS.out.1]; exact aggKey) (fun W hW j u hu => hW.cell (HCS.out j u hu)) ?_ _ rfl rfl; rfl) (by assumption) ?_
                            try simp only [Act.put, List.setIfInBounds_toArray, List.set_cons_zero, List.set_cons_succ]
                            refine tkI 12 (v := (.agg (numsA .u8 f))) (by simp only [List.getElem?_toArray, List.getElem?_cons_zero, List.getElem?_cons_succ]; rfl) (by kernel_rfl) (by exact fun _ _ _ h => h) (by refine yields_loadBSP (fun W hW => BF9.out.ext hW) aggKey hszf ?_ _ rfl rfl; rfl) (by assumption) ?_
                            try simp only [Act.put, List.setIfInBounds_toArray, List.set_cons_zero, List.set_cons_succ]
                            refine tkI 14 (v := (.agg (numsA .u8 X))) (by simp only [List.getElem?_toArray, List.getElem?_cons_zero, List.getElem?_cons_succ]; rfl) (by kernel_rfl) (by exact fun _ _ _ h => h) (by refine yields_loadBSP (fun W hW => BX9.out.ext hW) aggKey hszX ?_ _ rfl rfl; rfl) (by assumption) ?_
                            try simp only [Act.put, List.setIfInBounds_toArray, List.set_cons_zero, List.set_cons_succ]
                            refine wpAnyH_ready (rs := [13]) (by kernel_rfl) (by simp) (AllReadyH.cons (o := ?oy23913) ?hy23913 (fun K hK => ?sy23913) AllReadyH.nil)
                            case hy23913 => simp only [List.getElem?_toArray, List.getElem?_cons_zero, List.getElem?_cons_succ]; rfl
                            go_simp
                            refine (HX3.out _).mono ?_
                            rintro e w12 ⟨rfl, hx⟩
                            have hH2 := hHeld.trans hx
                            refine hK.out _ _ hH2 (fun _ => ?_)
                            clear hHeld hK K
                            have hHeld := hH2
                            clear hH2
                            try simp only [Act.put, List.setIfInBounds_toArray, List.set_cons_zero, List.set_cons_succ]
                            refine wpAnyH_ready (rs := [15]) (by kernel_rfl) (by simp) (AllReadyH.cons (o := ?oy24015) ?hy24015 (fun K hK => ?sy24015) AllReadyH.nil)
                            case hy24015 => simp only [List.getElem?_toArray, List.getElem?_cons_zero, List.getElem?_cons_succ]; rfl
                            go_simp
                            refine (HC3.out _).mono ?_
                            rintro e w13 ⟨rfl, hx⟩
                            have hH2 := hHeld.trans hx
                            refine hK.out _ _ hH2 (fun _ => ?_)
                            clear hHeld hK K
                            have hHeld := hH2
                            clear hH2
                            try simp only [Act.put, List.setIfInBounds_toArray, List.set_cons_zero, List.set_cons_succ]
                            iterate 2
                              refine tkD 0 (by simp only [List.size_toArray, List.length_cons, List.length_nil]; rfl) (by simp only [List.getElem?_toArray, List.getElem?_cons_zero, List.getElem?_cons_succ]; rfl) (by kernel_rfl) (by exact fun _ _ _ h => h) (by first | (exact Or.inl ⟨by rfl, by intro w hSw; (try dsimp only at hSw); go_simp; with_reducible rfl⟩) | (exact Or.inr ⟨by rfl, by rfl⟩)) (by assumption) ?_
                              try simp only [Act.put, List.setIfInBounds_toArray, List.set_cons_zero, List.set_cons_succ]
                            refine wpAnyH_done (by kernel_rfl) ?_ _
                            have HXF := Lib.hid (HX9.out.trans hHeld)
                            clear hHeld
                            go_wp2
                            go_roundw
                            case rel => exact ⟨q + 1, by omega, by go_num, HXF.out⟩
                            case measure => simp [intOf]; omega
                        · obtain rfl : q = D.length := by omega
                          have HXF := Lib.hid (HX7.out.trans HX9.out)
                          go_wp2
                          go_roundw
                          case rel => exact ⟨k + 1, by omega, by go_num, HXF.out⟩
                          case measure => simp [intOf]; omega
                · obtain rfl : k = N.length := by omega
                  have XF := Lib.hid (XW4.out.trans HX.out)
                  go_wp2
                  go_ret
                  exact ⟨rfl, XF.out⟩
end Go.Proofs.Ytdjclllnmclocaa
