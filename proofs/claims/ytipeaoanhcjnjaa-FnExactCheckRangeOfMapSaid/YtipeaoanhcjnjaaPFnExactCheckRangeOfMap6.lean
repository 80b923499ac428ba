/- What the walk of the law FnExactCheckRangeOfMap needs, part 6 of 9. No condition. -/
import Derived.Test.YtipeaoanhcjnjaaPFnExactCheckRangeOfMap5
/- The program's sweep: at a node, its name between the bounds. No condition. -/
namespace Go.Proofs.Ytipeaoanhcjnjaa
open Go.RowKit
set_option linter.unusedVariables false
set_option linter.unusedSimpArgs false

set_option maxHeartbeats 16000000 in
set_option maxRecDepth 100000 in
theorem look_nh_mid_in (fr to : ByteArray) (w0 : World) (S0 : Nat → Prop) (K : List Int) (hK : K32 K) (O : List En) (x : Nd) (R' : List Nd) (hokx : x.ok) (hex : entB x.n x.v = true) (hKe : K ≠ emptyL) (h1 : kN x = K) (n : Nat) (hn : n = R'.length + 1) (f : Nat) (ih : LookC f) (hlen : R'.length ≤ f) (h64 : O.length + (R'.length + 1) ≤ 64) (hok : ∀ y ∈ R', y.ok ∧ entB y.n y.v = true) (lo hi : ByteArray) (h3 : ltB x.n hi = true) (h4 : ltB fr x.n = true) (h6 : ltB x.n to = true) (s1 : Sw) (hs1 : tr fr to f x.l ((none : Option ByteArray).getD ⟨#[]⟩) ((some x.n).getD ⟨#[]⟩) (some x.n).isSome ⟨R', O, false⟩ = s1) (hle : SwLe s1 ⟨R', O, false⟩) (hb1 : s1.bad = false)
    (w : World) (g : Nat) (A : Option Addr) (c : Nat) (vO vl vh : Value) (hr : RdL tNd w0 S0 (.slice A n c) (x :: R')) (hC : Cx 68 w0 w w g (swCs fr to (.slice A n c) vO) vO vO O) (t9 : Sw) (hpl : PtrS w vl (none : Option ByteArray)) (hph : PtrS w vh (some hi)) (HT : tr fr to f x.r ((some x.n).getD ⟨#[]⟩) ((some hi).getD ⟨#[]⟩) (some hi).isSome (⟨s1.R, s1.O ++ [(x.n, x.v)], false⟩ : Sw) = t9)
    :
    Calls Try.prog 35 #[.pointer (some ⟨g, 0, none⟩), .agg (numsA .u8 K), vl, vh] w fun e w' => ∃ A' n' c' vO' O', e = .returned (.bool (!t9.bad)) ∧
      Cx 68 w0 w w' g (swCs fr to (.slice A' n' c') vO') vO vO' O' ∧ (t9.bad = false → n' = t9.R.length ∧ O' = t9.O ∧ RdL tNd w0 S0 (.slice A' n' c') t9.R) := by
  have hq3 : Op.bytesLess x.n.toList hi.toList = true := by rw [ltB_eq]; exact h3
  have hq4 : Op.bytesLess fr.toList x.n.toList = true := by rw [ltB_eq]; exact h4
  have hq5 : Op.bytesLess x.n.toList fr.toList = false := by rw [ltB_eq]; exact ltB_asymm h4
  have hq7 : (x.n.toList == fr.toList) = false := by rw [beq_eq_false_iff_ne]; exact fun e => ltB_ne h4 (toList_inj e).symm
  have hq6 : Op.bytesLess x.n.toList to.toList = true := by rw [ltB_eq]; exact h6
  have HOK := Lib.hid hok
  clear hok
  have hs9 := HT
  clear HT
  have hcut := RdL.cutN (k := 1) hr (by simp [hn]) (by omega)
  rw [show n - 1 = R'.length by omega, show (x :: R').drop 1 = R' from rfl, show tNd.sz = 66 from rfl] at hcut
  obtain ⟨A', c', e9, hcap, hlen', hrd, hok9⟩ := id hr
  injection e9 with e91 e92 e93
  subst e91 e93
  obtain ⟨gn, on, rfl, hs0, hcx⟩ := hrd.elem hok9 0 (by simp)
  simp only [Nat.zero_mul, Nat.add_zero, List.getElem_cons_zero] at hcx
  have HD := Lib.hid (show ∀ W, Ext w0 W → ∀ j u, x.enc[j]? = some u → W.cell? ⟨gn, on + j, none⟩ = some u from fun W hW j u hu => hW.cell (hcx j u hu))
  have HOKX := Lib.hid hokx
  have HEX := Lib.hid hex
  have hn0 : ((n : Int) == 0) = false := by rw [beq_eq_false_iff_ne]; omega
  have hn1 : (0 : Int) < (n : Int) := by omega
  have hn2 : 1 ≤ n := by omega
  have hn3 : 0 < n := by omega
  obtain ⟨A2, hA2⟩ : ∃ A2, (if c = 1 then some (⟨gn, on, none⟩ : Addr) else (some (⟨gn, on, none⟩ : Addr)).map (·.add (1 * 66))) = A2 := ⟨_, rfl⟩
  obtain ⟨c2, hc2⟩ : ∃ c2, c - 1 = c2 := ⟨_, rfl⟩
  rw [hA2, hc2] at hcut
  have HSL := Lib.hid (show (Value.slice (if c = 1 then some (⟨gn, on, none⟩ : Addr) else (some (⟨gn, on, none⟩ : Addr)).map (·.add (1 * 66))) (n - 1) (c - 1)) = .slice A2 R'.length c2 by rw [hA2, hc2, show n - 1 = R'.length by omega])
  have HR2 := Lib.hid hcut
  have HST := Lib.hid (Nd.st hokx)
  have hneq : ∀ W, (binOp .neq 28 (.agg (numsA .u8 (kN x))) (.agg (numsA .u8 K))).run Try.prog W = .ok (.bool false) W := fun W => by
    have := run_neqKey (kN x) K (kN_ok x) hK W
    rw [decide_eq_true h1] at this
    exact this
  clear h1 hn hokx hex hcx hrd hok9 hs0 hcap hlen' e92 hcut hA2 hc2
  have hkl := hK.1
  have HC := Lib.hid hC
  have HR := Lib.hid hr
  have HK := Lib.hid hK
  have heql : ∀ W, (binOp .eql 28 (.agg (numsA .u8 K)) (.agg (numsA .u8 emptyL))).run Try.prog W = .ok (.bool false) W := fun W => by
    have := run_eqKey K emptyL HK.out emptyL_ok W
    rw [decide_eq_false hKe] at this
    exact this
  clear hC hr hK hKe
  go_enter Try.func35, Try.ntmps35
  go_wp2_with fail
  have HA := Lib.hid (HC.out.go (ext_alloc w (.cells (numsA .u8 K) 28)))
  have HKB := Lib.hid (Blk.new w 28 (numsA .u8 K))
  generalize w.alloc (.cells (numsA .u8 K) 28) = wa at HA HKB ⊢
  refine wp_region_held_drew (S := fun W => Ext wa W) (by kernel_rfl) (Ext.refl _).drew (fun hHeld => ?_)
  refine tkI 0 (v := (.agg (numsA .u8 K))) (by simp only [List.getElem?_toArray, List.getElem?_cons_zero, List.getElem?_cons_succ]; rfl) (by kernel_rfl) (by exact fun _ _ _ h => h) (by refine yields_loadB HKB.out aggKey (sizeN hkl) ?_ _ rfl rfl; rfl) (by assumption) ?_
  try simp only [Act.put, List.setIfInBounds_toArray, List.set_cons_zero, List.set_cons_succ]
  iterate 3
    refine tkD 0 (by simp only [List.size_toArray, List.length_cons, List.length_nil]; rfl) (by simp only [List.getElem?_toArray, List.getElem?_cons_zero, List.getElem?_cons_succ]; rfl) (by kernel_rfl) (by exact fun _ _ _ h => h) (by first | (exact Or.inl ⟨by rfl, by intro w hSw; (try dsimp only at hSw); go_simp; with_reducible rfl⟩) | (exact Or.inr ⟨by rfl, by rfl⟩)) (by assumption) ?_
    try simp only [Act.put, List.setIfInBounds_toArray, List.set_cons_zero, List.set_cons_succ]
  refine tkI 4 (v := (.agg (numsA .u8 emptyL))) (by simp only [List.getElem?_toArray, List.getElem?_cons_zero, List.getElem?_cons_succ]; rfl) (by kernel_rfl) (by exact fun _ _ _ h => h) (by refine yields_loadP (off := 3) HA.out.blk aggKey (sizeN emptyL_ok.1) (swE fr to _ _) ?_ _ rfl rfl; rfl) (by assumption) ?_
  try simp only [Act.put, List.setIfInBounds_toArray, List.set_cons_zero, List.set_cons_succ]
  refine tkI 5 (by simp only [List.getElem?_toArray, List.getElem?_cons_zero, List.getElem?_cons_succ]; rfl) (by kernel_rfl) (by exact fun _ _ _ h => h) (by first | (exact Or.inl ⟨by rfl, by intro w hSw; (try dsimp only at hSw); go_simp; with_reducible rfl⟩) | (exact Or.inr ⟨by rfl, by rfl⟩)) (by assumption) ?_
  try simp only [Act.put, List.setIfInBounds_toArray, List.set_cons_zero, List.set_cons_succ]
  refine wpAnyH_done (by kernel_rfl) ?_ _
  have HB1 := Lib.hid (HA.out.go hHeld)
  have HK2 := Lib.hid (HKB.out.ext hHeld)
  clear hHeld HA HKB
  generalize World.drew wa = w1 at HB1 HK2 ⊢
  have cd : ∀ W, Ext w1 W → W.cell? ⟨g, 2, none⟩ = some (.slice (some ⟨gn, on, none⟩) n c) := fun W hW => (HB1.out.blk.ext hW).at_ 2 (sw2 _ _ _ _)
  have hND := HD.out
  go_wp2_with fail
  refine wp_region_held_drew (S := fun W => Ext w1 W) (by kernel_rfl) (Ext.refl _).drew (fun hHeld => ?_)
  iterate 12
    refine tkD 0 (by simp only [List.size_toArray, List.length_cons, List.length_nil]; rfl) (by simp only [List.getElem?_toArray, List.getElem?_cons_zero, List.getElem?_cons_succ]; rfl) (by kernel_rfl) (by exact fun _ _ _ h => h) (by first | (exact Or.inl ⟨by rfl, by intro w hSw; (try dsimp only at hSw); go_simp; with_reducible rfl⟩) | (exact Or.inr ⟨by rfl, by rfl⟩)) (by assumption) ?_
    try simp only [Act.put, List.setIfInBounds_toArray, List.set_cons_zero, List.set_cons_succ]
  refine tkI 12 (v := (.agg x.enc.toArray)) (by simp only [List.getElem?_toArray, List.getElem?_cons_zero, List.getElem?_cons_succ]; rfl) (by kernel_rfl) (by exact fun _ _ _ h => h) (by refine yields_loadS gn on x.enc (by rw [Nd.enc_length HOKX.out]; exact aggNodeI) (fun W hW => hND W (HB1.out.ext.trans hW)) ?_ _ rfl rfl; rfl) (by assumption) ?_
  try simp only [Act.put, List.setIfInBounds_toArray, List.set_cons_zero, List.set_cons_succ]
  refine tkI 14 (v := (.agg (numsA .u8 K))) (by simp only [List.getElem?_toArray, List.getElem?_cons_zero, List.getElem?_cons_succ]; rfl) (by kernel_rfl) (by exact fun _ _ _ h => h) (by refine yields_loadB HK2.out aggKey (sizeN hkl) ?_ _ rfl rfl; rfl) (by assumption) ?_
  try simp only [Act.put, List.setIfInBounds_toArray, List.set_cons_zero, List.set_cons_succ]
  refine wpAnyH_ready (rs := [13]) (by kernel_rfl) (by simp) (AllReadyH.cons (o := ?oy65013) ?hy65013 (fun K hK => ?sy65013) AllReadyH.nil)
  case hy65013 => simp only [List.getElem?_toArray, List.getElem?_cons_zero, List.getElem?_cons_succ]; rfl
  go_simp
  refine (nodeKey_any x HOKX.out HEX.out _).mono ?_
  rintro e w3 ⟨rfl, hx⟩
  have hH2 := hHeld.trans hx
  refine hK.out _ _ hH2 (fun _ => ?_)
  clear hHeld hK K
  have hHeld := hH2
  clear hH2
  try simp only [Act.put, List.setIfInBounds_toArray, List.set_cons_zero, List.set_cons_succ]
  try rw [show hashL 5 (nodeL x) = kN x by rw [kN]]
  iterate 2
    refine tkD 0 (by simp only [List.size_toArray, List.length_cons, List.length_nil]; rfl) (by simp only [List.getElem?_toArray, List.getElem?_cons_zero, List.getElem?_cons_succ]; rfl) (by kernel_rfl) (by exact fun _ _ _ h => h) (by first | (exact Or.inl ⟨by rfl, by intro w hSw; (try dsimp only at hSw); go_simp; with_reducible rfl⟩) | (exact Or.inr ⟨by rfl, by rfl⟩)) (by assumption) ?_
    try simp only [Act.put, List.setIfInBounds_toArray, List.set_cons_zero, List.set_cons_succ]
  refine wpAnyH_done (by kernel_rfl) ?_ _
  have HB3 := Lib.hid (HB1.out.go hHeld)
  have HK3 := Lib.hid (HK2.out.ext hHeld)
  clear hHeld cd hND HB1 HK2
  have HBa := Lib.hid (HB3.out.go (ext_alloc w3 (.cells x.enc.toArray 52)))
  have HNa := Lib.hid (Blk.new w3 52 x.enc.toArray)
  have d2 := HB3.out.blk.at_ 2 (sw2 _ _ _ _)
  have a2 := HBa.out.blk.at_ 2 (sw2 _ _ _ _)
  have c64 := HNa.out.at_ 64 (Nd.at64 HOKX.out)
  have HBb := Lib.hid (HBa.out.go (ext_alloc (World.alloc w3 (.cells x.enc.toArray 52)) (.cells #[.string x.n] 9)))
  have b2 := HBb.out.blk.at_ 2 (sw2 _ _ _ _)
  have f2 := HBb.out.blk.free 2
  go_wp2_with (first
    | (refine wpl_load ⟨gn, on, none⟩ x.enc (by rw [Nd.enc_length HOKX.out]; exact aggNodeI) rfl _ rfl rfl (fun j u hu => by rw [Addr.add_lit]; exact HD.out _ HB3.out.ext j u hu) ?_)
    | (refine wpl_storeNewB aggNodeI HST.out rfl rfl _ _ rfl rfl rfl rfl ?_)
    | (refine wpl_cut1 (sz := 66) (A := some ⟨gn, on, none⟩) (n := n) (c := c) (by kernel_rfl) (by kernel_rfl) rfl _ rfl rfl hn2 ?_; rw [HSL.out]))
  have hgn : w3.heap.size ≠ g := by have := HB3.out.blk.lt; omega
  have hgs : w3.heap.size + 1 ≠ g := by have := HB3.out.blk.lt; omega
  have HB8 := Lib.hid (show Cx 68 w0 w (World.setCell (World.alloc (World.alloc w3 (.cells x.enc.toArray 52)) (.cells #[.string x.n] 9)) ⟨g, 2, none⟩ (.slice A2 R'.length c2)) g (swCs fr to (.slice A2 R'.length c2) vO) vO vO O from by have := HBb.out.set 2 (.slice A2 R'.length c2); rwa [sw_set2] at this)
  have HN8 := Lib.hid (show Blk (World.setCell (World.alloc (World.alloc w3 (.cells x.enc.toArray 52)) (.cells #[.string x.n] 9)) ⟨g, 2, none⟩ (.slice A2 R'.length c2)) w3.heap.size 52 x.enc.toArray from (HNa.out.alloc _).far hgn _)
  have HS8 := Lib.hid (show Blk (World.setCell (World.alloc (World.alloc w3 (.cells x.enc.toArray 52)) (.cells #[.string x.n] 9)) ⟨g, 2, none⟩ (.slice A2 R'.length c2)) (w3.heap.size + 1) 9 #[.string x.n] from (Blk.new' (g := w3.heap.size + 1) (w := World.alloc w3 (.cells x.enc.toArray 52)) (by simp) 9 #[.string x.n]).far hgs _)
  have HPL := Lib.hid (hpl.cx HC.out HB8.out)
  have HPH := Lib.hid (hph.cx HC.out HB8.out)
  clear d2 a2 c64 b2 f2 HBa HBb HNa HK3
  obtain ⟨nb, hnb⟩ : ∃ nb, w3.heap.size = nb := ⟨_, rfl⟩
  rw [hnb] at HN8 HS8 hgn hgs ⊢
  generalize (World.setCell (World.alloc (World.alloc w3 (.cells x.enc.toArray 52)) (.cells #[.string x.n] 9)) ⟨g, 2, none⟩ (.slice A2 R'.length c2)) = wb at HB8 HN8 HS8 HPL HPH ⊢
  clear HB3 hnb hpl hph
  have cs8 : ∀ W, Ext wb W → W.cell? ⟨nb + 1, 0, none⟩ = some (.string x.n) := fun W hW => (HS8.out.ext hW).at_ 0 rfl
  obtain rfl : vl = .pointer none := HPL.out
  obtain ⟨hb, rfl, hhb⟩ := HPH.out
  have ch8 : ∀ W, Ext wb W → W.cell? ⟨hb, 0, none⟩ = some (.string hi) := fun W hW => (hhb.ext hW).at_ 0 rfl
  clear hhb
  refine wp_region_held_drew (S := fun W => Ext wb W) (by kernel_rfl) (Ext.refl _).drew (fun hHeld => ?_)
  iterate 20
    refine tkD 0 (by simp only [List.size_toArray, List.length_cons, List.length_nil]; rfl) (by simp only [List.getElem?_toArray, List.getElem?_cons_zero, List.getElem?_cons_succ]; rfl) (by kernel_rfl) (by exact fun _ _ _ h => h) (by first | (exact Or.inl ⟨by rfl, by intro w hSw; (try dsimp only at hSw); go_simp; with_reducible rfl⟩) | (exact Or.inr ⟨by rfl, by rfl⟩)) (by assumption) ?_
    try simp only [Act.put, List.setIfInBounds_toArray, List.set_cons_zero, List.set_cons_succ]
  refine wpAnyH_done (by kernel_rfl) ?_ _
  have HC9 := Lib.hid (HB8.out.go hHeld)
  have HN9 := Lib.hid (HN8.out.ext hHeld)
  have HS9 := Lib.hid (HS8.out.ext hHeld)
  have HPL9 := Lib.hid (HPL.out.ext hHeld)
  have HPH9 := Lib.hid (HPH.out.ext hHeld)
  clear hHeld HB8 HN8 HS8 HPL HPH cs8
  clear ch8
  generalize World.drew wb = w9 at HC9 HN9 HS9 HPL9 HPH9 ⊢
  go_wp2_with fail
  refine wp_region_held_drew (S := fun W => Ext w0 W ∧ Blk W nb 52 x.enc.toArray ∧ Blk W (nb + 1) 9 #[.string x.n] ∧ W.cell? ⟨g, 0, none⟩ = some (.string fr) ∧ W.cell? ⟨g, 1, none⟩ = some (.string to)) (by kernel_rfl) ⟨HC9.out.ext.drew, HN9.out, HS9.out, HC9.out.blk.at_ 0 (sw0 _ _ _ _), HC9.out.blk.at_ 1 (sw1 _ _ _ _)⟩ (fun hHeld => ?_)
  have HCd := Lib.hid (HC9.out.go (Ext.refl _).drew)
  have HNd := Lib.hid (HN9.out.ext (Ext.refl w9).drew)
  have HSd := Lib.hid (HS9.out.ext (Ext.refl w9).drew)
  replace HPL9 := Lib.hid (HPL9.out.ext (Ext.refl w9).drew)
  replace HPH9 := Lib.hid (HPH9.out.ext (Ext.refl w9).drew)
  generalize World.drew w9 = wd at hHeld HCd HNd HSd HPL9 HPH9 ⊢
  clear HC9 HN9 HS9
  iterate 9
    refine tkD 0 (by simp only [List.size_toArray, List.length_cons, List.length_nil]; rfl) (by simp only [List.getElem?_toArray, List.getElem?_cons_zero, List.getElem?_cons_succ]; rfl) (by kernel_rfl) (by exact fun _ _ _ h => h) (by exact Or.inl ⟨by rfl, by intro w hSw; have hn0 := hSw.2.2.1.at_ 0 rfl; have hf0 := hSw.2.2.2.1; have ht0 := hSw.2.2.2.2; go_simp; with_reducible rfl⟩) (by assumption) ?_
    try simp only [Act.put, List.setIfInBounds_toArray, List.set_cons_zero, List.set_cons_succ]
  refine tkI 9 (v := (.agg (numsA .u8 x.l))) (by simp only [List.getElem?_toArray, List.getElem?_cons_zero, List.getElem?_cons_succ]; rfl) (by kernel_rfl) (by exact fun _ _ _ h => h) (by refine yields_loadS nb 0 (nums .u8 x.l) (by rw [nums_length, HOKX.out.1.1]; exact aggKey) (fun W hW j u hu => hW.2.1.at_ (0 + j) (Nd.left HOKX.out j u (by rw [numsA, List.getElem?_toArray]; exact hu))) ?_ _ rfl rfl; rfl) (by assumption) ?_
  try simp only [Act.put, List.setIfInBounds_toArray, List.set_cons_zero, List.set_cons_succ]
  refine tkI 10 (by simp only [List.getElem?_toArray, List.getElem?_cons_zero, List.getElem?_cons_succ]; rfl) (by kernel_rfl) (by exact fun _ _ _ h => h) (by exact Or.inl ⟨by rfl, by intro w hSw; have hn0 := hSw.2.2.1.at_ 0 rfl; have hf0 := hSw.2.2.2.1; have ht0 := hSw.2.2.2.2; go_simp; with_reducible rfl⟩) (by assumption) ?_
  try simp only [Act.put, List.setIfInBounds_toArray, List.set_cons_zero, List.set_cons_succ]
  refine wpAnyH_ready (rs := [11]) (by kernel_rfl) (by simp) (AllReadyH.cons (o := ?oy68411) ?hy68411 (fun K hK => ?sy68411) AllReadyH.nil)
  case hy68411 => simp only [List.getElem?_toArray, List.getElem?_cons_zero, List.getElem?_cons_succ]; rfl
  go_simp
  refine (ih fr to w0 S0 x.l none (some x.n) R' O hlen (by omega) HOK.out HOKX.out.1 wd g A2 c2 vO _ _ HR2.out HCd.out.again HPL9.out ⟨nb + 1, rfl, HSd.out⟩).mono ?_
  rintro e w10 ⟨A3, n3, c3, v3, O3, he, hc, ht⟩
  rw [hs1] at he ht
  rw [hb1] at he
  subst he
  have hH2 : Ext w0 w10 ∧ Blk w10 nb 52 x.enc.toArray ∧ Blk w10 (nb + 1) 9 #[.string x.n] ∧ w10.cell? ⟨g, 0, none⟩ = some (.string fr) ∧ w10.cell? ⟨g, 1, none⟩ = some (.string to) := ⟨hc.ext, HNd.out.cx HCd.out hc hgn (by decide), HSd.out.cx HCd.out hc hgs (by decide), hc.blk.at_ 0 (sw0 _ _ _ _), hc.blk.at_ 1 (sw1 _ _ _ _)⟩
  refine hK.out _ _ hH2 (fun _ => ?_)
  clear hK K hHeld
  have hHeld := hH2
  clear hH2
  try simp only [Act.put, List.setIfInBounds_toArray, List.set_cons_zero, List.set_cons_succ]
  iterate 2
    refine tkD 0 (by simp only [List.size_toArray, List.length_cons, List.length_nil]; rfl) (by simp only [List.getElem?_toArray, List.getElem?_cons_zero, List.getElem?_cons_succ]; rfl) (by kernel_rfl) (by exact fun _ _ _ h => h) (by exact Or.inl ⟨by rfl, by intro w hSw; have hn0 := hSw.2.2.1.at_ 0 rfl; have hf0 := hSw.2.2.2.1; have ht0 := hSw.2.2.2.2; go_simp; with_reducible rfl⟩) (by assumption) ?_
    try simp only [Act.put, List.setIfInBounds_toArray, List.set_cons_zero, List.set_cons_succ]
  refine wpAnyH_done (by kernel_rfl) ?_ _
  have HC11 := Lib.hid (HCd.out.call hc)
  have HN11 := Lib.hid hHeld.2.1
  have HS11 := Lib.hid hHeld.2.2.1
  replace HPL9 := Lib.hid (HPL9.out.cx HCd.out hc)
  replace HPH9 := Lib.hid (HPH9.out.cx HCd.out hc)
  obtain ⟨rfl, rfl, hr3⟩ := ht hb1
  have HR3 := Lib.hid hr3
  clear hHeld hc ht hr3 HCd HNd HSd
  go_wp2_with fail
  have cn : ∀ X, Ext w10 X → X.cell? ⟨nb + 1, 0, none⟩ = some (.string x.n) := fun X hX => (HS11.out.ext hX).at_ 0 rfl
  have cf : ∀ X, Ext w10 X → X.cell? ⟨g, 0, none⟩ = some (.string fr) := fun X hX => (HC11.out.blk.ext hX).at_ 0 (sw0 _ _ _ _)
  have ct : ∀ X, Ext w10 X → X.cell? ⟨g, 1, none⟩ = some (.string to) := fun X hX => (HC11.out.blk.ext hX).at_ 1 (sw1 _ _ _ _)
  refine wp_region_held_drew (S := fun W => Ext w10 W) (by kernel_rfl) (Ext.refl _).drew (fun hHeld => ?_)
  iterate 14
    refine tkD 0 (by simp only [List.size_toArray, List.length_cons, List.length_nil]; rfl) (by simp only [List.getElem?_toArray, List.getElem?_cons_zero, List.getElem?_cons_succ]; rfl) (by kernel_rfl) (by exact fun _ _ _ h => h) (by first | (exact Or.inl ⟨by rfl, by intro w hSw; (try dsimp only at hSw); go_simp; with_reducible rfl⟩) | (exact Or.inr ⟨by rfl, by rfl⟩)) (by assumption) ?_
    try simp only [Act.put, List.setIfInBounds_toArray, List.set_cons_zero, List.set_cons_succ]
  refine wpAnyH_done (by kernel_rfl) ?_ _
  have HC12 := Lib.hid (HC11.out.go hHeld)
  have HN12 := Lib.hid (HN11.out.ext hHeld)
  have HS12 := Lib.hid (HS11.out.ext hHeld)
  replace HPL9 := Lib.hid (HPL9.out.ext hHeld)
  replace HPH9 := Lib.hid (HPH9.out.ext hHeld)
  clear hHeld HC11 HN11 HS11 cn cf ct
  generalize World.drew w10 = w12 at HC12 HN12 HS12 HPL9 HPH9 ⊢
  go_wp2_with fail
  refine wp_region_held_drew (S := fun W => Ext w0 W ∧ Blk W nb 52 x.enc.toArray ∧ Blk W (nb + 1) 9 #[.string x.n]) (by kernel_rfl) ⟨HC12.out.ext.drew, HN12.out, HS12.out⟩ (fun hHeld => ?_)
  have HCd := Lib.hid (HC12.out.go (Ext.refl _).drew)
  replace HPL9 := Lib.hid (HPL9.out.ext (Ext.refl w12).drew)
  replace HPH9 := Lib.hid (HPH9.out.ext (Ext.refl w12).drew)
  generalize World.drew w12 = wd at hHeld HCd HPL9 HPH9 ⊢
  clear HC12 HN12 HS12
  iterate 4
    refine tkD 0 (by simp only [List.size_toArray, List.length_cons, List.length_nil]; rfl) (by simp only [List.getElem?_toArray, List.getElem?_cons_zero, List.getElem?_cons_succ]; rfl) (by kernel_rfl) (by exact fun _ _ _ h => h) (by first | (exact Or.inl ⟨by rfl, by intro w hSw; (try dsimp only at hSw); go_simp; with_reducible rfl⟩) | (exact Or.inr ⟨by rfl, by rfl⟩)) (by assumption) ?_
    try simp only [Act.put, List.setIfInBounds_toArray, List.set_cons_zero, List.set_cons_succ]
  refine tkI 5 (by simp only [List.getElem?_toArray, List.getElem?_cons_zero, List.getElem?_cons_succ]; rfl) (by kernel_rfl) (by exact fun _ _ _ h => h) (by first | (exact Or.inl ⟨by rfl, by intro w hSw; (try dsimp only at hSw); go_simp; with_reducible rfl⟩) | (exact Or.inr ⟨by rfl, by rfl⟩)) (by assumption) ?_
  try simp only [Act.put, List.setIfInBounds_toArray, List.set_cons_zero, List.set_cons_succ]
  refine tkI 6 (v := (.agg #[.string x.n, .string x.v])) (by simp only [List.getElem?_toArray, List.getElem?_cons_zero, List.getElem?_cons_succ]; rfl) (by kernel_rfl) (by exact fun _ _ _ h => h) (by refine yields_loadS nb 64 [.string x.n, .string x.v] aggEntryI (fun W hW j u hu => hW.2.1.at_ (64 + j) (Nd.ent HOKX.out j u (by simpa using hu))) ?_ _ rfl rfl; rfl) (by assumption) ?_
  try simp only [Act.put, List.setIfInBounds_toArray, List.set_cons_zero, List.set_cons_succ]
  refine wpAnyH_ready (rs := [4, 7]) (by kernel_rfl) (by simp) (AllReadyH.cons (o := ?oy7074) ?hy7074 (fun K hK => ?sy7074) (AllReadyH.cons (o := ?oy7077) ?hy7077 (fun K hK => ?sy7077) AllReadyH.nil))
  case hy7074 => simp only [List.getElem?_toArray, List.getElem?_cons_zero, List.getElem?_cons_succ]; rfl
  case hy7077 => simp only [List.getElem?_toArray, List.getElem?_cons_zero, List.getElem?_cons_succ]; rfl
  case sy7074 =>
    have s3 := HCd.out.blk.at_ 35 (sw35 _ _ _ _)
    go_simp
    refine hK.out _ _ hHeld (fun _ => ?_)
    clear hK K s3
    try simp only [Act.put, List.setIfInBounds_toArray, List.set_cons_zero, List.set_cons_succ]
    refine wpAnyH_ready (rs := [7]) (by kernel_rfl) (by simp) (AllReadyH.cons (o := ?oy7087) ?hy7087 (fun K hK => ?sy7087) AllReadyH.nil)
    case hy7087 => simp only [List.getElem?_toArray, List.getElem?_cons_zero, List.getElem?_cons_succ]; rfl
    go_simp
    have hH2 : Ext w0 (wd.alloc (.cells #[.string x.n, .string x.v] 50)) ∧ Blk (wd.alloc (.cells #[.string x.n, .string x.v] 50)) nb 52 x.enc.toArray ∧ Blk (wd.alloc (.cells #[.string x.n, .string x.v] 50)) (nb + 1) 9 #[.string x.n] := ⟨hHeld.1.alloc _, hHeld.2.1.alloc _, hHeld.2.2.alloc _⟩
    refine hK.out _ _ hH2 (fun _ => ?_)
    clear hK K hHeld
    have hHeld := hH2
    clear hH2
    try simp only [Act.put, List.setIfInBounds_toArray, List.set_cons_zero, List.set_cons_succ]
    have HCe := Lib.hid (HCd.out.go (ext_alloc wd (.cells #[.string x.n, .string x.v] 50)))
    replace HPL9 := Lib.hid (HPL9.out.ext (ext_alloc wd (.cells #[.string x.n, .string x.v] 50)))
    replace HPH9 := Lib.hid (HPH9.out.ext (ext_alloc wd (.cells #[.string x.n, .string x.v] 50)))
    refine wpAnyH_ready (rs := [8]) (by kernel_rfl) (by simp) (AllReadyH.cons (o := ?oy7098) ?hy7098 (fun K hK => ?sy7098) AllReadyH.nil)
    case hy7098 => simp only [List.getElem?_toArray, List.getElem?_cons_zero, List.getElem?_cons_succ]; rfl
    refine stp_append rowEnt rfl _ _ rfl (v := v3) rfl HCe.out.own _ _ rfl (A := some ⟨wd.heap.size, 0, none⟩) (ys := [(x.n, x.v)]) rfl (rd_ent wd (x.n, x.v) _) (by intro y hy; obtain rfl := List.mem_singleton.1 hy; exact HOKX.out.2.2) (by have := hle.o; simp only [List.length_singleton] at *; omega) HCe.out.ext.size ?_
    intro v4 w4 ho1 hg1 hat1
    obtain ⟨B4, m4, k4, rfl⟩ := ho1.shape3
    have hcx := HCe.out.again.app ho1 hg1 hat1
    have HN4 := Lib.hid (hHeld.2.1.cx HCe.out hcx hgn (by decide))
    have HS4 := Lib.hid (hHeld.2.2.cx HCe.out hcx hgs (by decide))
    replace HPL9 := Lib.hid (HPL9.out.cx HCe.out hcx)
    replace HPH9 := Lib.hid (HPH9.out.cx HCe.out hcx)
    have HC4 := Lib.hid (HCe.out.call hcx)
    have hH2 : Ext w0 w4 ∧ Blk w4 nb 52 x.enc.toArray ∧ Blk w4 (nb + 1) 9 #[.string x.n] := ⟨HC4.out.ext, HN4.out, HS4.out⟩
    clear ho1 hg1 hat1 hcx HCe
    refine hK.out _ _ hH2 (fun _ => ?_)
    clear hK K hHeld
    have hHeld := hH2
    clear hH2
    try simp only [Act.put, List.setIfInBounds_toArray, List.set_cons_zero, List.set_cons_succ]
    refine tkI 9 (by simp only [List.getElem?_toArray, List.getElem?_cons_zero, List.getElem?_cons_succ]; rfl) (by kernel_rfl) (by exact fun _ _ _ h => h) (by first | (exact Or.inl ⟨by rfl, by intro w hSw; (try dsimp only at hSw); go_simp; with_reducible rfl⟩) | (exact Or.inr ⟨by rfl, by rfl⟩)) (by assumption) ?_
    try simp only [Act.put, List.setIfInBounds_toArray, List.set_cons_zero, List.set_cons_succ]
    refine tkI 10 (by simp only [List.getElem?_toArray, List.getElem?_cons_zero, List.getElem?_cons_succ]; rfl) (by kernel_rfl) (by exact fun _ _ _ h => h) (by first | (exact Or.inl ⟨by rfl, by intro w hSw; (try dsimp only at hSw); go_simp; with_reducible rfl⟩) | (exact Or.inr ⟨by rfl, by rfl⟩)) (by assumption) ?_
    try simp only [Act.put, List.setIfInBounds_toArray, List.set_cons_zero, List.set_cons_succ]
    refine wpAnyH_ready (rs := [11]) (by kernel_rfl) (by simp) (AllReadyH.cons (o := ?oy71211) ?hy71211 (fun K hK => ?sy71211) AllReadyH.nil)
    case hy71211 => simp only [List.getElem?_toArray, List.getElem?_cons_zero, List.getElem?_cons_succ]; rfl
    have s3 := HC4.out.blk.at_ 35 (sw35 _ _ _ _)
    have t3 := HC4.out.blk.free 35
    go_simp
    have HC5 := Lib.hid (show Cx 68 w0 w (w4.setCell ⟨g, 35, none⟩ (.slice B4 m4 k4)) g (swCs fr to (.slice A3 s1.R.length c3) (.slice B4 m4 k4)) vO (.slice B4 m4 k4) (s1.O ++ [(x.n, x.v)]) from by have := HC4.out.set 35 (.slice B4 m4 k4); rwa [sw_set35] at this)
    have HN5 := Lib.hid (HN4.out.far (p := ⟨g, 35, none⟩) hgn (.slice B4 m4 k4))
    have HS5 := Lib.hid (HS4.out.far (p := ⟨g, 35, none⟩) hgs (.slice B4 m4 k4))
    replace HPL9 := Lib.hid (HPL9.out.cx HC4.out (HC4.out.again.set 35 (.slice B4 m4 k4)))
    replace HPH9 := Lib.hid (HPH9.out.cx HC4.out (HC4.out.again.set 35 (.slice B4 m4 k4)))
    have hH2 : Ext w0 (w4.setCell ⟨g, 35, none⟩ (.slice B4 m4 k4)) ∧ Blk (w4.setCell ⟨g, 35, none⟩ (.slice B4 m4 k4)) nb 52 x.enc.toArray ∧ Blk (w4.setCell ⟨g, 35, none⟩ (.slice B4 m4 k4)) (nb + 1) 9 #[.string x.n] := ⟨HC5.out.ext, HN5.out, HS5.out⟩
    clear s3 t3
    refine hK.out _ _ hH2 (fun _ => ?_)
    clear hK K hHeld
    have hHeld := hH2
    clear hH2
    try simp only [Act.put, List.setIfInBounds_toArray, List.set_cons_zero, List.set_cons_succ]
    refine wpAnyH_done (by kernel_rfl) ?_ _
    clear hHeld
    generalize w4.setCell ⟨g, 35, none⟩ (.slice B4 m4 k4) = w5 at HC5 HN5 HS5 HPL9 HPH9 ⊢
    clear HC4 HN4 HS4
    go_wp2_with fail
    refine wp_region_held_drew (S := fun W => Ext w0 W ∧ Blk W nb 52 x.enc.toArray ∧ Blk W (nb + 1) 9 #[.string x.n] ∧ W.cell? ⟨g, 0, none⟩ = some (.string fr) ∧ W.cell? ⟨g, 1, none⟩ = some (.string to)) (by kernel_rfl) ⟨HC5.out.ext.drew, HN5.out, HS5.out, HC5.out.blk.at_ 0 (sw0 _ _ _ _), HC5.out.blk.at_ 1 (sw1 _ _ _ _)⟩ (fun hHeld => ?_)
    have HCd := Lib.hid (HC5.out.go (Ext.refl _).drew)
    have HNd := Lib.hid (HN5.out.ext (Ext.refl w5).drew)
    have HSd := Lib.hid (HS5.out.ext (Ext.refl w5).drew)
    replace HPL9 := Lib.hid (HPL9.out.ext (Ext.refl w5).drew)
    replace HPH9 := Lib.hid (HPH9.out.ext (Ext.refl w5).drew)
    generalize World.drew w5 = wd at hHeld HCd HNd HSd HPL9 HPH9 ⊢
    clear HC5 HN5 HS5
    iterate 9
      refine tkD 0 (by simp only [List.size_toArray, List.length_cons, List.length_nil]; rfl) (by simp only [List.getElem?_toArray, List.getElem?_cons_zero, List.getElem?_cons_succ]; rfl) (by kernel_rfl) (by exact fun _ _ _ h => h) (by exact Or.inl ⟨by rfl, by intro w hSw; have hn0 := hSw.2.2.1.at_ 0 rfl; have hf0 := hSw.2.2.2.1; have ht0 := hSw.2.2.2.2; go_simp; with_reducible rfl⟩) (by assumption) ?_
      try simp only [Act.put, List.setIfInBounds_toArray, List.set_cons_zero, List.set_cons_succ]
    refine tkI 9 (v := (.agg (numsA .u8 x.r))) (by simp only [List.getElem?_toArray, List.getElem?_cons_zero, List.getElem?_cons_succ]; rfl) (by kernel_rfl) (by exact fun _ _ _ h => h) (by refine yields_loadS nb 32 (nums .u8 x.r) (by rw [nums_length, HOKX.out.2.1.1]; exact aggKey) (fun W hW j u hu => hW.2.1.at_ (32 + j) (Nd.right HOKX.out j u (by rw [numsA, List.getElem?_toArray]; exact hu))) ?_ _ rfl rfl; rfl) (by assumption) ?_
    try simp only [Act.put, List.setIfInBounds_toArray, List.set_cons_zero, List.set_cons_succ]
    refine tkI 10 (by simp only [List.getElem?_toArray, List.getElem?_cons_zero, List.getElem?_cons_succ]; rfl) (by kernel_rfl) (by exact fun _ _ _ h => h) (by exact Or.inl ⟨by rfl, by intro w hSw; have hn0 := hSw.2.2.1.at_ 0 rfl; have hf0 := hSw.2.2.2.1; have ht0 := hSw.2.2.2.2; go_simp; with_reducible rfl⟩) (by assumption) ?_
    try simp only [Act.put, List.setIfInBounds_toArray, List.set_cons_zero, List.set_cons_succ]
    refine wpAnyH_ready (rs := [11]) (by kernel_rfl) (by simp) (AllReadyH.cons (o := ?oy72411) ?hy72411 (fun K hK => ?sy72411) AllReadyH.nil)
    case hy72411 => simp only [List.getElem?_toArray, List.getElem?_cons_zero, List.getElem?_cons_succ]; rfl
    go_simp
    refine (ih fr to w0 S0 x.r (some x.n) (some hi) s1.R (s1.O ++ [(x.n, x.v)]) (Nat.le_trans hle.r hlen) (by have := hle.o; have := hle.r; simp only [List.length_append, List.length_singleton] at *; omega) (fun y hy => HOK.out y (hle.m y hy)) HOKX.out.2.1 wd g A3 c3 (.slice B4 m4 k4) _ _ HR3.out HCd.out.again ⟨nb + 1, rfl, HSd.out⟩ HPH9.out).mono ?_
    rintro e w14 ⟨A9, n9, c9, v9, O9, he, hc, ht⟩
    rw [hs9] at he ht
    subst he
    have hH2 : Ext w0 w14 ∧ Blk w14 nb 52 x.enc.toArray ∧ Blk w14 (nb + 1) 9 #[.string x.n] ∧ w14.cell? ⟨g, 0, none⟩ = some (.string fr) ∧ w14.cell? ⟨g, 1, none⟩ = some (.string to) := ⟨hc.ext, HNd.out.cx HCd.out hc hgn (by decide), HSd.out.cx HCd.out hc hgs (by decide), hc.blk.at_ 0 (sw0 _ _ _ _), hc.blk.at_ 1 (sw1 _ _ _ _)⟩
    refine hK.out _ _ hH2 (fun _ => ?_)
    clear hK K hHeld
    have hHeld := hH2
    clear hH2
    try simp only [Act.put, List.setIfInBounds_toArray, List.set_cons_zero, List.set_cons_succ]
    iterate 2
      refine tkD 0 (by simp only [List.size_toArray, List.length_cons, List.length_nil]; rfl) (by simp only [List.getElem?_toArray, List.getElem?_cons_zero, List.getElem?_cons_succ]; rfl) (by kernel_rfl) (by exact fun _ _ _ h => h) (by exact Or.inl ⟨by rfl, by intro w hSw; have hn0 := hSw.2.2.1.at_ 0 rfl; have hf0 := hSw.2.2.2.1; have ht0 := hSw.2.2.2.2; go_simp; with_reducible rfl⟩) (by assumption) ?_
      try simp only [Act.put, List.setIfInBounds_toArray, List.set_cons_zero, List.set_cons_succ]
    refine wpAnyH_done (by kernel_rfl) ?_ _
    have HC14 := Lib.hid (HCd.out.call hc)
    have HT9 := Lib.hid ht
    clear hHeld hc ht
    go_wp2
    go_ret
    exact ⟨A9, n9, c9, v9, O9, rfl, HC14.out, HT9.out⟩
  case sy7077 =>
    go_simp
    have hH2 : Ext w0 (wd.alloc (.cells #[.string x.n, .string x.v] 50)) ∧ Blk (wd.alloc (.cells #[.string x.n, .string x.v] 50)) nb 52 x.enc.toArray ∧ Blk (wd.alloc (.cells #[.string x.n, .string x.v] 50)) (nb + 1) 9 #[.string x.n] := ⟨hHeld.1.alloc _, hHeld.2.1.alloc _, hHeld.2.2.alloc _⟩
    refine hK.out _ _ hH2 (fun _ => ?_)
    clear hK K hHeld
    have hHeld := hH2
    clear hH2
    try simp only [Act.put, List.setIfInBounds_toArray, List.set_cons_zero, List.set_cons_succ]
    have HCe := Lib.hid (HCd.out.go (ext_alloc wd (.cells #[.string x.n, .string x.v] 50)))
    replace HPL9 := Lib.hid (HPL9.out.ext (ext_alloc wd (.cells #[.string x.n, .string x.v] 50)))
    replace HPH9 := Lib.hid (HPH9.out.ext (ext_alloc wd (.cells #[.string x.n, .string x.v] 50)))
    refine wpAnyH_ready (rs := [4]) (by kernel_rfl) (by simp) (AllReadyH.cons (o := ?oy7274) ?hy7274 (fun K hK => ?sy7274) AllReadyH.nil)
    case hy7274 => simp only [List.getElem?_toArray, List.getElem?_cons_zero, List.getElem?_cons_succ]; rfl
    have s3 := HCe.out.blk.at_ 35 (sw35 _ _ _ _)
    go_simp
    refine hK.out _ _ hHeld (fun _ => ?_)
    clear hK K s3
    try simp only [Act.put, List.setIfInBounds_toArray, List.set_cons_zero, List.set_cons_succ]
    refine wpAnyH_ready (rs := [8]) (by kernel_rfl) (by simp) (AllReadyH.cons (o := ?oy7288) ?hy7288 (fun K hK => ?sy7288) AllReadyH.nil)
    case hy7288 => simp only [List.getElem?_toArray, List.getElem?_cons_zero, List.getElem?_cons_succ]; rfl
    refine stp_append rowEnt rfl _ _ rfl (v := v3) rfl HCe.out.own _ _ rfl (A := some ⟨wd.heap.size, 0, none⟩) (ys := [(x.n, x.v)]) rfl (rd_ent wd (x.n, x.v) _) (by intro y hy; obtain rfl := List.mem_singleton.1 hy; exact HOKX.out.2.2) (by have := hle.o; simp only [List.length_singleton] at *; omega) HCe.out.ext.size ?_
    intro v4 w4 ho1 hg1 hat1
    obtain ⟨B4, m4, k4, rfl⟩ := ho1.shape3
    have hcx := HCe.out.again.app ho1 hg1 hat1
    have HN4 := Lib.hid (hHeld.2.1.cx HCe.out hcx hgn (by decide))
    have HS4 := Lib.hid (hHeld.2.2.cx HCe.out hcx hgs (by decide))
    replace HPL9 := Lib.hid (HPL9.out.cx HCe.out hcx)
    replace HPH9 := Lib.hid (HPH9.out.cx HCe.out hcx)
    have HC4 := Lib.hid (HCe.out.call hcx)
    have hH2 : Ext w0 w4 ∧ Blk w4 nb 52 x.enc.toArray ∧ Blk w4 (nb + 1) 9 #[.string x.n] := ⟨HC4.out.ext, HN4.out, HS4.out⟩
    clear ho1 hg1 hat1 hcx HCe
    refine hK.out _ _ hH2 (fun _ => ?_)
    clear hK K hHeld
    have hHeld := hH2
    clear hH2
    try simp only [Act.put, List.setIfInBounds_toArray, List.set_cons_zero, List.set_cons_succ]
    refine tkI 9 (by simp only [List.getElem?_toArray, List.getElem?_cons_zero, List.getElem?_cons_succ]; rfl) (by kernel_rfl) (by exact fun _ _ _ h => h) (by first | (exact Or.inl ⟨by rfl, by intro w hSw; (try dsimp only at hSw); go_simp; with_reducible rfl⟩) | (exact Or.inr ⟨by rfl, by rfl⟩)) (by assumption) ?_
    try simp only [Act.put, List.setIfInBounds_toArray, List.set_cons_zero, List.set_cons_succ]
    refine tkI 10 (by simp only [List.getElem?_toArray, List.getElem?_cons_zero, List.getElem?_cons_succ]; rfl) (by kernel_rfl) (by exact fun _ _ _ h => h) (by first | (exact Or.inl ⟨by rfl, by intro w hSw; (try dsimp only at hSw); go_simp; with_reducible rfl⟩) | (exact Or.inr ⟨by rfl, by rfl⟩)) (by assumption) ?_
    try simp only [Act.put, List.setIfInBounds_toArray, List.set_cons_zero, List.set_cons_succ]
    refine wpAnyH_ready (rs := [11]) (by kernel_rfl) (by simp) (AllReadyH.cons (o := ?oy73111) ?hy73111 (fun K hK => ?sy73111) AllReadyH.nil)
    case hy73111 => simp only [List.getElem?_toArray, List.getElem?_cons_zero, List.getElem?_cons_succ]; rfl
    have s3 := HC4.out.blk.at_ 35 (sw35 _ _ _ _)
    have t3 := HC4.out.blk.free 35
    go_simp
    have HC5 := Lib.hid (show Cx 68 w0 w (w4.setCell ⟨g, 35, none⟩ (.slice B4 m4 k4)) g (swCs fr to (.slice A3 s1.R.length c3) (.slice B4 m4 k4)) vO (.slice B4 m4 k4) (s1.O ++ [(x.n, x.v)]) from by have := HC4.out.set 35 (.slice B4 m4 k4); rwa [sw_set35] at this)
    have HN5 := Lib.hid (HN4.out.far (p := ⟨g, 35, none⟩) hgn (.slice B4 m4 k4))
    have HS5 := Lib.hid (HS4.out.far (p := ⟨g, 35, none⟩) hgs (.slice B4 m4 k4))
    replace HPL9 := Lib.hid (HPL9.out.cx HC4.out (HC4.out.again.set 35 (.slice B4 m4 k4)))
    replace HPH9 := Lib.hid (HPH9.out.cx HC4.out (HC4.out.again.set 35 (.slice B4 m4 k4)))
    have hH2 : Ext w0 (w4.setCell ⟨g, 35, none⟩ (.slice B4 m4 k4)) ∧ Blk (w4.setCell ⟨g, 35, none⟩ (.slice B4 m4 k4)) nb 52 x.enc.toArray ∧ Blk (w4.setCell ⟨g, 35, none⟩ (.slice B4 m4 k4)) (nb + 1) 9 #[.string x.n] := ⟨HC5.out.ext, HN5.out, HS5.out⟩
    clear s3 t3
    refine hK.out _ _ hH2 (fun _ => ?_)
    clear hK K hHeld
    have hHeld := hH2
    clear hH2
    try simp only [Act.put, List.setIfInBounds_toArray, List.set_cons_zero, List.set_cons_succ]
    refine wpAnyH_done (by kernel_rfl) ?_ _
    clear hHeld
    generalize w4.setCell ⟨g, 35, none⟩ (.slice B4 m4 k4) = w5 at HC5 HN5 HS5 HPL9 HPH9 ⊢
    clear HC4 HN4 HS4
    go_wp2_with fail
    refine wp_region_held_drew (S := fun W => Ext w0 W ∧ Blk W nb 52 x.enc.toArray ∧ Blk W (nb + 1) 9 #[.string x.n] ∧ W.cell? ⟨g, 0, none⟩ = some (.string fr) ∧ W.cell? ⟨g, 1, none⟩ = some (.string to)) (by kernel_rfl) ⟨HC5.out.ext.drew, HN5.out, HS5.out, HC5.out.blk.at_ 0 (sw0 _ _ _ _), HC5.out.blk.at_ 1 (sw1 _ _ _ _)⟩ (fun hHeld => ?_)
    have HCd := Lib.hid (HC5.out.go (Ext.refl _).drew)
    have HNd := Lib.hid (HN5.out.ext (Ext.refl w5).drew)
    have HSd := Lib.hid (HS5.out.ext (Ext.refl w5).drew)
    replace HPL9 := Lib.hid (HPL9.out.ext (Ext.refl w5).drew)
    replace HPH9 := Lib.hid (HPH9.out.ext (Ext.refl w5).drew)
    generalize World.drew w5 = wd at hHeld HCd HNd HSd HPL9 HPH9 ⊢
    clear HC5 HN5 HS5
    iterate 9
      refine tkD 0 (by simp only [List.size_toArray, List.length_cons, List.length_nil]; rfl) (by simp only [List.getElem?_toArray, List.getElem?_cons_zero, List.getElem?_cons_succ]; rfl) (by kernel_rfl) (by exact fun _ _ _ h => h) (by exact Or.inl ⟨by rfl, by intro w hSw; have hn0 := hSw.2.2.1.at_ 0 rfl; have hf0 := hSw.2.2.2.1; have ht0 := hSw.2.2.2.2; go_simp; with_reducible rfl⟩) (by assumption) ?_
      try simp only [Act.put, List.setIfInBounds_toArray, List.set_cons_zero, List.set_cons_succ]
    refine tkI 9 (v := (.agg (numsA .u8 x.r))) (by simp only [List.getElem?_toArray, List.getElem?_cons_zero, List.getElem?_cons_succ]; rfl) (by kernel_rfl) (by exact fun _ _ _ h => h) (by refine yields_loadS nb 32 (nums .u8 x.r) (by rw [nums_length, HOKX.out.2.1.1]; exact aggKey) (fun W hW j u hu => hW.2.1.at_ (32 + j) (Nd.right HOKX.out j u (by rw [numsA, List.getElem?_toArray]; exact hu))) ?_ _ rfl rfl; rfl) (by assumption) ?_
    try simp only [Act.put, List.setIfInBounds_toArray, List.set_cons_zero, List.set_cons_succ]
    refine tkI 10 (by simp only [List.getElem?_toArray, List.getElem?_cons_zero, List.getElem?_cons_succ]; rfl) (by kernel_rfl) (by exact fun _ _ _ h => h) (by exact Or.inl ⟨by rfl, by intro w hSw; have hn0 := hSw.2.2.1.at_ 0 rfl; have hf0 := hSw.2.2.2.1; have ht0 := hSw.2.2.2.2; go_simp; with_reducible rfl⟩) (by assumption) ?_
    try simp only [Act.put, List.setIfInBounds_toArray, List.set_cons_zero, List.set_cons_succ]
    refine wpAnyH_ready (rs := [11]) (by kernel_rfl) (by simp) (AllReadyH.cons (o := ?oy74311) ?hy74311 (fun K hK => ?sy74311) AllReadyH.nil)
    case hy74311 => simp only [List.getElem?_toArray, List.getElem?_cons_zero, List.getElem?_cons_succ]; rfl
    go_simp
    refine (ih fr to w0 S0 x.r (some x.n) (some hi) s1.R (s1.O ++ [(x.n, x.v)]) (Nat.le_trans hle.r hlen) (by have := hle.o; have := hle.r; simp only [List.length_append, List.length_singleton] at *; omega) (fun y hy => HOK.out y (hle.m y hy)) HOKX.out.2.1 wd g A3 c3 (.slice B4 m4 k4) _ _ HR3.out HCd.out.again ⟨nb + 1, rfl, HSd.out⟩ HPH9.out).mono ?_
    rintro e w14 ⟨A9, n9, c9, v9, O9, he, hc, ht⟩
    rw [hs9] at he ht
    subst he
    have hH2 : Ext w0 w14 ∧ Blk w14 nb 52 x.enc.toArray ∧ Blk w14 (nb + 1) 9 #[.string x.n] ∧ w14.cell? ⟨g, 0, none⟩ = some (.string fr) ∧ w14.cell? ⟨g, 1, none⟩ = some (.string to) := ⟨hc.ext, HNd.out.cx HCd.out hc hgn (by decide), HSd.out.cx HCd.out hc hgs (by decide), hc.blk.at_ 0 (sw0 _ _ _ _), hc.blk.at_ 1 (sw1 _ _ _ _)⟩
    refine hK.out _ _ hH2 (fun _ => ?_)
    clear hK K hHeld
    have hHeld := hH2
    clear hH2
    try simp only [Act.put, List.setIfInBounds_toArray, List.set_cons_zero, List.set_cons_succ]
    iterate 2
      refine tkD 0 (by simp only [List.size_toArray, List.length_cons, List.length_nil]; rfl) (by simp only [List.getElem?_toArray, List.getElem?_cons_zero, List.getElem?_cons_succ]; rfl) (by kernel_rfl) (by exact fun _ _ _ h => h) (by exact Or.inl ⟨by rfl, by intro w hSw; have hn0 := hSw.2.2.1.at_ 0 rfl; have hf0 := hSw.2.2.2.1; have ht0 := hSw.2.2.2.2; go_simp; with_reducible rfl⟩) (by assumption) ?_
      try simp only [Act.put, List.setIfInBounds_toArray, List.set_cons_zero, List.set_cons_succ]
    refine wpAnyH_done (by kernel_rfl) ?_ _
    have HC14 := Lib.hid (HCd.out.call hc)
    have HT9 := Lib.hid ht
    clear hHeld hc ht
    go_wp2
    go_ret
    exact ⟨A9, n9, c9, v9, O9, rfl, HC14.out, HT9.out⟩
set_option maxHeartbeats 16000000 in
set_option maxRecDepth 100000 in
theorem look_nh_mid_out (fr to : ByteArray) (w0 : World) (S0 : Nat → Prop) (K : List Int) (hK : K32 K) (O : List En) (x : Nd) (R' : List Nd) (hokx : x.ok) (hex : entB x.n x.v = true) (hKe : K ≠ emptyL) (h1 : kN x = K) (n : Nat) (hn : n = R'.length + 1) (f : Nat) (ih : LookC f) (hlen : R'.length ≤ f) (h64 : O.length + (R'.length + 1) ≤ 64) (hok : ∀ y ∈ R', y.ok ∧ entB y.n y.v = true) (lo hi : ByteArray) (h3 : ltB x.n hi = true) (h4 : ltB fr x.n = true) (h6 : ltB x.n to = false) (s1 : Sw) (hs1 : tr fr to f x.l ((none : Option ByteArray).getD ⟨#[]⟩) ((some x.n).getD ⟨#[]⟩) (some x.n).isSome ⟨R', O, false⟩ = s1) (hle : SwLe s1 ⟨R', O, false⟩) (hb1 : s1.bad = false)
    (w : World) (g : Nat) (A : Option Addr) (c : Nat) (vO vl vh : Value) (hr : RdL tNd w0 S0 (.slice A n c) (x :: R')) (hC : Cx 68 w0 w w g (swCs fr to (.slice A n c) vO) vO vO O) (t9 : Sw) (hpl : PtrS w vl (none : Option ByteArray)) (hph : PtrS w vh (some hi)) (HT : (⟨s1.R, s1.O, false⟩ : Sw) = t9)
    :
    Calls Try.prog 35 #[.pointer (some ⟨g, 0, none⟩), .agg (numsA .u8 K), vl, vh] w fun e w' => ∃ A' n' c' vO' O', e = .returned (.bool (!t9.bad)) ∧
      Cx 68 w0 w w' g (swCs fr to (.slice A' n' c') vO') vO vO' O' ∧ (t9.bad = false → n' = t9.R.length ∧ O' = t9.O ∧ RdL tNd w0 S0 (.slice A' n' c') t9.R) := by
  have hq3 : Op.bytesLess x.n.toList hi.toList = true := by rw [ltB_eq]; exact h3
  have hq4 : Op.bytesLess fr.toList x.n.toList = true := by rw [ltB_eq]; exact h4
  have hq5 : Op.bytesLess x.n.toList fr.toList = false := by rw [ltB_eq]; exact ltB_asymm h4
  have hq7 : (x.n.toList == fr.toList) = false := by rw [beq_eq_false_iff_ne]; exact fun e => ltB_ne h4 (toList_inj e).symm
  have hq6 : Op.bytesLess x.n.toList to.toList = false := by rw [ltB_eq]; exact h6
  have HOK := Lib.hid hok
  clear hok
  subst HT
  have hcut := RdL.cutN (k := 1) hr (by simp [hn]) (by omega)
  rw [show n - 1 = R'.length by omega, show (x :: R').drop 1 = R' from rfl, show tNd.sz = 66 from rfl] at hcut
  obtain ⟨A', c', e9, hcap, hlen', hrd, hok9⟩ := id hr
  injection e9 with e91 e92 e93
  subst e91 e93
  obtain ⟨gn, on, rfl, hs0, hcx⟩ := hrd.elem hok9 0 (by simp)
  simp only [Nat.zero_mul, Nat.add_zero, List.getElem_cons_zero] at hcx
  have HD := Lib.hid (show ∀ W, Ext w0 W → ∀ j u, x.enc[j]? = some u → W.cell? ⟨gn, on + j, none⟩ = some u from fun W hW j u hu => hW.cell (hcx j u hu))
  have HOKX := Lib.hid hokx
  have HEX := Lib.hid hex
  have hn0 : ((n : Int) == 0) = false := by rw [beq_eq_false_iff_ne]; omega
  have hn1 : (0 : Int) < (n : Int) := by omega
  have hn2 : 1 ≤ n := by omega
  have hn3 : 0 < n := by omega
  obtain ⟨A2, hA2⟩ : ∃ A2, (if c = 1 then some (⟨gn, on, none⟩ : Addr) else (some (⟨gn, on, none⟩ : Addr)).map (·.add (1 * 66))) = A2 := ⟨_, rfl⟩
  obtain ⟨c2, hc2⟩ : ∃ c2, c - 1 = c2 := ⟨_, rfl⟩
  rw [hA2, hc2] at hcut
  have HSL := Lib.hid (show (Value.slice (if c = 1 then some (⟨gn, on, none⟩ : Addr) else (some (⟨gn, on, none⟩ : Addr)).map (·.add (1 * 66))) (n - 1) (c - 1)) = .slice A2 R'.length c2 by rw [hA2, hc2, show n - 1 = R'.length by omega])
  have HR2 := Lib.hid hcut
  have HST := Lib.hid (Nd.st hokx)
  have hneq : ∀ W, (binOp .neq 28 (.agg (numsA .u8 (kN x))) (.agg (numsA .u8 K))).run Try.prog W = .ok (.bool false) W := fun W => by
    have := run_neqKey (kN x) K (kN_ok x) hK W
    rw [decide_eq_true h1] at this
    exact this
  clear h1 hn hokx hex hcx hrd hok9 hs0 hcap hlen' e92 hcut hA2 hc2
  have hkl := hK.1
  have HC := Lib.hid hC
  have HR := Lib.hid hr
  have HK := Lib.hid hK
  have heql : ∀ W, (binOp .eql 28 (.agg (numsA .u8 K)) (.agg (numsA .u8 emptyL))).run Try.prog W = .ok (.bool false) W := fun W => by
    have := run_eqKey K emptyL HK.out emptyL_ok W
    rw [decide_eq_false hKe] at this
    exact this
  clear hC hr hK hKe
  go_enter Try.func35, Try.ntmps35
  go_wp2_with fail
  have HA := Lib.hid (HC.out.go (ext_alloc w (.cells (numsA .u8 K) 28)))
  have HKB := Lib.hid (Blk.new w 28 (numsA .u8 K))
  generalize w.alloc (.cells (numsA .u8 K) 28) = wa at HA HKB ⊢
  refine wp_region_held_drew (S := fun W => Ext wa W) (by kernel_rfl) (Ext.refl _).drew (fun hHeld => ?_)
  refine tkI 0 (v := (.agg (numsA .u8 K))) (by simp only [List.getElem?_toArray, List.getElem?_cons_zero, List.getElem?_cons_succ]; rfl) (by kernel_rfl) (by exact fun _ _ _ h => h) (by refine yields_loadB HKB.out aggKey (sizeN hkl) ?_ _ rfl rfl; rfl) (by assumption) ?_
  try simp only [Act.put, List.setIfInBounds_toArray, List.set_cons_zero, List.set_cons_succ]
  iterate 3
    refine tkD 0 (by simp only [List.size_toArray, List.length_cons, List.length_nil]; rfl) (by simp only [List.getElem?_toArray, List.getElem?_cons_zero, List.getElem?_cons_succ]; rfl) (by kernel_rfl) (by exact fun _ _ _ h => h) (by first | (exact Or.inl ⟨by rfl, by intro w hSw; (try dsimp only at hSw); go_simp; with_reducible rfl⟩) | (exact Or.inr ⟨by rfl, by rfl⟩)) (by assumption) ?_
    try simp only [Act.put, List.setIfInBounds_toArray, List.set_cons_zero, List.set_cons_succ]
  refine tkI 4 (v := (.agg (numsA .u8 emptyL))) (by simp only [List.getElem?_toArray, List.getElem?_cons_zero, List.getElem?_cons_succ]; rfl) (by kernel_rfl) (by exact fun _ _ _ h => h) (by refine yields_loadP (off := 3) HA.out.blk aggKey (sizeN emptyL_ok.1) (swE fr to _ _) ?_ _ rfl rfl; rfl) (by assumption) ?_
  try simp only [Act.put, List.setIfInBounds_toArray, List.set_cons_zero, List.set_cons_succ]
  refine tkI 5 (by simp only [List.getElem?_toArray, List.getElem?_cons_zero, List.getElem?_cons_succ]; rfl) (by kernel_rfl) (by exact fun _ _ _ h => h) (by first | (exact Or.inl ⟨by rfl, by intro w hSw; (try dsimp only at hSw); go_simp; with_reducible rfl⟩) | (exact Or.inr ⟨by rfl, by rfl⟩)) (by assumption) ?_
  try simp only [Act.put, List.setIfInBounds_toArray, List.set_cons_zero, List.set_cons_succ]
  refine wpAnyH_done (by kernel_rfl) ?_ _
  have HB1 := Lib.hid (HA.out.go hHeld)
  have HK2 := Lib.hid (HKB.out.ext hHeld)
  clear hHeld HA HKB
  generalize World.drew wa = w1 at HB1 HK2 ⊢
  have cd : ∀ W, Ext w1 W → W.cell? ⟨g, 2, none⟩ = some (.slice (some ⟨gn, on, none⟩) n c) := fun W hW => (HB1.out.blk.ext hW).at_ 2 (sw2 _ _ _ _)
  have hND := HD.out
  go_wp2_with fail
  refine wp_region_held_drew (S := fun W => Ext w1 W) (by kernel_rfl) (Ext.refl _).drew (fun hHeld => ?_)
  iterate 12
    refine tkD 0 (by simp only [List.size_toArray, List.length_cons, List.length_nil]; rfl) (by simp only [List.getElem?_toArray, List.getElem?_cons_zero, List.getElem?_cons_succ]; rfl) (by kernel_rfl) (by exact fun _ _ _ h => h) (by first | (exact Or.inl ⟨by rfl, by intro w hSw; (try dsimp only at hSw); go_simp; with_reducible rfl⟩) | (exact Or.inr ⟨by rfl, by rfl⟩)) (by assumption) ?_
    try simp only [Act.put, List.setIfInBounds_toArray, List.set_cons_zero, List.set_cons_succ]
  refine tkI 12 (v := (.agg x.enc.toArray)) (by simp only [List.getElem?_toArray, List.getElem?_cons_zero, List.getElem?_cons_succ]; rfl) (by kernel_rfl) (by exact fun _ _ _ h => h) (by refine yields_loadS gn on x.enc (by rw [Nd.enc_length HOKX.out]; exact aggNodeI) (fun W hW => hND W (HB1.out.ext.trans hW)) ?_ _ rfl rfl; rfl) (by assumption) ?_
  try simp only [Act.put, List.setIfInBounds_toArray, List.set_cons_zero, List.set_cons_succ]
  refine tkI 14 (v := (.agg (numsA .u8 K))) (by simp only [List.getElem?_toArray, List.getElem?_cons_zero, List.getElem?_cons_succ]; rfl) (by kernel_rfl) (by exact fun _ _ _ h => h) (by refine yields_loadB HK2.out aggKey (sizeN hkl) ?_ _ rfl rfl; rfl) (by assumption) ?_
  try simp only [Act.put, List.setIfInBounds_toArray, List.set_cons_zero, List.set_cons_succ]
  refine wpAnyH_ready (rs := [13]) (by kernel_rfl) (by simp) (AllReadyH.cons (o := ?oy76613) ?hy76613 (fun K hK => ?sy76613) AllReadyH.nil)
  case hy76613 => simp only [List.getElem?_toArray, List.getElem?_cons_zero, List.getElem?_cons_succ]; rfl
  go_simp
  refine (nodeKey_any x HOKX.out HEX.out _).mono ?_
  rintro e w3 ⟨rfl, hx⟩
  have hH2 := hHeld.trans hx
  refine hK.out _ _ hH2 (fun _ => ?_)
  clear hHeld hK K
  have hHeld := hH2
  clear hH2
  try simp only [Act.put, List.setIfInBounds_toArray, List.set_cons_zero, List.set_cons_succ]
  try rw [show hashL 5 (nodeL x) = kN x by rw [kN]]
  iterate 2
    refine tkD 0 (by simp only [List.size_toArray, List.length_cons, List.length_nil]; rfl) (by simp only [List.getElem?_toArray, List.getElem?_cons_zero, List.getElem?_cons_succ]; rfl) (by kernel_rfl) (by exact fun _ _ _ h => h) (by first | (exact Or.inl ⟨by rfl, by intro w hSw; (try dsimp only at hSw); go_simp; with_reducible rfl⟩) | (exact Or.inr ⟨by rfl, by rfl⟩)) (by assumption) ?_
    try simp only [Act.put, List.setIfInBounds_toArray, List.set_cons_zero, List.set_cons_succ]
  refine wpAnyH_done (by kernel_rfl) ?_ _
  have HB3 := Lib.hid (HB1.out.go hHeld)
  have HK3 := Lib.hid (HK2.out.ext hHeld)
  clear hHeld cd hND HB1 HK2
  have HBa := Lib.hid (HB3.out.go (ext_alloc w3 (.cells x.enc.toArray 52)))
  have HNa := Lib.hid (Blk.new w3 52 x.enc.toArray)
  have d2 := HB3.out.blk.at_ 2 (sw2 _ _ _ _)
  have a2 := HBa.out.blk.at_ 2 (sw2 _ _ _ _)
  have c64 := HNa.out.at_ 64 (Nd.at64 HOKX.out)
  have HBb := Lib.hid (HBa.out.go (ext_alloc (World.alloc w3 (.cells x.enc.toArray 52)) (.cells #[.string x.n] 9)))
  have b2 := HBb.out.blk.at_ 2 (sw2 _ _ _ _)
  have f2 := HBb.out.blk.free 2
  go_wp2_with (first
    | (refine wpl_load ⟨gn, on, none⟩ x.enc (by rw [Nd.enc_length HOKX.out]; exact aggNodeI) rfl _ rfl rfl (fun j u hu => by rw [Addr.add_lit]; exact HD.out _ HB3.out.ext j u hu) ?_)
    | (refine wpl_storeNewB aggNodeI HST.out rfl rfl _ _ rfl rfl rfl rfl ?_)
    | (refine wpl_cut1 (sz := 66) (A := some ⟨gn, on, none⟩) (n := n) (c := c) (by kernel_rfl) (by kernel_rfl) rfl _ rfl rfl hn2 ?_; rw [HSL.out]))
  have hgn : w3.heap.size ≠ g := by have := HB3.out.blk.lt; omega
  have hgs : w3.heap.size + 1 ≠ g := by have := HB3.out.blk.lt; omega
  have HB8 := Lib.hid (show Cx 68 w0 w (World.setCell (World.alloc (World.alloc w3 (.cells x.enc.toArray 52)) (.cells #[.string x.n] 9)) ⟨g, 2, none⟩ (.slice A2 R'.length c2)) g (swCs fr to (.slice A2 R'.length c2) vO) vO vO O from by have := HBb.out.set 2 (.slice A2 R'.length c2); rwa [sw_set2] at this)
  have HN8 := Lib.hid (show Blk (World.setCell (World.alloc (World.alloc w3 (.cells x.enc.toArray 52)) (.cells #[.string x.n] 9)) ⟨g, 2, none⟩ (.slice A2 R'.length c2)) w3.heap.size 52 x.enc.toArray from (HNa.out.alloc _).far hgn _)
  have HS8 := Lib.hid (show Blk (World.setCell (World.alloc (World.alloc w3 (.cells x.enc.toArray 52)) (.cells #[.string x.n] 9)) ⟨g, 2, none⟩ (.slice A2 R'.length c2)) (w3.heap.size + 1) 9 #[.string x.n] from (Blk.new' (g := w3.heap.size + 1) (w := World.alloc w3 (.cells x.enc.toArray 52)) (by simp) 9 #[.string x.n]).far hgs _)
  have HPL := Lib.hid (hpl.cx HC.out HB8.out)
  have HPH := Lib.hid (hph.cx HC.out HB8.out)
  clear d2 a2 c64 b2 f2 HBa HBb HNa HK3
  obtain ⟨nb, hnb⟩ : ∃ nb, w3.heap.size = nb := ⟨_, rfl⟩
  rw [hnb] at HN8 HS8 hgn hgs ⊢
  generalize (World.setCell (World.alloc (World.alloc w3 (.cells x.enc.toArray 52)) (.cells #[.string x.n] 9)) ⟨g, 2, none⟩ (.slice A2 R'.length c2)) = wb at HB8 HN8 HS8 HPL HPH ⊢
  clear HB3 hnb hpl hph
  have cs8 : ∀ W, Ext wb W → W.cell? ⟨nb + 1, 0, none⟩ = some (.string x.n) := fun W hW => (HS8.out.ext hW).at_ 0 rfl
  obtain rfl : vl = .pointer none := HPL.out
  obtain ⟨hb, rfl, hhb⟩ := HPH.out
  have ch8 : ∀ W, Ext wb W → W.cell? ⟨hb, 0, none⟩ = some (.string hi) := fun W hW => (hhb.ext hW).at_ 0 rfl
  clear hhb
  refine wp_region_held_drew (S := fun W => Ext wb W) (by kernel_rfl) (Ext.refl _).drew (fun hHeld => ?_)
  iterate 20
    refine tkD 0 (by simp only [List.size_toArray, List.length_cons, List.length_nil]; rfl) (by simp only [List.getElem?_toArray, List.getElem?_cons_zero, List.getElem?_cons_succ]; rfl) (by kernel_rfl) (by exact fun _ _ _ h => h) (by first | (exact Or.inl ⟨by rfl, by intro w hSw; (try dsimp only at hSw); go_simp; with_reducible rfl⟩) | (exact Or.inr ⟨by rfl, by rfl⟩)) (by assumption) ?_
    try simp only [Act.put, List.setIfInBounds_toArray, List.set_cons_zero, List.set_cons_succ]
  refine wpAnyH_done (by kernel_rfl) ?_ _
  have HC9 := Lib.hid (HB8.out.go hHeld)
  have HN9 := Lib.hid (HN8.out.ext hHeld)
  have HS9 := Lib.hid (HS8.out.ext hHeld)
  have HPL9 := Lib.hid (HPL.out.ext hHeld)
  have HPH9 := Lib.hid (HPH.out.ext hHeld)
  clear hHeld HB8 HN8 HS8 HPL HPH cs8
  clear ch8
  generalize World.drew wb = w9 at HC9 HN9 HS9 HPL9 HPH9 ⊢
  go_wp2_with fail
  refine wp_region_held_drew (S := fun W => Ext w0 W ∧ Blk W nb 52 x.enc.toArray ∧ Blk W (nb + 1) 9 #[.string x.n] ∧ W.cell? ⟨g, 0, none⟩ = some (.string fr) ∧ W.cell? ⟨g, 1, none⟩ = some (.string to)) (by kernel_rfl) ⟨HC9.out.ext.drew, HN9.out, HS9.out, HC9.out.blk.at_ 0 (sw0 _ _ _ _), HC9.out.blk.at_ 1 (sw1 _ _ _ _)⟩ (fun hHeld => ?_)
  have HCd := Lib.hid (HC9.out.go (Ext.refl _).drew)
  have HNd := Lib.hid (HN9.out.ext (Ext.refl w9).drew)
  have HSd := Lib.hid (HS9.out.ext (Ext.refl w9).drew)
  replace HPL9 := Lib.hid (HPL9.out.ext (Ext.refl w9).drew)
  replace HPH9 := Lib.hid (HPH9.out.ext (Ext.refl w9).drew)
  generalize World.drew w9 = wd at hHeld HCd HNd HSd HPL9 HPH9 ⊢
  clear HC9 HN9 HS9
  iterate 9
    refine tkD 0 (by simp only [List.size_toArray, List.length_cons, List.length_nil]; rfl) (by simp only [List.getElem?_toArray, List.getElem?_cons_zero, List.getElem?_cons_succ]; rfl) (by kernel_rfl) (by exact fun _ _ _ h => h) (by exact Or.inl ⟨by rfl, by intro w hSw; have hn0 := hSw.2.2.1.at_ 0 rfl; have hf0 := hSw.2.2.2.1; have ht0 := hSw.2.2.2.2; go_simp; with_reducible rfl⟩) (by assumption) ?_
    try simp only [Act.put, List.setIfInBounds_toArray, List.set_cons_zero, List.set_cons_succ]
  refine tkI 9 (v := (.agg (numsA .u8 x.l))) (by simp only [List.getElem?_toArray, List.getElem?_cons_zero, List.getElem?_cons_succ]; rfl) (by kernel_rfl) (by exact fun _ _ _ h => h) (by refine yields_loadS nb 0 (nums .u8 x.l) (by rw [nums_length, HOKX.out.1.1]; exact aggKey) (fun W hW j u hu => hW.2.1.at_ (0 + j) (Nd.left HOKX.out j u (by rw [numsA, List.getElem?_toArray]; exact hu))) ?_ _ rfl rfl; rfl) (by assumption) ?_
  try simp only [Act.put, List.setIfInBounds_toArray, List.set_cons_zero, List.set_cons_succ]
  refine tkI 10 (by simp only [List.getElem?_toArray, List.getElem?_cons_zero, List.getElem?_cons_succ]; rfl) (by kernel_rfl) (by exact fun _ _ _ h => h) (by exact Or.inl ⟨by rfl, by intro w hSw; have hn0 := hSw.2.2.1.at_ 0 rfl; have hf0 := hSw.2.2.2.1; have ht0 := hSw.2.2.2.2; go_simp; with_reducible rfl⟩) (by assumption) ?_
  try simp only [Act.put, List.setIfInBounds_toArray, List.set_cons_zero, List.set_cons_succ]
  refine wpAnyH_ready (rs := [11]) (by kernel_rfl) (by simp) (AllReadyH.cons (o := ?oy80011) ?hy80011 (fun K hK => ?sy80011) AllReadyH.nil)
  case hy80011 => simp only [List.getElem?_toArray, List.getElem?_cons_zero, List.getElem?_cons_succ]; rfl
  go_simp
  refine (ih fr to w0 S0 x.l none (some x.n) R' O hlen (by omega) HOK.out HOKX.out.1 wd g A2 c2 vO _ _ HR2.out HCd.out.again HPL9.out ⟨nb + 1, rfl, HSd.out⟩).mono ?_
  rintro e w10 ⟨A3, n3, c3, v3, O3, he, hc, ht⟩
  rw [hs1] at he ht
  rw [hb1] at he
  subst he
  have hH2 : Ext w0 w10 ∧ Blk w10 nb 52 x.enc.toArray ∧ Blk w10 (nb + 1) 9 #[.string x.n] ∧ w10.cell? ⟨g, 0, none⟩ = some (.string fr) ∧ w10.cell? ⟨g, 1, none⟩ = some (.string to) := ⟨hc.ext, HNd.out.cx HCd.out hc hgn (by decide), HSd.out.cx HCd.out hc hgs (by decide), hc.blk.at_ 0 (sw0 _ _ _ _), hc.blk.at_ 1 (sw1 _ _ _ _)⟩
  refine hK.out _ _ hH2 (fun _ => ?_)
  clear hK K hHeld
  have hHeld := hH2
  clear hH2
  try simp only [Act.put, List.setIfInBounds_toArray, List.set_cons_zero, List.set_cons_succ]
  iterate 2
    refine tkD 0 (by simp only [List.size_toArray, List.length_cons, List.length_nil]; rfl) (by simp only [List.getElem?_toArray, List.getElem?_cons_zero, List.getElem?_cons_succ]; rfl) (by kernel_rfl) (by exact fun _ _ _ h => h) (by exact Or.inl ⟨by rfl, by intro w hSw; have hn0 := hSw.2.2.1.at_ 0 rfl; have hf0 := hSw.2.2.2.1; have ht0 := hSw.2.2.2.2; go_simp; with_reducible rfl⟩) (by assumption) ?_
    try simp only [Act.put, List.setIfInBounds_toArray, List.set_cons_zero, List.set_cons_succ]
  refine wpAnyH_done (by kernel_rfl) ?_ _
  have HC11 := Lib.hid (HCd.out.call hc)
  have HN11 := Lib.hid hHeld.2.1
  have HS11 := Lib.hid hHeld.2.2.1
  replace HPL9 := Lib.hid (HPL9.out.cx HCd.out hc)
  replace HPH9 := Lib.hid (HPH9.out.cx HCd.out hc)
  obtain ⟨rfl, rfl, hr3⟩ := ht hb1
  have HR3 := Lib.hid hr3
  clear hHeld hc ht hr3 HCd HNd HSd
  go_wp2_with fail
  have cn : ∀ X, Ext w10 X → X.cell? ⟨nb + 1, 0, none⟩ = some (.string x.n) := fun X hX => (HS11.out.ext hX).at_ 0 rfl
  have cf : ∀ X, Ext w10 X → X.cell? ⟨g, 0, none⟩ = some (.string fr) := fun X hX => (HC11.out.blk.ext hX).at_ 0 (sw0 _ _ _ _)
  have ct : ∀ X, Ext w10 X → X.cell? ⟨g, 1, none⟩ = some (.string to) := fun X hX => (HC11.out.blk.ext hX).at_ 1 (sw1 _ _ _ _)
  refine wp_region_held_drew (S := fun W => Ext w10 W) (by kernel_rfl) (Ext.refl _).drew (fun hHeld => ?_)
  iterate 14
    refine tkD 0 (by simp only [List.size_toArray, List.length_cons, List.length_nil]; rfl) (by simp only [List.getElem?_toArray, List.getElem?_cons_zero, List.getElem?_cons_succ]; rfl) (by kernel_rfl) (by exact fun _ _ _ h => h) (by first | (exact Or.inl ⟨by rfl, by intro w hSw; (try dsimp only at hSw); go_simp; with_reducible rfl⟩) | (exact Or.inr ⟨by rfl, by rfl⟩)) (by assumption) ?_
    try simp only [Act.put, List.setIfInBounds_toArray, List.set_cons_zero, List.set_cons_succ]
  refine wpAnyH_done (by kernel_rfl) ?_ _
  have HC12 := Lib.hid (HC11.out.go hHeld)
  have HN12 := Lib.hid (HN11.out.ext hHeld)
  have HS12 := Lib.hid (HS11.out.ext hHeld)
  replace HPL9 := Lib.hid (HPL9.out.ext hHeld)
  replace HPH9 := Lib.hid (HPH9.out.ext hHeld)
  clear hHeld HC11 HN11 HS11 cn cf ct
  generalize World.drew w10 = w12 at HC12 HN12 HS12 HPL9 HPH9 ⊢
  go_wp2_with fail
  refine wp_region_held_drew (S := fun W => Ext w0 W ∧ Blk W nb 52 x.enc.toArray ∧ Blk W (nb + 1) 9 #[.string x.n] ∧ W.cell? ⟨g, 0, none⟩ = some (.string fr) ∧ W.cell? ⟨g, 1, none⟩ = some (.string to)) (by kernel_rfl) ⟨HC12.out.ext.drew, HN12.out, HS12.out, HC12.out.blk.at_ 0 (sw0 _ _ _ _), HC12.out.blk.at_ 1 (sw1 _ _ _ _)⟩ (fun hHeld => ?_)
  have HCd := Lib.hid (HC12.out.go (Ext.refl _).drew)
  have HNd := Lib.hid (HN12.out.ext (Ext.refl w12).drew)
  have HSd := Lib.hid (HS12.out.ext (Ext.refl w12).drew)
  replace HPL9 := Lib.hid (HPL9.out.ext (Ext.refl w12).drew)
  replace HPH9 := Lib.hid (HPH9.out.ext (Ext.refl w12).drew)
  generalize World.drew w12 = wd at hHeld HCd HNd HSd HPL9 HPH9 ⊢
  clear HC12 HN12 HS12
  iterate 7
    refine tkD 0 (by simp only [List.size_toArray, List.length_cons, List.length_nil]; rfl) (by simp only [List.getElem?_toArray, List.getElem?_cons_zero, List.getElem?_cons_succ]; rfl) (by kernel_rfl) (by exact fun _ _ _ h => h) (by exact Or.inl ⟨by rfl, by intro w hSw; have hn0 := hSw.2.2.1.at_ 0 rfl; have hf0 := hSw.2.2.2.1; have ht0 := hSw.2.2.2.2; go_simp; with_reducible rfl⟩) (by assumption) ?_
    try simp only [Act.put, List.setIfInBounds_toArray, List.set_cons_zero, List.set_cons_succ]
  iterate 5
    refine tkD 0 (by simp only [List.size_toArray, List.length_cons, List.length_nil]; rfl) (by simp only [List.getElem?_toArray, List.getElem?_cons_zero, List.getElem?_cons_succ]; rfl) (by kernel_rfl) (by exact fun _ _ _ h => h) (by first | (exact Or.inl ⟨by rfl, by intro w hSw; (try dsimp only at hSw); go_simp; with_reducible rfl⟩) | (exact Or.inr ⟨by rfl, by rfl⟩)) (by assumption) ?_
    try simp only [Act.put, List.setIfInBounds_toArray, List.set_cons_zero, List.set_cons_succ]
  iterate 2
    refine tkD 0 (by simp only [List.size_toArray, List.length_cons, List.length_nil]; rfl) (by simp only [List.getElem?_toArray, List.getElem?_cons_zero, List.getElem?_cons_succ]; rfl) (by kernel_rfl) (by exact fun _ _ _ h => h) (by exact Or.inl ⟨by rfl, by intro w hSw; have hn0 := hSw.2.2.1.at_ 0 rfl; have hf0 := hSw.2.2.2.1; have ht0 := hSw.2.2.2.2; go_simp; with_reducible rfl⟩) (by assumption) ?_
    try simp only [Act.put, List.setIfInBounds_toArray, List.set_cons_zero, List.set_cons_succ]
  refine wpAnyH_done (by kernel_rfl) ?_ _
  clear hHeld
  go_wp2
  go_ret
  exact ⟨A3, _, c3, v3, _, rfl, HCd.out, fun _ => ⟨rfl, rfl, HR3.out⟩⟩
set_option maxHeartbeats 16000000 in
set_option maxRecDepth 100000 in
theorem look_nh_mid_amiss (fr to : ByteArray) (w0 : World) (S0 : Nat → Prop) (K : List Int) (hK : K32 K) (O : List En) (x : Nd) (R' : List Nd) (hokx : x.ok) (hex : entB x.n x.v = true) (hKe : K ≠ emptyL) (h1 : kN x = K) (n : Nat) (hn : n = R'.length + 1) (f : Nat) (ih : LookC f) (hlen : R'.length ≤ f) (h64 : O.length + (R'.length + 1) ≤ 64) (hok : ∀ y ∈ R', y.ok ∧ entB y.n y.v = true) (lo hi : ByteArray) (h3 : ltB x.n hi = true) (h4 : ltB fr x.n = true) (s1 : Sw) (hs1 : tr fr to f x.l ((none : Option ByteArray).getD ⟨#[]⟩) ((some x.n).getD ⟨#[]⟩) (some x.n).isSome ⟨R', O, false⟩ = s1) (hle : SwLe s1 ⟨R', O, false⟩) (hb1 : s1.bad = true)
    (w : World) (g : Nat) (A : Option Addr) (c : Nat) (vO vl vh : Value) (hr : RdL tNd w0 S0 (.slice A n c) (x :: R')) (hC : Cx 68 w0 w w g (swCs fr to (.slice A n c) vO) vO vO O) (t9 : Sw) (hpl : PtrS w vl (none : Option ByteArray)) (hph : PtrS w vh (some hi)) (HT : t9.bad = true)
    :
    Calls Try.prog 35 #[.pointer (some ⟨g, 0, none⟩), .agg (numsA .u8 K), vl, vh] w fun e w' => ∃ A' n' c' vO' O', e = .returned (.bool (!t9.bad)) ∧
      Cx 68 w0 w w' g (swCs fr to (.slice A' n' c') vO') vO vO' O' ∧ (t9.bad = false → n' = t9.R.length ∧ O' = t9.O ∧ RdL tNd w0 S0 (.slice A' n' c') t9.R) := by
  have hq3 : Op.bytesLess x.n.toList hi.toList = true := by rw [ltB_eq]; exact h3
  have hq4 : Op.bytesLess fr.toList x.n.toList = true := by rw [ltB_eq]; exact h4
  have hq5 : Op.bytesLess x.n.toList fr.toList = false := by rw [ltB_eq]; exact ltB_asymm h4
  have hq7 : (x.n.toList == fr.toList) = false := by rw [beq_eq_false_iff_ne]; exact fun e => ltB_ne h4 (toList_inj e).symm
  have HOK := Lib.hid hok
  clear hok
  have hcut := RdL.cutN (k := 1) hr (by simp [hn]) (by omega)
  rw [show n - 1 = R'.length by omega, show (x :: R').drop 1 = R' from rfl, show tNd.sz = 66 from rfl] at hcut
  obtain ⟨A', c', e9, hcap, hlen', hrd, hok9⟩ := id hr
  injection e9 with e91 e92 e93
  subst e91 e93
  obtain ⟨gn, on, rfl, hs0, hcx⟩ := hrd.elem hok9 0 (by simp)
  simp only [Nat.zero_mul, Nat.add_zero, List.getElem_cons_zero] at hcx
  have HD := Lib.hid (show ∀ W, Ext w0 W → ∀ j u, x.enc[j]? = some u → W.cell? ⟨gn, on + j, none⟩ = some u from fun W hW j u hu => hW.cell (hcx j u hu))
  have HOKX := Lib.hid hokx
  have HEX := Lib.hid hex
  have hn0 : ((n : Int) == 0) = false := by rw [beq_eq_false_iff_ne]; omega
  have hn1 : (0 : Int) < (n : Int) := by omega
  have hn2 : 1 ≤ n := by omega
  have hn3 : 0 < n := by omega
  obtain ⟨A2, hA2⟩ : ∃ A2, (if c = 1 then some (⟨gn, on, none⟩ : Addr) else (some (⟨gn, on, none⟩ : Addr)).map (·.add (1 * 66))) = A2 := ⟨_, rfl⟩
  obtain ⟨c2, hc2⟩ : ∃ c2, c - 1 = c2 := ⟨_, rfl⟩
  rw [hA2, hc2] at hcut
  have HSL := Lib.hid (show (Value.slice (if c = 1 then some (⟨gn, on, none⟩ : Addr) else (some (⟨gn, on, none⟩ : Addr)).map (·.add (1 * 66))) (n - 1) (c - 1)) = .slice A2 R'.length c2 by rw [hA2, hc2, show n - 1 = R'.length by omega])
  have HR2 := Lib.hid hcut
  have HST := Lib.hid (Nd.st hokx)
  have hneq : ∀ W, (binOp .neq 28 (.agg (numsA .u8 (kN x))) (.agg (numsA .u8 K))).run Try.prog W = .ok (.bool false) W := fun W => by
    have := run_neqKey (kN x) K (kN_ok x) hK W
    rw [decide_eq_true h1] at this
    exact this
  clear h1 hn hokx hex hcx hrd hok9 hs0 hcap hlen' e92 hcut hA2 hc2
  have hkl := hK.1
  have HC := Lib.hid hC
  have HR := Lib.hid hr
  have HK := Lib.hid hK
  have heql : ∀ W, (binOp .eql 28 (.agg (numsA .u8 K)) (.agg (numsA .u8 emptyL))).run Try.prog W = .ok (.bool false) W := fun W => by
    have := run_eqKey K emptyL HK.out emptyL_ok W
    rw [decide_eq_false hKe] at this
    exact this
  clear hC hr hK hKe
  go_enter Try.func35, Try.ntmps35
  go_wp2_with fail
  have HA := Lib.hid (HC.out.go (ext_alloc w (.cells (numsA .u8 K) 28)))
  have HKB := Lib.hid (Blk.new w 28 (numsA .u8 K))
  generalize w.alloc (.cells (numsA .u8 K) 28) = wa at HA HKB ⊢
  refine wp_region_held_drew (S := fun W => Ext wa W) (by kernel_rfl) (Ext.refl _).drew (fun hHeld => ?_)
  refine tkI 0 (v := (.agg (numsA .u8 K))) (by simp only [List.getElem?_toArray, List.getElem?_cons_zero, List.getElem?_cons_succ]; rfl) (by kernel_rfl) (by exact fun _ _ _ h => h) (by refine yields_loadB HKB.out aggKey (sizeN hkl) ?_ _ rfl rfl; rfl) (by assumption) ?_
  try simp only [Act.put, List.setIfInBounds_toArray, List.set_cons_zero, List.set_cons_succ]
  iterate 3
    refine tkD 0 (by simp only [List.size_toArray, List.length_cons, List.length_nil]; rfl) (by simp only [List.getElem?_toArray, List.getElem?_cons_zero, List.getElem?_cons_succ]; rfl) (by kernel_rfl) (by exact fun _ _ _ h => h) (by first | (exact Or.inl ⟨by rfl, by intro w hSw; (try dsimp only at hSw); go_simp; with_reducible rfl⟩) | (exact Or.inr ⟨by rfl, by rfl⟩)) (by assumption) ?_
    try simp only [Act.put, List.setIfInBounds_toArray, List.set_cons_zero, List.set_cons_succ]
  refine tkI 4 (v := (.agg (numsA .u8 emptyL))) (by simp only [List.getElem?_toArray, List.getElem?_cons_zero, List.getElem?_cons_succ]; rfl) (by kernel_rfl) (by exact fun _ _ _ h => h) (by refine yields_loadP (off := 3) HA.out.blk aggKey (sizeN emptyL_ok.1) (swE fr to _ _) ?_ _ rfl rfl; rfl) (by assumption) ?_
  try simp only [Act.put, List.setIfInBounds_toArray, List.set_cons_zero, List.set_cons_succ]
  refine tkI 5 (by simp only [List.getElem?_toArray, List.getElem?_cons_zero, List.getElem?_cons_succ]; rfl) (by kernel_rfl) (by exact fun _ _ _ h => h) (by first | (exact Or.inl ⟨by rfl, by intro w hSw; (try dsimp only at hSw); go_simp; with_reducible rfl⟩) | (exact Or.inr ⟨by rfl, by rfl⟩)) (by assumption) ?_
  try simp only [Act.put, List.setIfInBounds_toArray, List.set_cons_zero, List.set_cons_succ]
  refine wpAnyH_done (by kernel_rfl) ?_ _
  have HB1 := Lib.hid (HA.out.go hHeld)
  have HK2 := Lib.hid (HKB.out.ext hHeld)
  clear hHeld HA HKB
  generalize World.drew wa = w1 at HB1 HK2 ⊢
  have cd : ∀ W, Ext w1 W → W.cell? ⟨g, 2, none⟩ = some (.slice (some ⟨gn, on, none⟩) n c) := fun W hW => (HB1.out.blk.ext hW).at_ 2 (sw2 _ _ _ _)
  have hND := HD.out
  go_wp2_with fail
  refine wp_region_held_drew (S := fun W => Ext w1 W) (by kernel_rfl) (Ext.refl _).drew (fun hHeld => ?_)
  iterate 12
    refine tkD 0 (by simp only [List.size_toArray, List.length_cons, List.length_nil]; rfl) (by simp only [List.getElem?_toArray, List.getElem?_cons_zero, List.getElem?_cons_succ]; rfl) (by kernel_rfl) (by exact fun _ _ _ h => h) (by first | (exact Or.inl ⟨by rfl, by intro w hSw; (try dsimp only at hSw); go_simp; with_reducible rfl⟩) | (exact Or.inr ⟨by rfl, by rfl⟩)) (by assumption) ?_
    try simp only [Act.put, List.setIfInBounds_toArray, List.set_cons_zero, List.set_cons_succ]
  refine tkI 12 (v := (.agg x.enc.toArray)) (by simp only [List.getElem?_toArray, List.getElem?_cons_zero, List.getElem?_cons_succ]; rfl) (by kernel_rfl) (by exact fun _ _ _ h => h) (by refine yields_loadS gn on x.enc (by rw [Nd.enc_length HOKX.out]; exact aggNodeI) (fun W hW => hND W (HB1.out.ext.trans hW)) ?_ _ rfl rfl; rfl) (by assumption) ?_
  try simp only [Act.put, List.setIfInBounds_toArray, List.set_cons_zero, List.set_cons_succ]
  refine tkI 14 (v := (.agg (numsA .u8 K))) (by simp only [List.getElem?_toArray, List.getElem?_cons_zero, List.getElem?_cons_succ]; rfl) (by kernel_rfl) (by exact fun _ _ _ h => h) (by refine yields_loadB HK2.out aggKey (sizeN hkl) ?_ _ rfl rfl; rfl) (by assumption) ?_
  try simp only [Act.put, List.setIfInBounds_toArray, List.set_cons_zero, List.set_cons_succ]
  refine wpAnyH_ready (rs := [13]) (by kernel_rfl) (by simp) (AllReadyH.cons (o := ?oy85113) ?hy85113 (fun K hK => ?sy85113) AllReadyH.nil)
  case hy85113 => simp only [List.getElem?_toArray, List.getElem?_cons_zero, List.getElem?_cons_succ]; rfl
  go_simp
  refine (nodeKey_any x HOKX.out HEX.out _).mono ?_
  rintro e w3 ⟨rfl, hx⟩
  have hH2 := hHeld.trans hx
  refine hK.out _ _ hH2 (fun _ => ?_)
  clear hHeld hK K
  have hHeld := hH2
  clear hH2
  try simp only [Act.put, List.setIfInBounds_toArray, List.set_cons_zero, List.set_cons_succ]
  try rw [show hashL 5 (nodeL x) = kN x by rw [kN]]
  iterate 2
    refine tkD 0 (by simp only [List.size_toArray, List.length_cons, List.length_nil]; rfl) (by simp only [List.getElem?_toArray, List.getElem?_cons_zero, List.getElem?_cons_succ]; rfl) (by kernel_rfl) (by exact fun _ _ _ h => h) (by first | (exact Or.inl ⟨by rfl, by intro w hSw; (try dsimp only at hSw); go_simp; with_reducible rfl⟩) | (exact Or.inr ⟨by rfl, by rfl⟩)) (by assumption) ?_
    try simp only [Act.put, List.setIfInBounds_toArray, List.set_cons_zero, List.set_cons_succ]
  refine wpAnyH_done (by kernel_rfl) ?_ _
  have HB3 := Lib.hid (HB1.out.go hHeld)
  have HK3 := Lib.hid (HK2.out.ext hHeld)
  clear hHeld cd hND HB1 HK2
  have HBa := Lib.hid (HB3.out.go (ext_alloc w3 (.cells x.enc.toArray 52)))
  have HNa := Lib.hid (Blk.new w3 52 x.enc.toArray)
  have d2 := HB3.out.blk.at_ 2 (sw2 _ _ _ _)
  have a2 := HBa.out.blk.at_ 2 (sw2 _ _ _ _)
  have c64 := HNa.out.at_ 64 (Nd.at64 HOKX.out)
  have HBb := Lib.hid (HBa.out.go (ext_alloc (World.alloc w3 (.cells x.enc.toArray 52)) (.cells #[.string x.n] 9)))
  have b2 := HBb.out.blk.at_ 2 (sw2 _ _ _ _)
  have f2 := HBb.out.blk.free 2
  go_wp2_with (first
    | (refine wpl_load ⟨gn, on, none⟩ x.enc (by rw [Nd.enc_length HOKX.out]; exact aggNodeI) rfl _ rfl rfl (fun j u hu => by rw [Addr.add_lit]; exact HD.out _ HB3.out.ext j u hu) ?_)
    | (refine wpl_storeNewB aggNodeI HST.out rfl rfl _ _ rfl rfl rfl rfl ?_)
    | (refine wpl_cut1 (sz := 66) (A := some ⟨gn, on, none⟩) (n := n) (c := c) (by kernel_rfl) (by kernel_rfl) rfl _ rfl rfl hn2 ?_; rw [HSL.out]))
  have hgn : w3.heap.size ≠ g := by have := HB3.out.blk.lt; omega
  have hgs : w3.heap.size + 1 ≠ g := by have := HB3.out.blk.lt; omega
  have HB8 := Lib.hid (show Cx 68 w0 w (World.setCell (World.alloc (World.alloc w3 (.cells x.enc.toArray 52)) (.cells #[.string x.n] 9)) ⟨g, 2, none⟩ (.slice A2 R'.length c2)) g (swCs fr to (.slice A2 R'.length c2) vO) vO vO O from by have := HBb.out.set 2 (.slice A2 R'.length c2); rwa [sw_set2] at this)
  have HN8 := Lib.hid (show Blk (World.setCell (World.alloc (World.alloc w3 (.cells x.enc.toArray 52)) (.cells #[.string x.n] 9)) ⟨g, 2, none⟩ (.slice A2 R'.length c2)) w3.heap.size 52 x.enc.toArray from (HNa.out.alloc _).far hgn _)
  have HS8 := Lib.hid (show Blk (World.setCell (World.alloc (World.alloc w3 (.cells x.enc.toArray 52)) (.cells #[.string x.n] 9)) ⟨g, 2, none⟩ (.slice A2 R'.length c2)) (w3.heap.size + 1) 9 #[.string x.n] from (Blk.new' (g := w3.heap.size + 1) (w := World.alloc w3 (.cells x.enc.toArray 52)) (by simp) 9 #[.string x.n]).far hgs _)
  have HPL := Lib.hid (hpl.cx HC.out HB8.out)
  have HPH := Lib.hid (hph.cx HC.out HB8.out)
  clear d2 a2 c64 b2 f2 HBa HBb HNa HK3
  obtain ⟨nb, hnb⟩ : ∃ nb, w3.heap.size = nb := ⟨_, rfl⟩
  rw [hnb] at HN8 HS8 hgn hgs ⊢
  generalize (World.setCell (World.alloc (World.alloc w3 (.cells x.enc.toArray 52)) (.cells #[.string x.n] 9)) ⟨g, 2, none⟩ (.slice A2 R'.length c2)) = wb at HB8 HN8 HS8 HPL HPH ⊢
  clear HB3 hnb hpl hph
  have cs8 : ∀ W, Ext wb W → W.cell? ⟨nb + 1, 0, none⟩ = some (.string x.n) := fun W hW => (HS8.out.ext hW).at_ 0 rfl
  obtain rfl : vl = .pointer none := HPL.out
  obtain ⟨hb, rfl, hhb⟩ := HPH.out
  have ch8 : ∀ W, Ext wb W → W.cell? ⟨hb, 0, none⟩ = some (.string hi) := fun W hW => (hhb.ext hW).at_ 0 rfl
  clear hhb
  refine wp_region_held_drew (S := fun W => Ext wb W) (by kernel_rfl) (Ext.refl _).drew (fun hHeld => ?_)
  iterate 20
    refine tkD 0 (by simp only [List.size_toArray, List.length_cons, List.length_nil]; rfl) (by simp only [List.getElem?_toArray, List.getElem?_cons_zero, List.getElem?_cons_succ]; rfl) (by kernel_rfl) (by exact fun _ _ _ h => h) (by first | (exact Or.inl ⟨by rfl, by intro w hSw; (try dsimp only at hSw); go_simp; with_reducible rfl⟩) | (exact Or.inr ⟨by rfl, by rfl⟩)) (by assumption) ?_
    try simp only [Act.put, List.setIfInBounds_toArray, List.set_cons_zero, List.set_cons_succ]
  refine wpAnyH_done (by kernel_rfl) ?_ _
  have HC9 := Lib.hid (HB8.out.go hHeld)
  have HN9 := Lib.hid (HN8.out.ext hHeld)
  have HS9 := Lib.hid (HS8.out.ext hHeld)
  have HPL9 := Lib.hid (HPL.out.ext hHeld)
  have HPH9 := Lib.hid (HPH.out.ext hHeld)
  clear hHeld HB8 HN8 HS8 HPL HPH cs8
  clear ch8
  generalize World.drew wb = w9 at HC9 HN9 HS9 HPL9 HPH9 ⊢
  go_wp2_with fail
  refine wp_region_held_drew (S := fun W => Ext w0 W ∧ Blk W nb 52 x.enc.toArray ∧ Blk W (nb + 1) 9 #[.string x.n] ∧ W.cell? ⟨g, 0, none⟩ = some (.string fr) ∧ W.cell? ⟨g, 1, none⟩ = some (.string to)) (by kernel_rfl) ⟨HC9.out.ext.drew, HN9.out, HS9.out, HC9.out.blk.at_ 0 (sw0 _ _ _ _), HC9.out.blk.at_ 1 (sw1 _ _ _ _)⟩ (fun hHeld => ?_)
  have HCd := Lib.hid (HC9.out.go (Ext.refl _).drew)
  have HNd := Lib.hid (HN9.out.ext (Ext.refl w9).drew)
  have HSd := Lib.hid (HS9.out.ext (Ext.refl w9).drew)
  replace HPL9 := Lib.hid (HPL9.out.ext (Ext.refl w9).drew)
  replace HPH9 := Lib.hid (HPH9.out.ext (Ext.refl w9).drew)
  generalize World.drew w9 = wd at hHeld HCd HNd HSd HPL9 HPH9 ⊢
  clear HC9 HN9 HS9
  iterate 9
    refine tkD 0 (by simp only [List.size_toArray, List.length_cons, List.length_nil]; rfl) (by simp only [List.getElem?_toArray, List.getElem?_cons_zero, List.getElem?_cons_succ]; rfl) (by kernel_rfl) (by exact fun _ _ _ h => h) (by exact Or.inl ⟨by rfl, by intro w hSw; have hn0 := hSw.2.2.1.at_ 0 rfl; have hf0 := hSw.2.2.2.1; have ht0 := hSw.2.2.2.2; go_simp; with_reducible rfl⟩) (by assumption) ?_
    try simp only [Act.put, List.setIfInBounds_toArray, List.set_cons_zero, List.set_cons_succ]
  refine tkI 9 (v := (.agg (numsA .u8 x.l))) (by simp only [List.getElem?_toArray, List.getElem?_cons_zero, List.getElem?_cons_succ]; rfl) (by kernel_rfl) (by exact fun _ _ _ h => h) (by refine yields_loadS nb 0 (nums .u8 x.l) (by rw [nums_length, HOKX.out.1.1]; exact aggKey) (fun W hW j u hu => hW.2.1.at_ (0 + j) (Nd.left HOKX.out j u (by rw [numsA, List.getElem?_toArray]; exact hu))) ?_ _ rfl rfl; rfl) (by assumption) ?_
  try simp only [Act.put, List.setIfInBounds_toArray, List.set_cons_zero, List.set_cons_succ]
  refine tkI 10 (by simp only [List.getElem?_toArray, List.getElem?_cons_zero, List.getElem?_cons_succ]; rfl) (by kernel_rfl) (by exact fun _ _ _ h => h) (by exact Or.inl ⟨by rfl, by intro w hSw; have hn0 := hSw.2.2.1.at_ 0 rfl; have hf0 := hSw.2.2.2.1; have ht0 := hSw.2.2.2.2; go_simp; with_reducible rfl⟩) (by assumption) ?_
  try simp only [Act.put, List.setIfInBounds_toArray, List.set_cons_zero, List.set_cons_succ]
  refine wpAnyH_ready (rs := [11]) (by kernel_rfl) (by simp) (AllReadyH.cons (o := ?oy88511) ?hy88511 (fun K hK => ?sy88511) AllReadyH.nil)
  case hy88511 => simp only [List.getElem?_toArray, List.getElem?_cons_zero, List.getElem?_cons_succ]; rfl
  go_simp
  refine (ih fr to w0 S0 x.l none (some x.n) R' O hlen (by omega) HOK.out HOKX.out.1 wd g A2 c2 vO _ _ HR2.out HCd.out.again HPL9.out ⟨nb + 1, rfl, HSd.out⟩).mono ?_
  rintro e w10 ⟨A3, n3, c3, v3, O3, he, hc, ht⟩
  rw [hs1] at he ht
  rw [hb1] at he
  subst he
  have hH2 : Ext w0 w10 ∧ Blk w10 nb 52 x.enc.toArray ∧ Blk w10 (nb + 1) 9 #[.string x.n] ∧ w10.cell? ⟨g, 0, none⟩ = some (.string fr) ∧ w10.cell? ⟨g, 1, none⟩ = some (.string to) := ⟨hc.ext, HNd.out.cx HCd.out hc hgn (by decide), HSd.out.cx HCd.out hc hgs (by decide), hc.blk.at_ 0 (sw0 _ _ _ _), hc.blk.at_ 1 (sw1 _ _ _ _)⟩
  refine hK.out _ _ hH2 (fun _ => ?_)
  clear hK K hHeld
  have hHeld := hH2
  clear hH2
  try simp only [Act.put, List.setIfInBounds_toArray, List.set_cons_zero, List.set_cons_succ]
  iterate 2
    refine tkD 0 (by simp only [List.size_toArray, List.length_cons, List.length_nil]; rfl) (by simp only [List.getElem?_toArray, List.getElem?_cons_zero, List.getElem?_cons_succ]; rfl) (by kernel_rfl) (by exact fun _ _ _ h => h) (by exact Or.inl ⟨by rfl, by intro w hSw; have hn0 := hSw.2.2.1.at_ 0 rfl; have hf0 := hSw.2.2.2.1; have ht0 := hSw.2.2.2.2; go_simp; with_reducible rfl⟩) (by assumption) ?_
    try simp only [Act.put, List.setIfInBounds_toArray, List.set_cons_zero, List.set_cons_succ]
  refine wpAnyH_done (by kernel_rfl) ?_ _
  have HC11 := Lib.hid (HCd.out.call hc)
  have HN11 := Lib.hid hHeld.2.1
  have HS11 := Lib.hid hHeld.2.2.1
  replace HPL9 := Lib.hid (HPL9.out.cx HCd.out hc)
  replace HPH9 := Lib.hid (HPH9.out.cx HCd.out hc)
  clear hHeld hc ht HCd HNd HSd
  go_wp2
  go_ret
  exact ⟨A3, n3, c3, v3, _, by rw [HT]; rfl, HC11.out, fun h => by rw [HT] at h; cases h⟩
set_option maxHeartbeats 16000000 in
set_option maxRecDepth 100000 in
theorem look_nh_eq_in (fr to : ByteArray) (w0 : World) (S0 : Nat → Prop) (K : List Int) (hK : K32 K) (O : List En) (x : Nd) (R' : List Nd) (hokx : x.ok) (hex : entB x.n x.v = true) (hKe : K ≠ emptyL) (h1 : kN x = K) (n : Nat) (hn : n = R'.length + 1) (f : Nat) (ih : LookC f) (hlen : R'.length ≤ f) (h64 : O.length + (R'.length + 1) ≤ 64) (hok : ∀ y ∈ R', y.ok ∧ entB y.n y.v = true) (lo hi : ByteArray) (h3 : ltB x.n hi = true) (h4 : ltB fr x.n = false) (h5 : ltB x.n fr = false) (h6 : ltB x.n to = true) (s1 : Sw) (hs1 : (⟨R', O, false⟩ : Sw) = s1) (hle : SwLe s1 ⟨R', O, false⟩)
    (w : World) (g : Nat) (A : Option Addr) (c : Nat) (vO vl vh : Value) (hr : RdL tNd w0 S0 (.slice A n c) (x :: R')) (hC : Cx 68 w0 w w g (swCs fr to (.slice A n c) vO) vO vO O) (t9 : Sw) (hpl : PtrS w vl (none : Option ByteArray)) (hph : PtrS w vh (some hi)) (HT : tr fr to f x.r ((some x.n).getD ⟨#[]⟩) ((some hi).getD ⟨#[]⟩) (some hi).isSome (⟨R', O ++ [(x.n, x.v)], false⟩ : Sw) = t9)
    :
    Calls Try.prog 35 #[.pointer (some ⟨g, 0, none⟩), .agg (numsA .u8 K), vl, vh] w fun e w' => ∃ A' n' c' vO' O', e = .returned (.bool (!t9.bad)) ∧
      Cx 68 w0 w w' g (swCs fr to (.slice A' n' c') vO') vO vO' O' ∧ (t9.bad = false → n' = t9.R.length ∧ O' = t9.O ∧ RdL tNd w0 S0 (.slice A' n' c') t9.R) := by
  have hq3 : Op.bytesLess x.n.toList hi.toList = true := by rw [ltB_eq]; exact h3
  have hq4 : Op.bytesLess fr.toList x.n.toList = false := by rw [ltB_eq]; exact h4
  have hq5 : Op.bytesLess x.n.toList fr.toList = false := by rw [ltB_eq]; exact h5
  have hq7 : (x.n.toList == fr.toList) = true := by rw [ltB_total h5 h4]; simp
  have hq6 : Op.bytesLess x.n.toList to.toList = true := by rw [ltB_eq]; exact h6
  subst hs1
  have HOK := Lib.hid hok
  clear hok
  have hs9 := HT
  clear HT
  have hcut := RdL.cutN (k := 1) hr (by simp [hn]) (by omega)
  rw [show n - 1 = R'.length by omega, show (x :: R').drop 1 = R' from rfl, show tNd.sz = 66 from rfl] at hcut
  obtain ⟨A', c', e9, hcap, hlen', hrd, hok9⟩ := id hr
  injection e9 with e91 e92 e93
  subst e91 e93
  obtain ⟨gn, on, rfl, hs0, hcx⟩ := hrd.elem hok9 0 (by simp)
  simp only [Nat.zero_mul, Nat.add_zero, List.getElem_cons_zero] at hcx
  have HD := Lib.hid (show ∀ W, Ext w0 W → ∀ j u, x.enc[j]? = some u → W.cell? ⟨gn, on + j, none⟩ = some u from fun W hW j u hu => hW.cell (hcx j u hu))
  have HOKX := Lib.hid hokx
  have HEX := Lib.hid hex
  have hn0 : ((n : Int) == 0) = false := by rw [beq_eq_false_iff_ne]; omega
  have hn1 : (0 : Int) < (n : Int) := by omega
  have hn2 : 1 ≤ n := by omega
  have hn3 : 0 < n := by omega
  obtain ⟨A2, hA2⟩ : ∃ A2, (if c = 1 then some (⟨gn, on, none⟩ : Addr) else (some (⟨gn, on, none⟩ : Addr)).map (·.add (1 * 66))) = A2 := ⟨_, rfl⟩
  obtain ⟨c2, hc2⟩ : ∃ c2, c - 1 = c2 := ⟨_, rfl⟩
  rw [hA2, hc2] at hcut
  have HSL := Lib.hid (show (Value.slice (if c = 1 then some (⟨gn, on, none⟩ : Addr) else (some (⟨gn, on, none⟩ : Addr)).map (·.add (1 * 66))) (n - 1) (c - 1)) = .slice A2 R'.length c2 by rw [hA2, hc2, show n - 1 = R'.length by omega])
  have HR2 := Lib.hid hcut
  have HST := Lib.hid (Nd.st hokx)
  have hneq : ∀ W, (binOp .neq 28 (.agg (numsA .u8 (kN x))) (.agg (numsA .u8 K))).run Try.prog W = .ok (.bool false) W := fun W => by
    have := run_neqKey (kN x) K (kN_ok x) hK W
    rw [decide_eq_true h1] at this
    exact this
  clear h1 hn hokx hex hcx hrd hok9 hs0 hcap hlen' e92 hcut hA2 hc2
  have hkl := hK.1
  have HC := Lib.hid hC
  have HR := Lib.hid hr
  have HK := Lib.hid hK
  have heql : ∀ W, (binOp .eql 28 (.agg (numsA .u8 K)) (.agg (numsA .u8 emptyL))).run Try.prog W = .ok (.bool false) W := fun W => by
    have := run_eqKey K emptyL HK.out emptyL_ok W
    rw [decide_eq_false hKe] at this
    exact this
  clear hC hr hK hKe
  go_enter Try.func35, Try.ntmps35
  go_wp2_with fail
  have HA := Lib.hid (HC.out.go (ext_alloc w (.cells (numsA .u8 K) 28)))
  have HKB := Lib.hid (Blk.new w 28 (numsA .u8 K))
  generalize w.alloc (.cells (numsA .u8 K) 28) = wa at HA HKB ⊢
  refine wp_region_held_drew (S := fun W => Ext wa W) (by kernel_rfl) (Ext.refl _).drew (fun hHeld => ?_)
  refine tkI 0 (v := (.agg (numsA .u8 K))) (by simp only [List.getElem?_toArray, List.getElem?_cons_zero, List.getElem?_cons_succ]; rfl) (by kernel_rfl) (by exact fun _ _ _ h => h) (by refine yields_loadB HKB.out aggKey (sizeN hkl) ?_ _ rfl rfl; rfl) (by assumption) ?_
  try simp only [Act.put, List.setIfInBounds_toArray, List.set_cons_zero, List.set_cons_succ]
  iterate 3
    refine tkD 0 (by simp only [List.size_toArray, List.length_cons, List.length_nil]; rfl) (by simp only [List.getElem?_toArray, List.getElem?_cons_zero, List.getElem?_cons_succ]; rfl) (by kernel_rfl) (by exact fun _ _ _ h => h) (by first | (exact Or.inl ⟨by rfl, by intro w hSw; (try dsimp only at hSw); go_simp; with_reducible rfl⟩) | (exact Or.inr ⟨by rfl, by rfl⟩)) (by assumption) ?_
    try simp only [Act.put, List.setIfInBounds_toArray, List.set_cons_zero, List.set_cons_succ]
  refine tkI 4 (v := (.agg (numsA .u8 emptyL))) (by simp only [List.getElem?_toArray, List.getElem?_cons_zero, List.getElem?_cons_succ]; rfl) (by kernel_rfl) (by exact fun _ _ _ h => h) (by refine yields_loadP (off := 3) HA.out.blk aggKey (sizeN emptyL_ok.1) (swE fr to _ _) ?_ _ rfl rfl; rfl) (by assumption) ?_
  try simp only [Act.put, List.setIfInBounds_toArray, List.set_cons_zero, List.set_cons_succ]
  refine tkI 5 (by simp only [List.getElem?_toArray, List.getElem?_cons_zero, List.getElem?_cons_succ]; rfl) (by kernel_rfl) (by exact fun _ _ _ h => h) (by first | (exact Or.inl ⟨by rfl, by intro w hSw; (try dsimp only at hSw); go_simp; with_reducible rfl⟩) | (exact Or.inr ⟨by rfl, by rfl⟩)) (by assumption) ?_
  try simp only [Act.put, List.setIfInBounds_toArray, List.set_cons_zero, List.set_cons_succ]
  refine wpAnyH_done (by kernel_rfl) ?_ _
  have HB1 := Lib.hid (HA.out.go hHeld)
  have HK2 := Lib.hid (HKB.out.ext hHeld)
  clear hHeld HA HKB
  generalize World.drew wa = w1 at HB1 HK2 ⊢
  have cd : ∀ W, Ext w1 W → W.cell? ⟨g, 2, none⟩ = some (.slice (some ⟨gn, on, none⟩) n c) := fun W hW => (HB1.out.blk.ext hW).at_ 2 (sw2 _ _ _ _)
  have hND := HD.out
  go_wp2_with fail
  refine wp_region_held_drew (S := fun W => Ext w1 W) (by kernel_rfl) (Ext.refl _).drew (fun hHeld => ?_)
  iterate 12
    refine tkD 0 (by simp only [List.size_toArray, List.length_cons, List.length_nil]; rfl) (by simp only [List.getElem?_toArray, List.getElem?_cons_zero, List.getElem?_cons_succ]; rfl) (by kernel_rfl) (by exact fun _ _ _ h => h) (by first | (exact Or.inl ⟨by rfl, by intro w hSw; (try dsimp only at hSw); go_simp; with_reducible rfl⟩) | (exact Or.inr ⟨by rfl, by rfl⟩)) (by assumption) ?_
    try simp only [Act.put, List.setIfInBounds_toArray, List.set_cons_zero, List.set_cons_succ]
  refine tkI 12 (v := (.agg x.enc.toArray)) (by simp only [List.getElem?_toArray, List.getElem?_cons_zero, List.getElem?_cons_succ]; rfl) (by kernel_rfl) (by exact fun _ _ _ h => h) (by refine yields_loadS gn on x.enc (by rw [Nd.enc_length HOKX.out]; exact aggNodeI) (fun W hW => hND W (HB1.out.ext.trans hW)) ?_ _ rfl rfl; rfl) (by assumption) ?_
  try simp only [Act.put, List.setIfInBounds_toArray, List.set_cons_zero, List.set_cons_succ]
  refine tkI 14 (v := (.agg (numsA .u8 K))) (by simp only [List.getElem?_toArray, List.getElem?_cons_zero, List.getElem?_cons_succ]; rfl) (by kernel_rfl) (by exact fun _ _ _ h => h) (by refine yields_loadB HK2.out aggKey (sizeN hkl) ?_ _ rfl rfl; rfl) (by assumption) ?_
  try simp only [Act.put, List.setIfInBounds_toArray, List.set_cons_zero, List.set_cons_succ]
  refine wpAnyH_ready (rs := [13]) (by kernel_rfl) (by simp) (AllReadyH.cons (o := ?oy90813) ?hy90813 (fun K hK => ?sy90813) AllReadyH.nil)
  case hy90813 => simp only [List.getElem?_toArray, List.getElem?_cons_zero, List.getElem?_cons_succ]; rfl
  go_simp
  refine (nodeKey_any x HOKX.out HEX.out _).mono ?_
  rintro e w3 ⟨rfl, hx⟩
  have hH2 := hHeld.trans hx
  refine hK.out _ _ hH2 (fun _ => ?_)
  clear hHeld hK K
  have hHeld := hH2
  clear hH2
  try simp only [Act.put, List.setIfInBounds_toArray, List.set_cons_zero, List.set_cons_succ]
  try rw [show hashL 5 (nodeL x) = kN x by rw [kN]]
  iterate 2
    refine tkD 0 (by simp only [List.size_toArray, List.length_cons, List.length_nil]; rfl) (by simp only [List.getElem?_toArray, List.getElem?_cons_zero, List.getElem?_cons_succ]; rfl) (by kernel_rfl) (by exact fun _ _ _ h => h) (by first | (exact Or.inl ⟨by rfl, by intro w hSw; (try dsimp only at hSw); go_simp; with_reducible rfl⟩) | (exact Or.inr ⟨by rfl, by rfl⟩)) (by assumption) ?_
    try simp only [Act.put, List.setIfInBounds_toArray, List.set_cons_zero, List.set_cons_succ]
  refine wpAnyH_done (by kernel_rfl) ?_ _
  have HB3 := Lib.hid (HB1.out.go hHeld)
  have HK3 := Lib.hid (HK2.out.ext hHeld)
  clear hHeld cd hND HB1 HK2
  have HBa := Lib.hid (HB3.out.go (ext_alloc w3 (.cells x.enc.toArray 52)))
  have HNa := Lib.hid (Blk.new w3 52 x.enc.toArray)
  have d2 := HB3.out.blk.at_ 2 (sw2 _ _ _ _)
  have a2 := HBa.out.blk.at_ 2 (sw2 _ _ _ _)
  have c64 := HNa.out.at_ 64 (Nd.at64 HOKX.out)
  have HBb := Lib.hid (HBa.out.go (ext_alloc (World.alloc w3 (.cells x.enc.toArray 52)) (.cells #[.string x.n] 9)))
  have b2 := HBb.out.blk.at_ 2 (sw2 _ _ _ _)
  have f2 := HBb.out.blk.free 2
  go_wp2_with (first
    | (refine wpl_load ⟨gn, on, none⟩ x.enc (by rw [Nd.enc_length HOKX.out]; exact aggNodeI) rfl _ rfl rfl (fun j u hu => by rw [Addr.add_lit]; exact HD.out _ HB3.out.ext j u hu) ?_)
    | (refine wpl_storeNewB aggNodeI HST.out rfl rfl _ _ rfl rfl rfl rfl ?_)
    | (refine wpl_cut1 (sz := 66) (A := some ⟨gn, on, none⟩) (n := n) (c := c) (by kernel_rfl) (by kernel_rfl) rfl _ rfl rfl hn2 ?_; rw [HSL.out]))
  have hgn : w3.heap.size ≠ g := by have := HB3.out.blk.lt; omega
  have hgs : w3.heap.size + 1 ≠ g := by have := HB3.out.blk.lt; omega
  have HB8 := Lib.hid (show Cx 68 w0 w (World.setCell (World.alloc (World.alloc w3 (.cells x.enc.toArray 52)) (.cells #[.string x.n] 9)) ⟨g, 2, none⟩ (.slice A2 R'.length c2)) g (swCs fr to (.slice A2 R'.length c2) vO) vO vO O from by have := HBb.out.set 2 (.slice A2 R'.length c2); rwa [sw_set2] at this)
  have HN8 := Lib.hid (show Blk (World.setCell (World.alloc (World.alloc w3 (.cells x.enc.toArray 52)) (.cells #[.string x.n] 9)) ⟨g, 2, none⟩ (.slice A2 R'.length c2)) w3.heap.size 52 x.enc.toArray from (HNa.out.alloc _).far hgn _)
  have HS8 := Lib.hid (show Blk (World.setCell (World.alloc (World.alloc w3 (.cells x.enc.toArray 52)) (.cells #[.string x.n] 9)) ⟨g, 2, none⟩ (.slice A2 R'.length c2)) (w3.heap.size + 1) 9 #[.string x.n] from (Blk.new' (g := w3.heap.size + 1) (w := World.alloc w3 (.cells x.enc.toArray 52)) (by simp) 9 #[.string x.n]).far hgs _)
  have HPL := Lib.hid (hpl.cx HC.out HB8.out)
  have HPH := Lib.hid (hph.cx HC.out HB8.out)
  clear d2 a2 c64 b2 f2 HBa HBb HNa HK3
  obtain ⟨nb, hnb⟩ : ∃ nb, w3.heap.size = nb := ⟨_, rfl⟩
  rw [hnb] at HN8 HS8 hgn hgs ⊢
  generalize (World.setCell (World.alloc (World.alloc w3 (.cells x.enc.toArray 52)) (.cells #[.string x.n] 9)) ⟨g, 2, none⟩ (.slice A2 R'.length c2)) = wb at HB8 HN8 HS8 HPL HPH ⊢
  clear HB3 hnb hpl hph
  have cs8 : ∀ W, Ext wb W → W.cell? ⟨nb + 1, 0, none⟩ = some (.string x.n) := fun W hW => (HS8.out.ext hW).at_ 0 rfl
  obtain rfl : vl = .pointer none := HPL.out
  obtain ⟨hb, rfl, hhb⟩ := HPH.out
  have ch8 : ∀ W, Ext wb W → W.cell? ⟨hb, 0, none⟩ = some (.string hi) := fun W hW => (hhb.ext hW).at_ 0 rfl
  clear hhb
  refine wp_region_held_drew (S := fun W => Ext wb W) (by kernel_rfl) (Ext.refl _).drew (fun hHeld => ?_)
  iterate 20
    refine tkD 0 (by simp only [List.size_toArray, List.length_cons, List.length_nil]; rfl) (by simp only [List.getElem?_toArray, List.getElem?_cons_zero, List.getElem?_cons_succ]; rfl) (by kernel_rfl) (by exact fun _ _ _ h => h) (by first | (exact Or.inl ⟨by rfl, by intro w hSw; (try dsimp only at hSw); go_simp; with_reducible rfl⟩) | (exact Or.inr ⟨by rfl, by rfl⟩)) (by assumption) ?_
    try simp only [Act.put, List.setIfInBounds_toArray, List.set_cons_zero, List.set_cons_succ]
  refine wpAnyH_done (by kernel_rfl) ?_ _
  have HC9 := Lib.hid (HB8.out.go hHeld)
  have HN9 := Lib.hid (HN8.out.ext hHeld)
  have HS9 := Lib.hid (HS8.out.ext hHeld)
  have HPL9 := Lib.hid (HPL.out.ext hHeld)
  have HPH9 := Lib.hid (HPH.out.ext hHeld)
  clear hHeld HB8 HN8 HS8 HPL HPH cs8
  clear ch8
  generalize World.drew wb = w9 at HC9 HN9 HS9 HPL9 HPH9 ⊢
  go_wp2_with fail
  refine wp_region_held_drew (S := fun W => Ext w0 W ∧ Blk W nb 52 x.enc.toArray ∧ Blk W (nb + 1) 9 #[.string x.n] ∧ W.cell? ⟨g, 0, none⟩ = some (.string fr) ∧ W.cell? ⟨g, 1, none⟩ = some (.string to)) (by kernel_rfl) ⟨HC9.out.ext.drew, HN9.out, HS9.out, HC9.out.blk.at_ 0 (sw0 _ _ _ _), HC9.out.blk.at_ 1 (sw1 _ _ _ _)⟩ (fun hHeld => ?_)
  have HCd := Lib.hid (HC9.out.go (Ext.refl _).drew)
  have HNd := Lib.hid (HN9.out.ext (Ext.refl w9).drew)
  have HSd := Lib.hid (HS9.out.ext (Ext.refl w9).drew)
  replace HPL9 := Lib.hid (HPL9.out.ext (Ext.refl w9).drew)
  replace HPH9 := Lib.hid (HPH9.out.ext (Ext.refl w9).drew)
  generalize World.drew w9 = wd at hHeld HCd HNd HSd HPL9 HPH9 ⊢
  clear HC9 HN9 HS9
  iterate 7
    refine tkD 0 (by simp only [List.size_toArray, List.length_cons, List.length_nil]; rfl) (by simp only [List.getElem?_toArray, List.getElem?_cons_zero, List.getElem?_cons_succ]; rfl) (by kernel_rfl) (by exact fun _ _ _ h => h) (by exact Or.inl ⟨by rfl, by intro w hSw; have hn0 := hSw.2.2.1.at_ 0 rfl; have hf0 := hSw.2.2.2.1; have ht0 := hSw.2.2.2.2; go_simp; with_reducible rfl⟩) (by assumption) ?_
    try simp only [Act.put, List.setIfInBounds_toArray, List.set_cons_zero, List.set_cons_succ]
  iterate 6
    refine tkD 0 (by simp only [List.size_toArray, List.length_cons, List.length_nil]; rfl) (by simp only [List.getElem?_toArray, List.getElem?_cons_zero, List.getElem?_cons_succ]; rfl) (by kernel_rfl) (by exact fun _ _ _ h => h) (by first | (exact Or.inl ⟨by rfl, by intro w hSw; (try dsimp only at hSw); go_simp; with_reducible rfl⟩) | (exact Or.inr ⟨by rfl, by rfl⟩)) (by assumption) ?_
    try simp only [Act.put, List.setIfInBounds_toArray, List.set_cons_zero, List.set_cons_succ]
  refine tkI 13 (by simp only [List.getElem?_toArray, List.getElem?_cons_zero, List.getElem?_cons_succ]; rfl) (by kernel_rfl) (by exact fun _ _ _ h => h) (by exact Or.inl ⟨by rfl, by intro w hSw; have hn0 := hSw.2.2.1.at_ 0 rfl; have hf0 := hSw.2.2.2.1; have ht0 := hSw.2.2.2.2; go_simp; with_reducible rfl⟩) (by assumption) ?_
  try simp only [Act.put, List.setIfInBounds_toArray, List.set_cons_zero, List.set_cons_succ]
  refine wpAnyH_done (by kernel_rfl) ?_ _
  have HC11 := HCd
  have HN11 := HNd
  have HS11 := HSd
  clear hHeld HCd HNd HSd
  go_wp2_with fail
  have cn : ∀ X, Ext wd X → X.cell? ⟨nb + 1, 0, none⟩ = some (.string x.n) := fun X hX => (HS11.out.ext hX).at_ 0 rfl
  have cf : ∀ X, Ext wd X → X.cell? ⟨g, 0, none⟩ = some (.string fr) := fun X hX => (HC11.out.blk.ext hX).at_ 0 (sw0 _ _ _ _)
  have ct : ∀ X, Ext wd X → X.cell? ⟨g, 1, none⟩ = some (.string to) := fun X hX => (HC11.out.blk.ext hX).at_ 1 (sw1 _ _ _ _)
  refine wp_region_held_drew (S := fun W => Ext wd W) (by kernel_rfl) (Ext.refl _).drew (fun hHeld => ?_)
  iterate 14
    refine tkD 0 (by simp only [List.size_toArray, List.length_cons, List.length_nil]; rfl) (by simp only [List.getElem?_toArray, List.getElem?_cons_zero, List.getElem?_cons_succ]; rfl) (by kernel_rfl) (by exact fun _ _ _ h => h) (by first | (exact Or.inl ⟨by rfl, by intro w hSw; (try dsimp only at hSw); go_simp; with_reducible rfl⟩) | (exact Or.inr ⟨by rfl, by rfl⟩)) (by assumption) ?_
    try simp only [Act.put, List.setIfInBounds_toArray, List.set_cons_zero, List.set_cons_succ]
  refine wpAnyH_done (by kernel_rfl) ?_ _
  have HC12 := Lib.hid (HC11.out.go hHeld)
  have HN12 := Lib.hid (HN11.out.ext hHeld)
  have HS12 := Lib.hid (HS11.out.ext hHeld)
  replace HPL9 := Lib.hid (HPL9.out.ext hHeld)
  replace HPH9 := Lib.hid (HPH9.out.ext hHeld)
  clear hHeld HC11 HN11 HS11 cn cf ct
  generalize World.drew wd = w12 at HC12 HN12 HS12 HPL9 HPH9 ⊢
  go_wp2_with fail
  refine wp_region_held_drew (S := fun W => Ext w0 W ∧ Blk W nb 52 x.enc.toArray ∧ Blk W (nb + 1) 9 #[.string x.n]) (by kernel_rfl) ⟨HC12.out.ext.drew, HN12.out, HS12.out⟩ (fun hHeld => ?_)
  have HCd := Lib.hid (HC12.out.go (Ext.refl _).drew)
  replace HPL9 := Lib.hid (HPL9.out.ext (Ext.refl w12).drew)
  replace HPH9 := Lib.hid (HPH9.out.ext (Ext.refl w12).drew)
  generalize World.drew w12 = wd at hHeld HCd HPL9 HPH9 ⊢
  clear HC12 HN12 HS12
  iterate 4
    refine tkD 0 (by simp only [List.size_toArray, List.length_cons, List.length_nil]; rfl) (by simp only [List.getElem?_toArray, List.getElem?_cons_zero, List.getElem?_cons_succ]; rfl) (by kernel_rfl) (by exact fun _ _ _ h => h) (by first | (exact Or.inl ⟨by rfl, by intro w hSw; (try dsimp only at hSw); go_simp; with_reducible rfl⟩) | (exact Or.inr ⟨by rfl, by rfl⟩)) (by assumption) ?_
    try simp only [Act.put, List.setIfInBounds_toArray, List.set_cons_zero, List.set_cons_succ]
  refine tkI 5 (by simp only [List.getElem?_toArray, List.getElem?_cons_zero, List.getElem?_cons_succ]; rfl) (by kernel_rfl) (by exact fun _ _ _ h => h) (by first | (exact Or.inl ⟨by rfl, by intro w hSw; (try dsimp only at hSw); go_simp; with_reducible rfl⟩) | (exact Or.inr ⟨by rfl, by rfl⟩)) (by assumption) ?_
  try simp only [Act.put, List.setIfInBounds_toArray, List.set_cons_zero, List.set_cons_succ]
  refine tkI 6 (v := (.agg #[.string x.n, .string x.v])) (by simp only [List.getElem?_toArray, List.getElem?_cons_zero, List.getElem?_cons_succ]; rfl) (by kernel_rfl) (by exact fun _ _ _ h => h) (by refine yields_loadS nb 64 [.string x.n, .string x.v] aggEntryI (fun W hW j u hu => hW.2.1.at_ (64 + j) (Nd.ent HOKX.out j u (by simpa using hu))) ?_ _ rfl rfl; rfl) (by assumption) ?_
  try simp only [Act.put, List.setIfInBounds_toArray, List.set_cons_zero, List.set_cons_succ]
  refine wpAnyH_ready (rs := [4, 7]) (by kernel_rfl) (by simp) (AllReadyH.cons (o := ?oy9654) ?hy9654 (fun K hK => ?sy9654) (AllReadyH.cons (o := ?oy9657) ?hy9657 (fun K hK => ?sy9657) AllReadyH.nil))
  case hy9654 => simp only [List.getElem?_toArray, List.getElem?_cons_zero, List.getElem?_cons_succ]; rfl
  case hy9657 => simp only [List.getElem?_toArray, List.getElem?_cons_zero, List.getElem?_cons_succ]; rfl
  case sy9654 =>
    have s3 := HCd.out.blk.at_ 35 (sw35 _ _ _ _)
    go_simp
    refine hK.out _ _ hHeld (fun _ => ?_)
    clear hK K s3
    try simp only [Act.put, List.setIfInBounds_toArray, List.set_cons_zero, List.set_cons_succ]
    refine wpAnyH_ready (rs := [7]) (by kernel_rfl) (by simp) (AllReadyH.cons (o := ?oy9667) ?hy9667 (fun K hK => ?sy9667) AllReadyH.nil)
    case hy9667 => simp only [List.getElem?_toArray, List.getElem?_cons_zero, List.getElem?_cons_succ]; rfl
    go_simp
    have hH2 : Ext w0 (wd.alloc (.cells #[.string x.n, .string x.v] 50)) ∧ Blk (wd.alloc (.cells #[.string x.n, .string x.v] 50)) nb 52 x.enc.toArray ∧ Blk (wd.alloc (.cells #[.string x.n, .string x.v] 50)) (nb + 1) 9 #[.string x.n] := ⟨hHeld.1.alloc _, hHeld.2.1.alloc _, hHeld.2.2.alloc _⟩
    refine hK.out _ _ hH2 (fun _ => ?_)
    clear hK K hHeld
    have hHeld := hH2
    clear hH2
    try simp only [Act.put, List.setIfInBounds_toArray, List.set_cons_zero, List.set_cons_succ]
    have HCe := Lib.hid (HCd.out.go (ext_alloc wd (.cells #[.string x.n, .string x.v] 50)))
    replace HPL9 := Lib.hid (HPL9.out.ext (ext_alloc wd (.cells #[.string x.n, .string x.v] 50)))
    replace HPH9 := Lib.hid (HPH9.out.ext (ext_alloc wd (.cells #[.string x.n, .string x.v] 50)))
    refine wpAnyH_ready (rs := [8]) (by kernel_rfl) (by simp) (AllReadyH.cons (o := ?oy9678) ?hy9678 (fun K hK => ?sy9678) AllReadyH.nil)
    case hy9678 => simp only [List.getElem?_toArray, List.getElem?_cons_zero, List.getElem?_cons_succ]; rfl
    refine stp_append rowEnt rfl _ _ rfl (v := vO) rfl HCe.out.own _ _ rfl (A := some ⟨wd.heap.size, 0, none⟩) (ys := [(x.n, x.v)]) rfl (rd_ent wd (x.n, x.v) _) (by intro y hy; obtain rfl := List.mem_singleton.1 hy; exact HOKX.out.2.2) (by have := hle.o; simp only [List.length_singleton] at *; omega) HCe.out.ext.size ?_
    intro v4 w4 ho1 hg1 hat1
    obtain ⟨B4, m4, k4, rfl⟩ := ho1.shape3
    have hcx := HCe.out.again.app ho1 hg1 hat1
    have HN4 := Lib.hid (hHeld.2.1.cx HCe.out hcx hgn (by decide))
    have HS4 := Lib.hid (hHeld.2.2.cx HCe.out hcx hgs (by decide))
    replace HPL9 := Lib.hid (HPL9.out.cx HCe.out hcx)
    replace HPH9 := Lib.hid (HPH9.out.cx HCe.out hcx)
    have HC4 := Lib.hid (HCe.out.call hcx)
    have hH2 : Ext w0 w4 ∧ Blk w4 nb 52 x.enc.toArray ∧ Blk w4 (nb + 1) 9 #[.string x.n] := ⟨HC4.out.ext, HN4.out, HS4.out⟩
    clear ho1 hg1 hat1 hcx HCe
    refine hK.out _ _ hH2 (fun _ => ?_)
    clear hK K hHeld
    have hHeld := hH2
    clear hH2
    try simp only [Act.put, List.setIfInBounds_toArray, List.set_cons_zero, List.set_cons_succ]
    refine tkI 9 (by simp only [List.getElem?_toArray, List.getElem?_cons_zero, List.getElem?_cons_succ]; rfl) (by kernel_rfl) (by exact fun _ _ _ h => h) (by first | (exact Or.inl ⟨by rfl, by intro w hSw; (try dsimp only at hSw); go_simp; with_reducible rfl⟩) | (exact Or.inr ⟨by rfl, by rfl⟩)) (by assumption) ?_
    try simp only [Act.put, List.setIfInBounds_toArray, List.set_cons_zero, List.set_cons_succ]
    refine tkI 10 (by simp only [List.getElem?_toArray, List.getElem?_cons_zero, List.getElem?_cons_succ]; rfl) (by kernel_rfl) (by exact fun _ _ _ h => h) (by first | (exact Or.inl ⟨by rfl, by intro w hSw; (try dsimp only at hSw); go_simp; with_reducible rfl⟩) | (exact Or.inr ⟨by rfl, by rfl⟩)) (by assumption) ?_
    try simp only [Act.put, List.setIfInBounds_toArray, List.set_cons_zero, List.set_cons_succ]
    refine wpAnyH_ready (rs := [11]) (by kernel_rfl) (by simp) (AllReadyH.cons (o := ?oy97011) ?hy97011 (fun K hK => ?sy97011) AllReadyH.nil)
    case hy97011 => simp only [List.getElem?_toArray, List.getElem?_cons_zero, List.getElem?_cons_succ]; rfl
    have s3 := HC4.out.blk.at_ 35 (sw35 _ _ _ _)
    have t3 := HC4.out.blk.free 35
    go_simp
    have HC5 := Lib.hid (show Cx 68 w0 w (w4.setCell ⟨g, 35, none⟩ (.slice B4 m4 k4)) g (swCs fr to (.slice A2 R'.length c2) (.slice B4 m4 k4)) vO (.slice B4 m4 k4) (O ++ [(x.n, x.v)]) from by have := HC4.out.set 35 (.slice B4 m4 k4); rwa [sw_set35] at this)
    have HN5 := Lib.hid (HN4.out.far (p := ⟨g, 35, none⟩) hgn (.slice B4 m4 k4))
    have HS5 := Lib.hid (HS4.out.far (p := ⟨g, 35, none⟩) hgs (.slice B4 m4 k4))
    replace HPL9 := Lib.hid (HPL9.out.cx HC4.out (HC4.out.again.set 35 (.slice B4 m4 k4)))
    replace HPH9 := Lib.hid (HPH9.out.cx HC4.out (HC4.out.again.set 35 (.slice B4 m4 k4)))
    have hH2 : Ext w0 (w4.setCell ⟨g, 35, none⟩ (.slice B4 m4 k4)) ∧ Blk (w4.setCell ⟨g, 35, none⟩ (.slice B4 m4 k4)) nb 52 x.enc.toArray ∧ Blk (w4.setCell ⟨g, 35, none⟩ (.slice B4 m4 k4)) (nb + 1) 9 #[.string x.n] := ⟨HC5.out.ext, HN5.out, HS5.out⟩
    clear s3 t3
    refine hK.out _ _ hH2 (fun _ => ?_)
    clear hK K hHeld
    have hHeld := hH2
    clear hH2
    try simp only [Act.put, List.setIfInBounds_toArray, List.set_cons_zero, List.set_cons_succ]
    refine wpAnyH_done (by kernel_rfl) ?_ _
    clear hHeld
    generalize w4.setCell ⟨g, 35, none⟩ (.slice B4 m4 k4) = w5 at HC5 HN5 HS5 HPL9 HPH9 ⊢
    clear HC4 HN4 HS4
    go_wp2_with fail
    refine wp_region_held_drew (S := fun W => Ext w0 W ∧ Blk W nb 52 x.enc.toArray ∧ Blk W (nb + 1) 9 #[.string x.n] ∧ W.cell? ⟨g, 0, none⟩ = some (.string fr) ∧ W.cell? ⟨g, 1, none⟩ = some (.string to)) (by kernel_rfl) ⟨HC5.out.ext.drew, HN5.out, HS5.out, HC5.out.blk.at_ 0 (sw0 _ _ _ _), HC5.out.blk.at_ 1 (sw1 _ _ _ _)⟩ (fun hHeld => ?_)
    have HCd := Lib.hid (HC5.out.go (Ext.refl _).drew)
    have HNd := Lib.hid (HN5.out.ext (Ext.refl w5).drew)
    have HSd := Lib.hid (HS5.out.ext (Ext.refl w5).drew)
    replace HPL9 := Lib.hid (HPL9.out.ext (Ext.refl w5).drew)
    replace HPH9 := Lib.hid (HPH9.out.ext (Ext.refl w5).drew)
    generalize World.drew w5 = wd at hHeld HCd HNd HSd HPL9 HPH9 ⊢
    clear HC5 HN5 HS5
    iterate 9
      refine tkD 0 (by simp only [List.size_toArray, List.length_cons, List.length_nil]; rfl) (by simp only [List.getElem?_toArray, List.getElem?_cons_zero, List.getElem?_cons_succ]; rfl) (by kernel_rfl) (by exact fun _ _ _ h => h) (by exact Or.inl ⟨by rfl, by intro w hSw; have hn0 := hSw.2.2.1.at_ 0 rfl; have hf0 := hSw.2.2.2.1; have ht0 := hSw.2.2.2.2; go_simp; with_reducible rfl⟩) (by assumption) ?_
      try simp only [Act.put, List.setIfInBounds_toArray, List.set_cons_zero, List.set_cons_succ]
    refine tkI 9 (v := (.agg (numsA .u8 x.r))) (by simp only [List.getElem?_toArray, List.getElem?_cons_zero, List.getElem?_cons_succ]; rfl) (by kernel_rfl) (by exact fun _ _ _ h => h) (by refine yields_loadS nb 32 (nums .u8 x.r) (by rw [nums_length, HOKX.out.2.1.1]; exact aggKey) (fun W hW j u hu => hW.2.1.at_ (32 + j) (Nd.right HOKX.out j u (by rw [numsA, List.getElem?_toArray]; exact hu))) ?_ _ rfl rfl; rfl) (by assumption) ?_
    try simp only [Act.put, List.setIfInBounds_toArray, List.set_cons_zero, List.set_cons_succ]
    refine tkI 10 (by simp only [List.getElem?_toArray, List.getElem?_cons_zero, List.getElem?_cons_succ]; rfl) (by kernel_rfl) (by exact fun _ _ _ h => h) (by exact Or.inl ⟨by rfl, by intro w hSw; have hn0 := hSw.2.2.1.at_ 0 rfl; have hf0 := hSw.2.2.2.1; have ht0 := hSw.2.2.2.2; go_simp; with_reducible rfl⟩) (by assumption) ?_
    try simp only [Act.put, List.setIfInBounds_toArray, List.set_cons_zero, List.set_cons_succ]
    refine wpAnyH_ready (rs := [11]) (by kernel_rfl) (by simp) (AllReadyH.cons (o := ?oy98211) ?hy98211 (fun K hK => ?sy98211) AllReadyH.nil)
    case hy98211 => simp only [List.getElem?_toArray, List.getElem?_cons_zero, List.getElem?_cons_succ]; rfl
    go_simp
    refine (ih fr to w0 S0 x.r (some x.n) (some hi) R' (O ++ [(x.n, x.v)]) (Nat.le_trans hle.r hlen) (by have := hle.o; have := hle.r; simp only [List.length_append, List.length_singleton] at *; omega) (fun y hy => HOK.out y (hle.m y hy)) HOKX.out.2.1 wd g A2 c2 (.slice B4 m4 k4) _ _ HR2.out HCd.out.again ⟨nb + 1, rfl, HSd.out⟩ HPH9.out).mono ?_
    rintro e w14 ⟨A9, n9, c9, v9, O9, he, hc, ht⟩
    rw [hs9] at he ht
    subst he
    have hH2 : Ext w0 w14 ∧ Blk w14 nb 52 x.enc.toArray ∧ Blk w14 (nb + 1) 9 #[.string x.n] ∧ w14.cell? ⟨g, 0, none⟩ = some (.string fr) ∧ w14.cell? ⟨g, 1, none⟩ = some (.string to) := ⟨hc.ext, HNd.out.cx HCd.out hc hgn (by decide), HSd.out.cx HCd.out hc hgs (by decide), hc.blk.at_ 0 (sw0 _ _ _ _), hc.blk.at_ 1 (sw1 _ _ _ _)⟩
    refine hK.out _ _ hH2 (fun _ => ?_)
    clear hK K hHeld
    have hHeld := hH2
    clear hH2
    try simp only [Act.put, List.setIfInBounds_toArray, List.set_cons_zero, List.set_cons_succ]
    iterate 2
      refine tkD 0 (by simp only [List.size_toArray, List.length_cons, List.length_nil]; rfl) (by simp only [List.getElem?_toArray, List.getElem?_cons_zero, List.getElem?_cons_succ]; rfl) (by kernel_rfl) (by exact fun _ _ _ h => h) (by exact Or.inl ⟨by rfl, by intro w hSw; have hn0 := hSw.2.2.1.at_ 0 rfl; have hf0 := hSw.2.2.2.1; have ht0 := hSw.2.2.2.2; go_simp; with_reducible rfl⟩) (by assumption) ?_
      try simp only [Act.put, List.setIfInBounds_toArray, List.set_cons_zero, List.set_cons_succ]
    refine wpAnyH_done (by kernel_rfl) ?_ _
    have HC14 := Lib.hid (HCd.out.call hc)
    have HT9 := Lib.hid ht
    clear hHeld hc ht
    go_wp2
    go_ret
    exact ⟨A9, n9, c9, v9, O9, rfl, HC14.out, HT9.out⟩
  case sy9657 =>
    go_simp
    have hH2 : Ext w0 (wd.alloc (.cells #[.string x.n, .string x.v] 50)) ∧ Blk (wd.alloc (.cells #[.string x.n, .string x.v] 50)) nb 52 x.enc.toArray ∧ Blk (wd.alloc (.cells #[.string x.n, .string x.v] 50)) (nb + 1) 9 #[.string x.n] := ⟨hHeld.1.alloc _, hHeld.2.1.alloc _, hHeld.2.2.alloc _⟩
    refine hK.out _ _ hH2 (fun _ => ?_)
    clear hK K hHeld
    have hHeld := hH2
    clear hH2
    try simp only [Act.put, List.setIfInBounds_toArray, List.set_cons_zero, List.set_cons_succ]
    have HCe := Lib.hid (HCd.out.go (ext_alloc wd (.cells #[.string x.n, .string x.v] 50)))
    replace HPL9 := Lib.hid (HPL9.out.ext (ext_alloc wd (.cells #[.string x.n, .string x.v] 50)))
    replace HPH9 := Lib.hid (HPH9.out.ext (ext_alloc wd (.cells #[.string x.n, .string x.v] 50)))
    refine wpAnyH_ready (rs := [4]) (by kernel_rfl) (by simp) (AllReadyH.cons (o := ?oy9854) ?hy9854 (fun K hK => ?sy9854) AllReadyH.nil)
    case hy9854 => simp only [List.getElem?_toArray, List.getElem?_cons_zero, List.getElem?_cons_succ]; rfl
    have s3 := HCe.out.blk.at_ 35 (sw35 _ _ _ _)
    go_simp
    refine hK.out _ _ hHeld (fun _ => ?_)
    clear hK K s3
    try simp only [Act.put, List.setIfInBounds_toArray, List.set_cons_zero, List.set_cons_succ]
    refine wpAnyH_ready (rs := [8]) (by kernel_rfl) (by simp) (AllReadyH.cons (o := ?oy9868) ?hy9868 (fun K hK => ?sy9868) AllReadyH.nil)
    case hy9868 => simp only [List.getElem?_toArray, List.getElem?_cons_zero, List.getElem?_cons_succ]; rfl
    refine stp_append rowEnt rfl _ _ rfl (v := vO) rfl HCe.out.own _ _ rfl (A := some ⟨wd.heap.size, 0, none⟩) (ys := [(x.n, x.v)]) rfl (rd_ent wd (x.n, x.v) _) (by intro y hy; obtain rfl := List.mem_singleton.1 hy; exact HOKX.out.2.2) (by have := hle.o; simp only [List.length_singleton] at *; omega) HCe.out.ext.size ?_
    intro v4 w4 ho1 hg1 hat1
    obtain ⟨B4, m4, k4, rfl⟩ := ho1.shape3
    have hcx := HCe.out.again.app ho1 hg1 hat1
    have HN4 := Lib.hid (hHeld.2.1.cx HCe.out hcx hgn (by decide))
    have HS4 := Lib.hid (hHeld.2.2.cx HCe.out hcx hgs (by decide))
    replace HPL9 := Lib.hid (HPL9.out.cx HCe.out hcx)
    replace HPH9 := Lib.hid (HPH9.out.cx HCe.out hcx)
    have HC4 := Lib.hid (HCe.out.call hcx)
    have hH2 : Ext w0 w4 ∧ Blk w4 nb 52 x.enc.toArray ∧ Blk w4 (nb + 1) 9 #[.string x.n] := ⟨HC4.out.ext, HN4.out, HS4.out⟩
    clear ho1 hg1 hat1 hcx HCe
    refine hK.out _ _ hH2 (fun _ => ?_)
    clear hK K hHeld
    have hHeld := hH2
    clear hH2
    try simp only [Act.put, List.setIfInBounds_toArray, List.set_cons_zero, List.set_cons_succ]
    refine tkI 9 (by simp only [List.getElem?_toArray, List.getElem?_cons_zero, List.getElem?_cons_succ]; rfl) (by kernel_rfl) (by exact fun _ _ _ h => h) (by first | (exact Or.inl ⟨by rfl, by intro w hSw; (try dsimp only at hSw); go_simp; with_reducible rfl⟩) | (exact Or.inr ⟨by rfl, by rfl⟩)) (by assumption) ?_
    try simp only [Act.put, List.setIfInBounds_toArray, List.set_cons_zero, List.set_cons_succ]
    refine tkI 10 (by simp only [List.getElem?_toArray, List.getElem?_cons_zero, List.getElem?_cons_succ]; rfl) (by kernel_rfl) (by exact fun _ _ _ h => h) (by first | (exact Or.inl ⟨by rfl, by intro w hSw; (try dsimp only at hSw); go_simp; with_reducible rfl⟩) | (exact Or.inr ⟨by rfl, by rfl⟩)) (by assumption) ?_
    try simp only [Act.put, List.setIfInBounds_toArray, List.set_cons_zero, List.set_cons_succ]
    refine wpAnyH_ready (rs := [11]) (by kernel_rfl) (by simp) (AllReadyH.cons (o := ?oy98911) ?hy98911 (fun K hK => ?sy98911) AllReadyH.nil)
    case hy98911 => simp only [List.getElem?_toArray, List.getElem?_cons_zero, List.getElem?_cons_succ]; rfl
    have s3 := HC4.out.blk.at_ 35 (sw35 _ _ _ _)
    have t3 := HC4.out.blk.free 35
    go_simp
    have HC5 := Lib.hid (show Cx 68 w0 w (w4.setCell ⟨g, 35, none⟩ (.slice B4 m4 k4)) g (swCs fr to (.slice A2 R'.length c2) (.slice B4 m4 k4)) vO (.slice B4 m4 k4) (O ++ [(x.n, x.v)]) from by have := HC4.out.set 35 (.slice B4 m4 k4); rwa [sw_set35] at this)
    have HN5 := Lib.hid (HN4.out.far (p := ⟨g, 35, none⟩) hgn (.slice B4 m4 k4))
    have HS5 := Lib.hid (HS4.out.far (p := ⟨g, 35, none⟩) hgs (.slice B4 m4 k4))
    replace HPL9 := Lib.hid (HPL9.out.cx HC4.out (HC4.out.again.set 35 (.slice B4 m4 k4)))
    replace HPH9 := Lib.hid (HPH9.out.cx HC4.out (HC4.out.again.set 35 (.slice B4 m4 k4)))
    have hH2 : Ext w0 (w4.setCell ⟨g, 35, none⟩ (.slice B4 m4 k4)) ∧ Blk (w4.setCell ⟨g, 35, none⟩ (.slice B4 m4 k4)) nb 52 x.enc.toArray ∧ Blk (w4.setCell ⟨g, 35, none⟩ (.slice B4 m4 k4)) (nb + 1) 9 #[.string x.n] := ⟨HC5.out.ext, HN5.out, HS5.out⟩
    clear s3 t3
    refine hK.out _ _ hH2 (fun _ => ?_)
    clear hK K hHeld
    have hHeld := hH2
    clear hH2
    try simp only [Act.put, List.setIfInBounds_toArray, List.set_cons_zero, List.set_cons_succ]
    refine wpAnyH_done (by kernel_rfl) ?_ _
    clear hHeld
    generalize w4.setCell ⟨g, 35, none⟩ (.slice B4 m4 k4) = w5 at HC5 HN5 HS5 HPL9 HPH9 ⊢
    clear HC4 HN4 HS4
    go_wp2_with fail
    refine wp_region_held_drew (S := fun W => Ext w0 W ∧ Blk W nb 52 x.enc.toArray ∧ Blk W (nb + 1) 9 #[.string x.n] ∧ W.cell? ⟨g, 0, none⟩ = some (.string fr) ∧ W.cell? ⟨g, 1, none⟩ = some (.string to)) (by kernel_rfl) ⟨HC5.out.ext.drew, HN5.out, HS5.out, HC5.out.blk.at_ 0 (sw0 _ _ _ _), HC5.out.blk.at_ 1 (sw1 _ _ _ _)⟩ (fun hHeld => ?_)
    have HCd := Lib.hid (HC5.out.go (Ext.refl _).drew)
    have HNd := Lib.hid (HN5.out.ext (Ext.refl w5).drew)
    have HSd := Lib.hid (HS5.out.ext (Ext.refl w5).drew)
    replace HPL9 := Lib.hid (HPL9.out.ext (Ext.refl w5).drew)
    replace HPH9 := Lib.hid (HPH9.out.ext (Ext.refl w5).drew)
    generalize World.drew w5 = wd at hHeld HCd HNd HSd HPL9 HPH9 ⊢
    clear HC5 HN5 HS5
    iterate 9
      refine tkD 0 (by simp only [List.size_toArray, List.length_cons, List.length_nil]; rfl) (by simp only [List.getElem?_toArray, List.getElem?_cons_zero, List.getElem?_cons_succ]; rfl) (by kernel_rfl) (by exact fun _ _ _ h => h) (by exact Or.inl ⟨by rfl, by intro w hSw; have hn0 := hSw.2.2.1.at_ 0 rfl; have hf0 := hSw.2.2.2.1; have ht0 := hSw.2.2.2.2; go_simp; with_reducible rfl⟩) (by assumption) ?_
      try simp only [Act.put, List.setIfInBounds_toArray, List.set_cons_zero, List.set_cons_succ]
    refine tkI 9 (v := (.agg (numsA .u8 x.r))) (by simp only [List.getElem?_toArray, List.getElem?_cons_zero, List.getElem?_cons_succ]; rfl) (by kernel_rfl) (by exact fun _ _ _ h => h) (by refine yields_loadS nb 32 (nums .u8 x.r) (by rw [nums_length, HOKX.out.2.1.1]; exact aggKey) (fun W hW j u hu => hW.2.1.at_ (32 + j) (Nd.right HOKX.out j u (by rw [numsA, List.getElem?_toArray]; exact hu))) ?_ _ rfl rfl; rfl) (by assumption) ?_
    try simp only [Act.put, List.setIfInBounds_toArray, List.set_cons_zero, List.set_cons_succ]
    refine tkI 10 (by simp only [List.getElem?_toArray, List.getElem?_cons_zero, List.getElem?_cons_succ]; rfl) (by kernel_rfl) (by exact fun _ _ _ h => h) (by exact Or.inl ⟨by rfl, by intro w hSw; have hn0 := hSw.2.2.1.at_ 0 rfl; have hf0 := hSw.2.2.2.1; have ht0 := hSw.2.2.2.2; go_simp; with_reducible rfl⟩) (by assumption) ?_
    try simp only [Act.put, List.setIfInBounds_toArray, List.set_cons_zero, List.set_cons_succ]
    refine wpAnyH_ready (rs := [11]) (by kernel_rfl) (by simp) (AllReadyH.cons (o := ?oy100111) ?hy100111 (fun K hK => ?sy100111) AllReadyH.nil)
    case hy100111 => simp only [List.getElem?_toArray, List.getElem?_cons_zero, List.getElem?_cons_succ]; rfl
    go_simp
    refine (ih fr to w0 S0 x.r (some x.n) (some hi) R' (O ++ [(x.n, x.v)]) (Nat.le_trans hle.r hlen) (by have := hle.o; have := hle.r; simp only [List.length_append, List.length_singleton] at *; omega) (fun y hy => HOK.out y (hle.m y hy)) HOKX.out.2.1 wd g A2 c2 (.slice B4 m4 k4) _ _ HR2.out HCd.out.again ⟨nb + 1, rfl, HSd.out⟩ HPH9.out).mono ?_
    rintro e w14 ⟨A9, n9, c9, v9, O9, he, hc, ht⟩
    rw [hs9] at he ht
    subst he
    have hH2 : Ext w0 w14 ∧ Blk w14 nb 52 x.enc.toArray ∧ Blk w14 (nb + 1) 9 #[.string x.n] ∧ w14.cell? ⟨g, 0, none⟩ = some (.string fr) ∧ w14.cell? ⟨g, 1, none⟩ = some (.string to) := ⟨hc.ext, HNd.out.cx HCd.out hc hgn (by decide), HSd.out.cx HCd.out hc hgs (by decide), hc.blk.at_ 0 (sw0 _ _ _ _), hc.blk.at_ 1 (sw1 _ _ _ _)⟩
    refine hK.out _ _ hH2 (fun _ => ?_)
    clear hK K hHeld
    have hHeld := hH2
    clear hH2
    try simp only [Act.put, List.setIfInBounds_toArray, List.set_cons_zero, List.set_cons_succ]
    iterate 2
      refine tkD 0 (by simp only [List.size_toArray, List.length_cons, List.length_nil]; rfl) (by simp only [List.getElem?_toArray, List.getElem?_cons_zero, List.getElem?_cons_succ]; rfl) (by kernel_rfl) (by exact fun _ _ _ h => h) (by exact Or.inl ⟨by rfl, by intro w hSw; have hn0 := hSw.2.2.1.at_ 0 rfl; have hf0 := hSw.2.2.2.1; have ht0 := hSw.2.2.2.2; go_simp; with_reducible rfl⟩) (by assumption) ?_
      try simp only [Act.put, List.setIfInBounds_toArray, List.set_cons_zero, List.set_cons_succ]
    refine wpAnyH_done (by kernel_rfl) ?_ _
    have HC14 := Lib.hid (HCd.out.call hc)
    have HT9 := Lib.hid ht
    clear hHeld hc ht
    go_wp2
    go_ret
    exact ⟨A9, n9, c9, v9, O9, rfl, HC14.out, HT9.out⟩
set_option maxHeartbeats 16000000 in
set_option maxRecDepth 100000 in
theorem look_nh_eq_out (fr to : ByteArray) (w0 : World) (S0 : Nat → Prop) (K : List Int) (hK : K32 K) (O : List En) (x : Nd) (R' : List Nd) (hokx : x.ok) (hex : entB x.n x.v = true) (hKe : K ≠ emptyL) (h1 : kN x = K) (n : Nat) (hn : n = R'.length + 1) (f : Nat) (ih : LookC f) (hlen : R'.length ≤ f) (h64 : O.length + (R'.length + 1) ≤ 64) (hok : ∀ y ∈ R', y.ok ∧ entB y.n y.v = true) (lo hi : ByteArray) (h3 : ltB x.n hi = true) (h4 : ltB fr x.n = false) (h5 : ltB x.n fr = false) (h6 : ltB x.n to = false) (s1 : Sw) (hs1 : (⟨R', O, false⟩ : Sw) = s1) (hle : SwLe s1 ⟨R', O, false⟩)
    (w : World) (g : Nat) (A : Option Addr) (c : Nat) (vO vl vh : Value) (hr : RdL tNd w0 S0 (.slice A n c) (x :: R')) (hC : Cx 68 w0 w w g (swCs fr to (.slice A n c) vO) vO vO O) (t9 : Sw) (hpl : PtrS w vl (none : Option ByteArray)) (hph : PtrS w vh (some hi)) (HT : (⟨R', O, false⟩ : Sw) = t9)
    :
    Calls Try.prog 35 #[.pointer (some ⟨g, 0, none⟩), .agg (numsA .u8 K), vl, vh] w fun e w' => ∃ A' n' c' vO' O', e = .returned (.bool (!t9.bad)) ∧
      Cx 68 w0 w w' g (swCs fr to (.slice A' n' c') vO') vO vO' O' ∧ (t9.bad = false → n' = t9.R.length ∧ O' = t9.O ∧ RdL tNd w0 S0 (.slice A' n' c') t9.R) := by
  have hq3 : Op.bytesLess x.n.toList hi.toList = true := by rw [ltB_eq]; exact h3
  have hq4 : Op.bytesLess fr.toList x.n.toList = false := by rw [ltB_eq]; exact h4
  have hq5 : Op.bytesLess x.n.toList fr.toList = false := by rw [ltB_eq]; exact h5
  have hq7 : (x.n.toList == fr.toList) = true := by rw [ltB_total h5 h4]; simp
  have hq6 : Op.bytesLess x.n.toList to.toList = false := by rw [ltB_eq]; exact h6
  subst hs1
  have HOK := Lib.hid hok
  clear hok
  subst HT
  have hcut := RdL.cutN (k := 1) hr (by simp [hn]) (by omega)
  rw [show n - 1 = R'.length by omega, show (x :: R').drop 1 = R' from rfl, show tNd.sz = 66 from rfl] at hcut
  obtain ⟨A', c', e9, hcap, hlen', hrd, hok9⟩ := id hr
  injection e9 with e91 e92 e93
  subst e91 e93
  obtain ⟨gn, on, rfl, hs0, hcx⟩ := hrd.elem hok9 0 (by simp)
  simp only [Nat.zero_mul, Nat.add_zero, List.getElem_cons_zero] at hcx
  have HD := Lib.hid (show ∀ W, Ext w0 W → ∀ j u, x.enc[j]? = some u → W.cell? ⟨gn, on + j, none⟩ = some u from fun W hW j u hu => hW.cell (hcx j u hu))
  have HOKX := Lib.hid hokx
  have HEX := Lib.hid hex
  have hn0 : ((n : Int) == 0) = false := by rw [beq_eq_false_iff_ne]; omega
  have hn1 : (0 : Int) < (n : Int) := by omega
  have hn2 : 1 ≤ n := by omega
  have hn3 : 0 < n := by omega
  obtain ⟨A2, hA2⟩ : ∃ A2, (if c = 1 then some (⟨gn, on, none⟩ : Addr) else (some (⟨gn, on, none⟩ : Addr)).map (·.add (1 * 66))) = A2 := ⟨_, rfl⟩
  obtain ⟨c2, hc2⟩ : ∃ c2, c - 1 = c2 := ⟨_, rfl⟩
  rw [hA2, hc2] at hcut
  have HSL := Lib.hid (show (Value.slice (if c = 1 then some (⟨gn, on, none⟩ : Addr) else (some (⟨gn, on, none⟩ : Addr)).map (·.add (1 * 66))) (n - 1) (c - 1)) = .slice A2 R'.length c2 by rw [hA2, hc2, show n - 1 = R'.length by omega])
  have HR2 := Lib.hid hcut
  have HST := Lib.hid (Nd.st hokx)
  have hneq : ∀ W, (binOp .neq 28 (.agg (numsA .u8 (kN x))) (.agg (numsA .u8 K))).run Try.prog W = .ok (.bool false) W := fun W => by
    have := run_neqKey (kN x) K (kN_ok x) hK W
    rw [decide_eq_true h1] at this
    exact this
  clear h1 hn hokx hex hcx hrd hok9 hs0 hcap hlen' e92 hcut hA2 hc2
  have hkl := hK.1
  have HC := Lib.hid hC
  have HR := Lib.hid hr
  have HK := Lib.hid hK
  have heql : ∀ W, (binOp .eql 28 (.agg (numsA .u8 K)) (.agg (numsA .u8 emptyL))).run Try.prog W = .ok (.bool false) W := fun W => by
    have := run_eqKey K emptyL HK.out emptyL_ok W
    rw [decide_eq_false hKe] at this
    exact this
  clear hC hr hK hKe
  go_enter Try.func35, Try.ntmps35
  go_wp2_with fail
  have HA := Lib.hid (HC.out.go (ext_alloc w (.cells (numsA .u8 K) 28)))
  have HKB := Lib.hid (Blk.new w 28 (numsA .u8 K))
  generalize w.alloc (.cells (numsA .u8 K) 28) = wa at HA HKB ⊢
  refine wp_region_held_drew (S := fun W => Ext wa W) (by kernel_rfl) (Ext.refl _).drew (fun hHeld => ?_)
  refine tkI 0 (v := (.agg (numsA .u8 K))) (by simp only [List.getElem?_toArray, List.getElem?_cons_zero, List.getElem?_cons_succ]; rfl) (by kernel_rfl) (by exact fun _ _ _ h => h) (by refine yields_loadB HKB.out aggKey (sizeN hkl) ?_ _ rfl rfl; rfl) (by assumption) ?_
  try simp only [Act.put, List.setIfInBounds_toArray, List.set_cons_zero, List.set_cons_succ]
  iterate 3
    refine tkD 0 (by simp only [List.size_toArray, List.length_cons, List.length_nil]; rfl) (by simp only [List.getElem?_toArray, List.getElem?_cons_zero, List.getElem?_cons_succ]; rfl) (by kernel_rfl) (by exact fun _ _ _ h => h) (by first | (exact Or.inl ⟨by rfl, by intro w hSw; (try dsimp only at hSw); go_simp; with_reducible rfl⟩) | (exact Or.inr ⟨by rfl, by rfl⟩)) (by assumption) ?_
    try simp only [Act.put, List.setIfInBounds_toArray, List.set_cons_zero, List.set_cons_succ]
  refine tkI 4 (v := (.agg (numsA .u8 emptyL))) (by simp only [List.getElem?_toArray, List.getElem?_cons_zero, List.getElem?_cons_succ]; rfl) (by kernel_rfl) (by exact fun _ _ _ h => h) (by refine yields_loadP (off := 3) HA.out.blk aggKey (sizeN emptyL_ok.1) (swE fr to _ _) ?_ _ rfl rfl; rfl) (by assumption) ?_
  try simp only [Act.put, List.setIfInBounds_toArray, List.set_cons_zero, List.set_cons_succ]
  refine tkI 5 (by simp only [List.getElem?_toArray, List.getElem?_cons_zero, List.getElem?_cons_succ]; rfl) (by kernel_rfl) (by exact fun _ _ _ h => h) (by first | (exact Or.inl ⟨by rfl, by intro w hSw; (try dsimp only at hSw); go_simp; with_reducible rfl⟩) | (exact Or.inr ⟨by rfl, by rfl⟩)) (by assumption) ?_
  try simp only [Act.put, List.setIfInBounds_toArray, List.set_cons_zero, List.set_cons_succ]
  refine wpAnyH_done (by kernel_rfl) ?_ _
  have HB1 := Lib.hid (HA.out.go hHeld)
  have HK2 := Lib.hid (HKB.out.ext hHeld)
  clear hHeld HA HKB
  generalize World.drew wa = w1 at HB1 HK2 ⊢
  have cd : ∀ W, Ext w1 W → W.cell? ⟨g, 2, none⟩ = some (.slice (some ⟨gn, on, none⟩) n c) := fun W hW => (HB1.out.blk.ext hW).at_ 2 (sw2 _ _ _ _)
  have hND := HD.out
  go_wp2_with fail
  refine wp_region_held_drew (S := fun W => Ext w1 W) (by kernel_rfl) (Ext.refl _).drew (fun hHeld => ?_)
  iterate 12
    refine tkD 0 (by simp only [List.size_toArray, List.length_cons, List.length_nil]; rfl) (by simp only [List.getElem?_toArray, List.getElem?_cons_zero, List.getElem?_cons_succ]; rfl) (by kernel_rfl) (by exact fun _ _ _ h => h) (by first | (exact Or.inl ⟨by rfl, by intro w hSw; (try dsimp only at hSw); go_simp; with_reducible rfl⟩) | (exact Or.inr ⟨by rfl, by rfl⟩)) (by assumption) ?_
    try simp only [Act.put, List.setIfInBounds_toArray, List.set_cons_zero, List.set_cons_succ]
  refine tkI 12 (v := (.agg x.enc.toArray)) (by simp only [List.getElem?_toArray, List.getElem?_cons_zero, List.getElem?_cons_succ]; rfl) (by kernel_rfl) (by exact fun _ _ _ h => h) (by refine yields_loadS gn on x.enc (by rw [Nd.enc_length HOKX.out]; exact aggNodeI) (fun W hW => hND W (HB1.out.ext.trans hW)) ?_ _ rfl rfl; rfl) (by assumption) ?_
  try simp only [Act.put, List.setIfInBounds_toArray, List.set_cons_zero, List.set_cons_succ]
  refine tkI 14 (v := (.agg (numsA .u8 K))) (by simp only [List.getElem?_toArray, List.getElem?_cons_zero, List.getElem?_cons_succ]; rfl) (by kernel_rfl) (by exact fun _ _ _ h => h) (by refine yields_loadB HK2.out aggKey (sizeN hkl) ?_ _ rfl rfl; rfl) (by assumption) ?_
  try simp only [Act.put, List.setIfInBounds_toArray, List.set_cons_zero, List.set_cons_succ]
  refine wpAnyH_ready (rs := [13]) (by kernel_rfl) (by simp) (AllReadyH.cons (o := ?oy102413) ?hy102413 (fun K hK => ?sy102413) AllReadyH.nil)
  case hy102413 => simp only [List.getElem?_toArray, List.getElem?_cons_zero, List.getElem?_cons_succ]; rfl
  go_simp
  refine (nodeKey_any x HOKX.out HEX.out _).mono ?_
  rintro e w3 ⟨rfl, hx⟩
  have hH2 := hHeld.trans hx
  refine hK.out _ _ hH2 (fun _ => ?_)
  clear hHeld hK K
  have hHeld := hH2
  clear hH2
  try simp only [Act.put, List.setIfInBounds_toArray, List.set_cons_zero, List.set_cons_succ]
  try rw [show hashL 5 (nodeL x) = kN x by rw [kN]]
  iterate 2
    refine tkD 0 (by simp only [List.size_toArray, List.length_cons, List.length_nil]; rfl) (by simp only [List.getElem?_toArray, List.getElem?_cons_zero, List.getElem?_cons_succ]; rfl) (by kernel_rfl) (by exact fun _ _ _ h => h) (by first | (exact Or.inl ⟨by rfl, by intro w hSw; (try dsimp only at hSw); go_simp; with_reducible rfl⟩) | (exact Or.inr ⟨by rfl, by rfl⟩)) (by assumption) ?_
    try simp only [Act.put, List.setIfInBounds_toArray, List.set_cons_zero, List.set_cons_succ]
  refine wpAnyH_done (by kernel_rfl) ?_ _
  have HB3 := Lib.hid (HB1.out.go hHeld)
  have HK3 := Lib.hid (HK2.out.ext hHeld)
  clear hHeld cd hND HB1 HK2
  have HBa := Lib.hid (HB3.out.go (ext_alloc w3 (.cells x.enc.toArray 52)))
  have HNa := Lib.hid (Blk.new w3 52 x.enc.toArray)
  have d2 := HB3.out.blk.at_ 2 (sw2 _ _ _ _)
  have a2 := HBa.out.blk.at_ 2 (sw2 _ _ _ _)
  have c64 := HNa.out.at_ 64 (Nd.at64 HOKX.out)
  have HBb := Lib.hid (HBa.out.go (ext_alloc (World.alloc w3 (.cells x.enc.toArray 52)) (.cells #[.string x.n] 9)))
  have b2 := HBb.out.blk.at_ 2 (sw2 _ _ _ _)
  have f2 := HBb.out.blk.free 2
  go_wp2_with (first
    | (refine wpl_load ⟨gn, on, none⟩ x.enc (by rw [Nd.enc_length HOKX.out]; exact aggNodeI) rfl _ rfl rfl (fun j u hu => by rw [Addr.add_lit]; exact HD.out _ HB3.out.ext j u hu) ?_)
    | (refine wpl_storeNewB aggNodeI HST.out rfl rfl _ _ rfl rfl rfl rfl ?_)
    | (refine wpl_cut1 (sz := 66) (A := some ⟨gn, on, none⟩) (n := n) (c := c) (by kernel_rfl) (by kernel_rfl) rfl _ rfl rfl hn2 ?_; rw [HSL.out]))
  have hgn : w3.heap.size ≠ g := by have := HB3.out.blk.lt; omega
  have hgs : w3.heap.size + 1 ≠ g := by have := HB3.out.blk.lt; omega
  have HB8 := Lib.hid (show Cx 68 w0 w (World.setCell (World.alloc (World.alloc w3 (.cells x.enc.toArray 52)) (.cells #[.string x.n] 9)) ⟨g, 2, none⟩ (.slice A2 R'.length c2)) g (swCs fr to (.slice A2 R'.length c2) vO) vO vO O from by have := HBb.out.set 2 (.slice A2 R'.length c2); rwa [sw_set2] at this)
  have HN8 := Lib.hid (show Blk (World.setCell (World.alloc (World.alloc w3 (.cells x.enc.toArray 52)) (.cells #[.string x.n] 9)) ⟨g, 2, none⟩ (.slice A2 R'.length c2)) w3.heap.size 52 x.enc.toArray from (HNa.out.alloc _).far hgn _)
  have HS8 := Lib.hid (show Blk (World.setCell (World.alloc (World.alloc w3 (.cells x.enc.toArray 52)) (.cells #[.string x.n] 9)) ⟨g, 2, none⟩ (.slice A2 R'.length c2)) (w3.heap.size + 1) 9 #[.string x.n] from (Blk.new' (g := w3.heap.size + 1) (w := World.alloc w3 (.cells x.enc.toArray 52)) (by simp) 9 #[.string x.n]).far hgs _)
  have HPL := Lib.hid (hpl.cx HC.out HB8.out)
  have HPH := Lib.hid (hph.cx HC.out HB8.out)
  clear d2 a2 c64 b2 f2 HBa HBb HNa HK3
  obtain ⟨nb, hnb⟩ : ∃ nb, w3.heap.size = nb := ⟨_, rfl⟩
  rw [hnb] at HN8 HS8 hgn hgs ⊢
  generalize (World.setCell (World.alloc (World.alloc w3 (.cells x.enc.toArray 52)) (.cells #[.string x.n] 9)) ⟨g, 2, none⟩ (.slice A2 R'.length c2)) = wb at HB8 HN8 HS8 HPL HPH ⊢
  clear HB3 hnb hpl hph
  have cs8 : ∀ W, Ext wb W → W.cell? ⟨nb + 1, 0, none⟩ = some (.string x.n) := fun W hW => (HS8.out.ext hW).at_ 0 rfl
  obtain rfl : vl = .pointer none := HPL.out
  obtain ⟨hb, rfl, hhb⟩ := HPH.out
  have ch8 : ∀ W, Ext wb W → W.cell? ⟨hb, 0, none⟩ = some (.string hi) := fun W hW => (hhb.ext hW).at_ 0 rfl
  clear hhb
  refine wp_region_held_drew (S := fun W => Ext wb W) (by kernel_rfl) (Ext.refl _).drew (fun hHeld => ?_)
  iterate 20
    refine tkD 0 (by simp only [List.size_toArray, List.length_cons, List.length_nil]; rfl) (by simp only [List.getElem?_toArray, List.getElem?_cons_zero, List.getElem?_cons_succ]; rfl) (by kernel_rfl) (by exact fun _ _ _ h => h) (by first | (exact Or.inl ⟨by rfl, by intro w hSw; (try dsimp only at hSw); go_simp; with_reducible rfl⟩) | (exact Or.inr ⟨by rfl, by rfl⟩)) (by assumption) ?_
    try simp only [Act.put, List.setIfInBounds_toArray, List.set_cons_zero, List.set_cons_succ]
  refine wpAnyH_done (by kernel_rfl) ?_ _
  have HC9 := Lib.hid (HB8.out.go hHeld)
  have HN9 := Lib.hid (HN8.out.ext hHeld)
  have HS9 := Lib.hid (HS8.out.ext hHeld)
  have HPL9 := Lib.hid (HPL.out.ext hHeld)
  have HPH9 := Lib.hid (HPH.out.ext hHeld)
  clear hHeld HB8 HN8 HS8 HPL HPH cs8
  clear ch8
  generalize World.drew wb = w9 at HC9 HN9 HS9 HPL9 HPH9 ⊢
  go_wp2_with fail
  refine wp_region_held_drew (S := fun W => Ext w0 W ∧ Blk W nb 52 x.enc.toArray ∧ Blk W (nb + 1) 9 #[.string x.n] ∧ W.cell? ⟨g, 0, none⟩ = some (.string fr) ∧ W.cell? ⟨g, 1, none⟩ = some (.string to)) (by kernel_rfl) ⟨HC9.out.ext.drew, HN9.out, HS9.out, HC9.out.blk.at_ 0 (sw0 _ _ _ _), HC9.out.blk.at_ 1 (sw1 _ _ _ _)⟩ (fun hHeld => ?_)
  have HCd := Lib.hid (HC9.out.go (Ext.refl _).drew)
  have HNd := Lib.hid (HN9.out.ext (Ext.refl w9).drew)
  have HSd := Lib.hid (HS9.out.ext (Ext.refl w9).drew)
  replace HPL9 := Lib.hid (HPL9.out.ext (Ext.refl w9).drew)
  replace HPH9 := Lib.hid (HPH9.out.ext (Ext.refl w9).drew)
  generalize World.drew w9 = wd at hHeld HCd HNd HSd HPL9 HPH9 ⊢
  clear HC9 HN9 HS9
  iterate 7
    refine tkD 0 (by simp only [List.size_toArray, List.length_cons, List.length_nil]; rfl) (by simp only [List.getElem?_toArray, List.getElem?_cons_zero, List.getElem?_cons_succ]; rfl) (by kernel_rfl) (by exact fun _ _ _ h => h) (by exact Or.inl ⟨by rfl, by intro w hSw; have hn0 := hSw.2.2.1.at_ 0 rfl; have hf0 := hSw.2.2.2.1; have ht0 := hSw.2.2.2.2; go_simp; with_reducible rfl⟩) (by assumption) ?_
    try simp only [Act.put, List.setIfInBounds_toArray, List.set_cons_zero, List.set_cons_succ]
  iterate 6
    refine tkD 0 (by simp only [List.size_toArray, List.length_cons, List.length_nil]; rfl) (by simp only [List.getElem?_toArray, List.getElem?_cons_zero, List.getElem?_cons_succ]; rfl) (by kernel_rfl) (by exact fun _ _ _ h => h) (by first | (exact Or.inl ⟨by rfl, by intro w hSw; (try dsimp only at hSw); go_simp; with_reducible rfl⟩) | (exact Or.inr ⟨by rfl, by rfl⟩)) (by assumption) ?_
    try simp only [Act.put, List.setIfInBounds_toArray, List.set_cons_zero, List.set_cons_succ]
  refine tkI 13 (by simp only [List.getElem?_toArray, List.getElem?_cons_zero, List.getElem?_cons_succ]; rfl) (by kernel_rfl) (by exact fun _ _ _ h => h) (by exact Or.inl ⟨by rfl, by intro w hSw; have hn0 := hSw.2.2.1.at_ 0 rfl; have hf0 := hSw.2.2.2.1; have ht0 := hSw.2.2.2.2; go_simp; with_reducible rfl⟩) (by assumption) ?_
  try simp only [Act.put, List.setIfInBounds_toArray, List.set_cons_zero, List.set_cons_succ]
  refine wpAnyH_done (by kernel_rfl) ?_ _
  have HC11 := HCd
  have HN11 := HNd
  have HS11 := HSd
  clear hHeld HCd HNd HSd
  go_wp2_with fail
  have cn : ∀ X, Ext wd X → X.cell? ⟨nb + 1, 0, none⟩ = some (.string x.n) := fun X hX => (HS11.out.ext hX).at_ 0 rfl
  have cf : ∀ X, Ext wd X → X.cell? ⟨g, 0, none⟩ = some (.string fr) := fun X hX => (HC11.out.blk.ext hX).at_ 0 (sw0 _ _ _ _)
  have ct : ∀ X, Ext wd X → X.cell? ⟨g, 1, none⟩ = some (.string to) := fun X hX => (HC11.out.blk.ext hX).at_ 1 (sw1 _ _ _ _)
  refine wp_region_held_drew (S := fun W => Ext wd W) (by kernel_rfl) (Ext.refl _).drew (fun hHeld => ?_)
  iterate 14
    refine tkD 0 (by simp only [List.size_toArray, List.length_cons, List.length_nil]; rfl) (by simp only [List.getElem?_toArray, List.getElem?_cons_zero, List.getElem?_cons_succ]; rfl) (by kernel_rfl) (by exact fun _ _ _ h => h) (by first | (exact Or.inl ⟨by rfl, by intro w hSw; (try dsimp only at hSw); go_simp; with_reducible rfl⟩) | (exact Or.inr ⟨by rfl, by rfl⟩)) (by assumption) ?_
    try simp only [Act.put, List.setIfInBounds_toArray, List.set_cons_zero, List.set_cons_succ]
  refine wpAnyH_done (by kernel_rfl) ?_ _
  have HC12 := Lib.hid (HC11.out.go hHeld)
  have HN12 := Lib.hid (HN11.out.ext hHeld)
  have HS12 := Lib.hid (HS11.out.ext hHeld)
  replace HPL9 := Lib.hid (HPL9.out.ext hHeld)
  replace HPH9 := Lib.hid (HPH9.out.ext hHeld)
  clear hHeld HC11 HN11 HS11 cn cf ct
  generalize World.drew wd = w12 at HC12 HN12 HS12 HPL9 HPH9 ⊢
  go_wp2_with fail
  refine wp_region_held_drew (S := fun W => Ext w0 W ∧ Blk W nb 52 x.enc.toArray ∧ Blk W (nb + 1) 9 #[.string x.n] ∧ W.cell? ⟨g, 0, none⟩ = some (.string fr) ∧ W.cell? ⟨g, 1, none⟩ = some (.string to)) (by kernel_rfl) ⟨HC12.out.ext.drew, HN12.out, HS12.out, HC12.out.blk.at_ 0 (sw0 _ _ _ _), HC12.out.blk.at_ 1 (sw1 _ _ _ _)⟩ (fun hHeld => ?_)
  have HCd := Lib.hid (HC12.out.go (Ext.refl _).drew)
  have HNd := Lib.hid (HN12.out.ext (Ext.refl w12).drew)
  have HSd := Lib.hid (HS12.out.ext (Ext.refl w12).drew)
  replace HPL9 := Lib.hid (HPL9.out.ext (Ext.refl w12).drew)
  replace HPH9 := Lib.hid (HPH9.out.ext (Ext.refl w12).drew)
  generalize World.drew w12 = wd at hHeld HCd HNd HSd HPL9 HPH9 ⊢
  clear HC12 HN12 HS12
  iterate 7
    refine tkD 0 (by simp only [List.size_toArray, List.length_cons, List.length_nil]; rfl) (by simp only [List.getElem?_toArray, List.getElem?_cons_zero, List.getElem?_cons_succ]; rfl) (by kernel_rfl) (by exact fun _ _ _ h => h) (by exact Or.inl ⟨by rfl, by intro w hSw; have hn0 := hSw.2.2.1.at_ 0 rfl; have hf0 := hSw.2.2.2.1; have ht0 := hSw.2.2.2.2; go_simp; with_reducible rfl⟩) (by assumption) ?_
    try simp only [Act.put, List.setIfInBounds_toArray, List.set_cons_zero, List.set_cons_succ]
  iterate 5
    refine tkD 0 (by simp only [List.size_toArray, List.length_cons, List.length_nil]; rfl) (by simp only [List.getElem?_toArray, List.getElem?_cons_zero, List.getElem?_cons_succ]; rfl) (by kernel_rfl) (by exact fun _ _ _ h => h) (by first | (exact Or.inl ⟨by rfl, by intro w hSw; (try dsimp only at hSw); go_simp; with_reducible rfl⟩) | (exact Or.inr ⟨by rfl, by rfl⟩)) (by assumption) ?_
    try simp only [Act.put, List.setIfInBounds_toArray, List.set_cons_zero, List.set_cons_succ]
  iterate 2
    refine tkD 0 (by simp only [List.size_toArray, List.length_cons, List.length_nil]; rfl) (by simp only [List.getElem?_toArray, List.getElem?_cons_zero, List.getElem?_cons_succ]; rfl) (by kernel_rfl) (by exact fun _ _ _ h => h) (by exact Or.inl ⟨by rfl, by intro w hSw; have hn0 := hSw.2.2.1.at_ 0 rfl; have hf0 := hSw.2.2.2.1; have ht0 := hSw.2.2.2.2; go_simp; with_reducible rfl⟩) (by assumption) ?_
    try simp only [Act.put, List.setIfInBounds_toArray, List.set_cons_zero, List.set_cons_succ]
  refine wpAnyH_done (by kernel_rfl) ?_ _
  clear hHeld
  go_wp2
  go_ret
  exact ⟨A2, _, c2, vO, _, rfl, HCd.out, fun _ => ⟨rfl, rfl, HR2.out⟩⟩
set_option maxHeartbeats 16000000 in
set_option maxRecDepth 100000 in
theorem look_nh_low_in (fr to : ByteArray) (w0 : World) (S0 : Nat → Prop) (K : List Int) (hK : K32 K) (O : List En) (x : Nd) (R' : List Nd) (hokx : x.ok) (hex : entB x.n x.v = true) (hKe : K ≠ emptyL) (h1 : kN x = K) (n : Nat) (hn : n = R'.length + 1) (f : Nat) (ih : LookC f) (hlen : R'.length ≤ f) (h64 : O.length + (R'.length + 1) ≤ 64) (hok : ∀ y ∈ R', y.ok ∧ entB y.n y.v = true) (lo hi : ByteArray) (h3 : ltB x.n hi = true) (h5 : ltB x.n fr = true) (h6 : ltB x.n to = true) (s1 : Sw) (hs1 : (⟨R', O, false⟩ : Sw) = s1) (hle : SwLe s1 ⟨R', O, false⟩)
    (w : World) (g : Nat) (A : Option Addr) (c : Nat) (vO vl vh : Value) (hr : RdL tNd w0 S0 (.slice A n c) (x :: R')) (hC : Cx 68 w0 w w g (swCs fr to (.slice A n c) vO) vO vO O) (t9 : Sw) (hpl : PtrS w vl (none : Option ByteArray)) (hph : PtrS w vh (some hi)) (HT : tr fr to f x.r ((some x.n).getD ⟨#[]⟩) ((some hi).getD ⟨#[]⟩) (some hi).isSome (⟨R', O, false⟩ : Sw) = t9)
    :
    Calls Try.prog 35 #[.pointer (some ⟨g, 0, none⟩), .agg (numsA .u8 K), vl, vh] w fun e w' => ∃ A' n' c' vO' O', e = .returned (.bool (!t9.bad)) ∧
      Cx 68 w0 w w' g (swCs fr to (.slice A' n' c') vO') vO vO' O' ∧ (t9.bad = false → n' = t9.R.length ∧ O' = t9.O ∧ RdL tNd w0 S0 (.slice A' n' c') t9.R) := by
  have hq3 : Op.bytesLess x.n.toList hi.toList = true := by rw [ltB_eq]; exact h3
  have hq4 : Op.bytesLess fr.toList x.n.toList = false := by rw [ltB_eq]; exact ltB_asymm h5
  have hq5 : Op.bytesLess x.n.toList fr.toList = true := by rw [ltB_eq]; exact h5
  have hq6 : Op.bytesLess x.n.toList to.toList = true := by rw [ltB_eq]; exact h6
  subst hs1
  have HOK := Lib.hid hok
  clear hok
  have hs9 := HT
  clear HT
  have hcut := RdL.cutN (k := 1) hr (by simp [hn]) (by omega)
  rw [show n - 1 = R'.length by omega, show (x :: R').drop 1 = R' from rfl, show tNd.sz = 66 from rfl] at hcut
  obtain ⟨A', c', e9, hcap, hlen', hrd, hok9⟩ := id hr
  injection e9 with e91 e92 e93
  subst e91 e93
  obtain ⟨gn, on, rfl, hs0, hcx⟩ := hrd.elem hok9 0 (by simp)
  simp only [Nat.zero_mul, Nat.add_zero, List.getElem_cons_zero] at hcx
  have HD := Lib.hid (show ∀ W, Ext w0 W → ∀ j u, x.enc[j]? = some u → W.cell? ⟨gn, on + j, none⟩ = some u from fun W hW j u hu => hW.cell (hcx j u hu))
  have HOKX := Lib.hid hokx
  have HEX := Lib.hid hex
  have hn0 : ((n : Int) == 0) = false := by rw [beq_eq_false_iff_ne]; omega
  have hn1 : (0 : Int) < (n : Int) := by omega
  have hn2 : 1 ≤ n := by omega
  have hn3 : 0 < n := by omega
  obtain ⟨A2, hA2⟩ : ∃ A2, (if c = 1 then some (⟨gn, on, none⟩ : Addr) else (some (⟨gn, on, none⟩ : Addr)).map (·.add (1 * 66))) = A2 := ⟨_, rfl⟩
  obtain ⟨c2, hc2⟩ : ∃ c2, c - 1 = c2 := ⟨_, rfl⟩
  rw [hA2, hc2] at hcut
  have HSL := Lib.hid (show (Value.slice (if c = 1 then some (⟨gn, on, none⟩ : Addr) else (some (⟨gn, on, none⟩ : Addr)).map (·.add (1 * 66))) (n - 1) (c - 1)) = .slice A2 R'.length c2 by rw [hA2, hc2, show n - 1 = R'.length by omega])
  have HR2 := Lib.hid hcut
  have HST := Lib.hid (Nd.st hokx)
  have hneq : ∀ W, (binOp .neq 28 (.agg (numsA .u8 (kN x))) (.agg (numsA .u8 K))).run Try.prog W = .ok (.bool false) W := fun W => by
    have := run_neqKey (kN x) K (kN_ok x) hK W
    rw [decide_eq_true h1] at this
    exact this
  clear h1 hn hokx hex hcx hrd hok9 hs0 hcap hlen' e92 hcut hA2 hc2
  have hkl := hK.1
  have HC := Lib.hid hC
  have HR := Lib.hid hr
  have HK := Lib.hid hK
  have heql : ∀ W, (binOp .eql 28 (.agg (numsA .u8 K)) (.agg (numsA .u8 emptyL))).run Try.prog W = .ok (.bool false) W := fun W => by
    have := run_eqKey K emptyL HK.out emptyL_ok W
    rw [decide_eq_false hKe] at this
    exact this
  clear hC hr hK hKe
  go_enter Try.func35, Try.ntmps35
  go_wp2_with fail
  have HA := Lib.hid (HC.out.go (ext_alloc w (.cells (numsA .u8 K) 28)))
  have HKB := Lib.hid (Blk.new w 28 (numsA .u8 K))
  generalize w.alloc (.cells (numsA .u8 K) 28) = wa at HA HKB ⊢
  refine wp_region_held_drew (S := fun W => Ext wa W) (by kernel_rfl) (Ext.refl _).drew (fun hHeld => ?_)
  refine tkI 0 (v := (.agg (numsA .u8 K))) (by simp only [List.getElem?_toArray, List.getElem?_cons_zero, List.getElem?_cons_succ]; rfl) (by kernel_rfl) (by exact fun _ _ _ h => h) (by refine yields_loadB HKB.out aggKey (sizeN hkl) ?_ _ rfl rfl; rfl) (by assumption) ?_
  try simp only [Act.put, List.setIfInBounds_toArray, List.set_cons_zero, List.set_cons_succ]
  iterate 3
    refine tkD 0 (by simp only [List.size_toArray, List.length_cons, List.length_nil]; rfl) (by simp only [List.getElem?_toArray, List.getElem?_cons_zero, List.getElem?_cons_succ]; rfl) (by kernel_rfl) (by exact fun _ _ _ h => h) (by first | (exact Or.inl ⟨by rfl, by intro w hSw; (try dsimp only at hSw); go_simp; with_reducible rfl⟩) | (exact Or.inr ⟨by rfl, by rfl⟩)) (by assumption) ?_
    try simp only [Act.put, List.setIfInBounds_toArray, List.set_cons_zero, List.set_cons_succ]
  refine tkI 4 (v := (.agg (numsA .u8 emptyL))) (by simp only [List.getElem?_toArray, List.getElem?_cons_zero, List.getElem?_cons_succ]; rfl) (by kernel_rfl) (by exact fun _ _ _ h => h) (by refine yields_loadP (off := 3) HA.out.blk aggKey (sizeN emptyL_ok.1) (swE fr to _ _) ?_ _ rfl rfl; rfl) (by assumption) ?_
  try simp only [Act.put, List.setIfInBounds_toArray, List.set_cons_zero, List.set_cons_succ]
  refine tkI 5 (by simp only [List.getElem?_toArray, List.getElem?_cons_zero, List.getElem?_cons_succ]; rfl) (by kernel_rfl) (by exact fun _ _ _ h => h) (by first | (exact Or.inl ⟨by rfl, by intro w hSw; (try dsimp only at hSw); go_simp; with_reducible rfl⟩) | (exact Or.inr ⟨by rfl, by rfl⟩)) (by assumption) ?_
  try simp only [Act.put, List.setIfInBounds_toArray, List.set_cons_zero, List.set_cons_succ]
  refine wpAnyH_done (by kernel_rfl) ?_ _
  have HB1 := Lib.hid (HA.out.go hHeld)
  have HK2 := Lib.hid (HKB.out.ext hHeld)
  clear hHeld HA HKB
  generalize World.drew wa = w1 at HB1 HK2 ⊢
  have cd : ∀ W, Ext w1 W → W.cell? ⟨g, 2, none⟩ = some (.slice (some ⟨gn, on, none⟩) n c) := fun W hW => (HB1.out.blk.ext hW).at_ 2 (sw2 _ _ _ _)
  have hND := HD.out
  go_wp2_with fail
  refine wp_region_held_drew (S := fun W => Ext w1 W) (by kernel_rfl) (Ext.refl _).drew (fun hHeld => ?_)
  iterate 12
    refine tkD 0 (by simp only [List.size_toArray, List.length_cons, List.length_nil]; rfl) (by simp only [List.getElem?_toArray, List.getElem?_cons_zero, List.getElem?_cons_succ]; rfl) (by kernel_rfl) (by exact fun _ _ _ h => h) (by first | (exact Or.inl ⟨by rfl, by intro w hSw; (try dsimp only at hSw); go_simp; with_reducible rfl⟩) | (exact Or.inr ⟨by rfl, by rfl⟩)) (by assumption) ?_
    try simp only [Act.put, List.setIfInBounds_toArray, List.set_cons_zero, List.set_cons_succ]
  refine tkI 12 (v := (.agg x.enc.toArray)) (by simp only [List.getElem?_toArray, List.getElem?_cons_zero, List.getElem?_cons_succ]; rfl) (by kernel_rfl) (by exact fun _ _ _ h => h) (by refine yields_loadS gn on x.enc (by rw [Nd.enc_length HOKX.out]; exact aggNodeI) (fun W hW => hND W (HB1.out.ext.trans hW)) ?_ _ rfl rfl; rfl) (by assumption) ?_
  try simp only [Act.put, List.setIfInBounds_toArray, List.set_cons_zero, List.set_cons_succ]
  refine tkI 14 (v := (.agg (numsA .u8 K))) (by simp only [List.getElem?_toArray, List.getElem?_cons_zero, List.getElem?_cons_succ]; rfl) (by kernel_rfl) (by exact fun _ _ _ h => h) (by refine yields_loadB HK2.out aggKey (sizeN hkl) ?_ _ rfl rfl; rfl) (by assumption) ?_
  try simp only [Act.put, List.setIfInBounds_toArray, List.set_cons_zero, List.set_cons_succ]
  refine wpAnyH_ready (rs := [13]) (by kernel_rfl) (by simp) (AllReadyH.cons (o := ?oy110913) ?hy110913 (fun K hK => ?sy110913) AllReadyH.nil)
  case hy110913 => simp only [List.getElem?_toArray, List.getElem?_cons_zero, List.getElem?_cons_succ]; rfl
  go_simp
  refine (nodeKey_any x HOKX.out HEX.out _).mono ?_
  rintro e w3 ⟨rfl, hx⟩
  have hH2 := hHeld.trans hx
  refine hK.out _ _ hH2 (fun _ => ?_)
  clear hHeld hK K
  have hHeld := hH2
  clear hH2
  try simp only [Act.put, List.setIfInBounds_toArray, List.set_cons_zero, List.set_cons_succ]
  try rw [show hashL 5 (nodeL x) = kN x by rw [kN]]
  iterate 2
    refine tkD 0 (by simp only [List.size_toArray, List.length_cons, List.length_nil]; rfl) (by simp only [List.getElem?_toArray, List.getElem?_cons_zero, List.getElem?_cons_succ]; rfl) (by kernel_rfl) (by exact fun _ _ _ h => h) (by first | (exact Or.inl ⟨by rfl, by intro w hSw; (try dsimp only at hSw); go_simp; with_reducible rfl⟩) | (exact Or.inr ⟨by rfl, by rfl⟩)) (by assumption) ?_
    try simp only [Act.put, List.setIfInBounds_toArray, List.set_cons_zero, List.set_cons_succ]
  refine wpAnyH_done (by kernel_rfl) ?_ _
  have HB3 := Lib.hid (HB1.out.go hHeld)
  have HK3 := Lib.hid (HK2.out.ext hHeld)
  clear hHeld cd hND HB1 HK2
  have HBa := Lib.hid (HB3.out.go (ext_alloc w3 (.cells x.enc.toArray 52)))
  have HNa := Lib.hid (Blk.new w3 52 x.enc.toArray)
  have d2 := HB3.out.blk.at_ 2 (sw2 _ _ _ _)
  have a2 := HBa.out.blk.at_ 2 (sw2 _ _ _ _)
  have c64 := HNa.out.at_ 64 (Nd.at64 HOKX.out)
  have HBb := Lib.hid (HBa.out.go (ext_alloc (World.alloc w3 (.cells x.enc.toArray 52)) (.cells #[.string x.n] 9)))
  have b2 := HBb.out.blk.at_ 2 (sw2 _ _ _ _)
  have f2 := HBb.out.blk.free 2
  go_wp2_with (first
    | (refine wpl_load ⟨gn, on, none⟩ x.enc (by rw [Nd.enc_length HOKX.out]; exact aggNodeI) rfl _ rfl rfl (fun j u hu => by rw [Addr.add_lit]; exact HD.out _ HB3.out.ext j u hu) ?_)
    | (refine wpl_storeNewB aggNodeI HST.out rfl rfl _ _ rfl rfl rfl rfl ?_)
    | (refine wpl_cut1 (sz := 66) (A := some ⟨gn, on, none⟩) (n := n) (c := c) (by kernel_rfl) (by kernel_rfl) rfl _ rfl rfl hn2 ?_; rw [HSL.out]))
  have hgn : w3.heap.size ≠ g := by have := HB3.out.blk.lt; omega
  have hgs : w3.heap.size + 1 ≠ g := by have := HB3.out.blk.lt; omega
  have HB8 := Lib.hid (show Cx 68 w0 w (World.setCell (World.alloc (World.alloc w3 (.cells x.enc.toArray 52)) (.cells #[.string x.n] 9)) ⟨g, 2, none⟩ (.slice A2 R'.length c2)) g (swCs fr to (.slice A2 R'.length c2) vO) vO vO O from by have := HBb.out.set 2 (.slice A2 R'.length c2); rwa [sw_set2] at this)
  have HN8 := Lib.hid (show Blk (World.setCell (World.alloc (World.alloc w3 (.cells x.enc.toArray 52)) (.cells #[.string x.n] 9)) ⟨g, 2, none⟩ (.slice A2 R'.length c2)) w3.heap.size 52 x.enc.toArray from (HNa.out.alloc _).far hgn _)
  have HS8 := Lib.hid (show Blk (World.setCell (World.alloc (World.alloc w3 (.cells x.enc.toArray 52)) (.cells #[.string x.n] 9)) ⟨g, 2, none⟩ (.slice A2 R'.length c2)) (w3.heap.size + 1) 9 #[.string x.n] from (Blk.new' (g := w3.heap.size + 1) (w := World.alloc w3 (.cells x.enc.toArray 52)) (by simp) 9 #[.string x.n]).far hgs _)
  have HPL := Lib.hid (hpl.cx HC.out HB8.out)
  have HPH := Lib.hid (hph.cx HC.out HB8.out)
  clear d2 a2 c64 b2 f2 HBa HBb HNa HK3
  obtain ⟨nb, hnb⟩ : ∃ nb, w3.heap.size = nb := ⟨_, rfl⟩
  rw [hnb] at HN8 HS8 hgn hgs ⊢
  generalize (World.setCell (World.alloc (World.alloc w3 (.cells x.enc.toArray 52)) (.cells #[.string x.n] 9)) ⟨g, 2, none⟩ (.slice A2 R'.length c2)) = wb at HB8 HN8 HS8 HPL HPH ⊢
  clear HB3 hnb hpl hph
  have cs8 : ∀ W, Ext wb W → W.cell? ⟨nb + 1, 0, none⟩ = some (.string x.n) := fun W hW => (HS8.out.ext hW).at_ 0 rfl
  obtain rfl : vl = .pointer none := HPL.out
  obtain ⟨hb, rfl, hhb⟩ := HPH.out
  have ch8 : ∀ W, Ext wb W → W.cell? ⟨hb, 0, none⟩ = some (.string hi) := fun W hW => (hhb.ext hW).at_ 0 rfl
  clear hhb
  refine wp_region_held_drew (S := fun W => Ext wb W) (by kernel_rfl) (Ext.refl _).drew (fun hHeld => ?_)
  iterate 20
    refine tkD 0 (by simp only [List.size_toArray, List.length_cons, List.length_nil]; rfl) (by simp only [List.getElem?_toArray, List.getElem?_cons_zero, List.getElem?_cons_succ]; rfl) (by kernel_rfl) (by exact fun _ _ _ h => h) (by first | (exact Or.inl ⟨by rfl, by intro w hSw; (try dsimp only at hSw); go_simp; with_reducible rfl⟩) | (exact Or.inr ⟨by rfl, by rfl⟩)) (by assumption) ?_
    try simp only [Act.put, List.setIfInBounds_toArray, List.set_cons_zero, List.set_cons_succ]
  refine wpAnyH_done (by kernel_rfl) ?_ _
  have HC9 := Lib.hid (HB8.out.go hHeld)
  have HN9 := Lib.hid (HN8.out.ext hHeld)
  have HS9 := Lib.hid (HS8.out.ext hHeld)
  have HPL9 := Lib.hid (HPL.out.ext hHeld)
  have HPH9 := Lib.hid (HPH.out.ext hHeld)
  clear hHeld HB8 HN8 HS8 HPL HPH cs8
  clear ch8
  generalize World.drew wb = w9 at HC9 HN9 HS9 HPL9 HPH9 ⊢
  go_wp2_with fail
  refine wp_region_held_drew (S := fun W => Ext w0 W ∧ Blk W nb 52 x.enc.toArray ∧ Blk W (nb + 1) 9 #[.string x.n] ∧ W.cell? ⟨g, 0, none⟩ = some (.string fr) ∧ W.cell? ⟨g, 1, none⟩ = some (.string to)) (by kernel_rfl) ⟨HC9.out.ext.drew, HN9.out, HS9.out, HC9.out.blk.at_ 0 (sw0 _ _ _ _), HC9.out.blk.at_ 1 (sw1 _ _ _ _)⟩ (fun hHeld => ?_)
  have HCd := Lib.hid (HC9.out.go (Ext.refl _).drew)
  have HNd := Lib.hid (HN9.out.ext (Ext.refl w9).drew)
  have HSd := Lib.hid (HS9.out.ext (Ext.refl w9).drew)
  replace HPL9 := Lib.hid (HPL9.out.ext (Ext.refl w9).drew)
  replace HPH9 := Lib.hid (HPH9.out.ext (Ext.refl w9).drew)
  generalize World.drew w9 = wd at hHeld HCd HNd HSd HPL9 HPH9 ⊢
  clear HC9 HN9 HS9
  iterate 7
    refine tkD 0 (by simp only [List.size_toArray, List.length_cons, List.length_nil]; rfl) (by simp only [List.getElem?_toArray, List.getElem?_cons_zero, List.getElem?_cons_succ]; rfl) (by kernel_rfl) (by exact fun _ _ _ h => h) (by exact Or.inl ⟨by rfl, by intro w hSw; have hn0 := hSw.2.2.1.at_ 0 rfl; have hf0 := hSw.2.2.2.1; have ht0 := hSw.2.2.2.2; go_simp; with_reducible rfl⟩) (by assumption) ?_
    try simp only [Act.put, List.setIfInBounds_toArray, List.set_cons_zero, List.set_cons_succ]
  iterate 6
    refine tkD 0 (by simp only [List.size_toArray, List.length_cons, List.length_nil]; rfl) (by simp only [List.getElem?_toArray, List.getElem?_cons_zero, List.getElem?_cons_succ]; rfl) (by kernel_rfl) (by exact fun _ _ _ h => h) (by first | (exact Or.inl ⟨by rfl, by intro w hSw; (try dsimp only at hSw); go_simp; with_reducible rfl⟩) | (exact Or.inr ⟨by rfl, by rfl⟩)) (by assumption) ?_
    try simp only [Act.put, List.setIfInBounds_toArray, List.set_cons_zero, List.set_cons_succ]
  refine tkI 13 (by simp only [List.getElem?_toArray, List.getElem?_cons_zero, List.getElem?_cons_succ]; rfl) (by kernel_rfl) (by exact fun _ _ _ h => h) (by exact Or.inl ⟨by rfl, by intro w hSw; have hn0 := hSw.2.2.1.at_ 0 rfl; have hf0 := hSw.2.2.2.1; have ht0 := hSw.2.2.2.2; go_simp; with_reducible rfl⟩) (by assumption) ?_
  try simp only [Act.put, List.setIfInBounds_toArray, List.set_cons_zero, List.set_cons_succ]
  refine wpAnyH_done (by kernel_rfl) ?_ _
  have HC11 := HCd
  have HN11 := HNd
  have HS11 := HSd
  clear hHeld HCd HNd HSd
  go_wp2_with fail
  have cn : ∀ X, Ext wd X → X.cell? ⟨nb + 1, 0, none⟩ = some (.string x.n) := fun X hX => (HS11.out.ext hX).at_ 0 rfl
  have cf : ∀ X, Ext wd X → X.cell? ⟨g, 0, none⟩ = some (.string fr) := fun X hX => (HC11.out.blk.ext hX).at_ 0 (sw0 _ _ _ _)
  have ct : ∀ X, Ext wd X → X.cell? ⟨g, 1, none⟩ = some (.string to) := fun X hX => (HC11.out.blk.ext hX).at_ 1 (sw1 _ _ _ _)
  refine wp_region_held_drew (S := fun W => Ext wd W) (by kernel_rfl) (Ext.refl _).drew (fun hHeld => ?_)
  iterate 14
    refine tkD 0 (by simp only [List.size_toArray, List.length_cons, List.length_nil]; rfl) (by simp only [List.getElem?_toArray, List.getElem?_cons_zero, List.getElem?_cons_succ]; rfl) (by kernel_rfl) (by exact fun _ _ _ h => h) (by first | (exact Or.inl ⟨by rfl, by intro w hSw; (try dsimp only at hSw); go_simp; with_reducible rfl⟩) | (exact Or.inr ⟨by rfl, by rfl⟩)) (by assumption) ?_
    try simp only [Act.put, List.setIfInBounds_toArray, List.set_cons_zero, List.set_cons_succ]
  refine wpAnyH_done (by kernel_rfl) ?_ _
  have HC12 := Lib.hid (HC11.out.go hHeld)
  have HN12 := Lib.hid (HN11.out.ext hHeld)
  have HS12 := Lib.hid (HS11.out.ext hHeld)
  replace HPL9 := Lib.hid (HPL9.out.ext hHeld)
  replace HPH9 := Lib.hid (HPH9.out.ext hHeld)
  clear hHeld HC11 HN11 HS11 cn cf ct
  generalize World.drew wd = w12 at HC12 HN12 HS12 HPL9 HPH9 ⊢
  go_wp2_with fail
  refine wp_region_held_drew (S := fun W => Ext w0 W ∧ Blk W nb 52 x.enc.toArray ∧ Blk W (nb + 1) 9 #[.string x.n] ∧ W.cell? ⟨g, 0, none⟩ = some (.string fr) ∧ W.cell? ⟨g, 1, none⟩ = some (.string to)) (by kernel_rfl) ⟨HC12.out.ext.drew, HN12.out, HS12.out, HC12.out.blk.at_ 0 (sw0 _ _ _ _), HC12.out.blk.at_ 1 (sw1 _ _ _ _)⟩ (fun hHeld => ?_)
  have HCd := Lib.hid (HC12.out.go (Ext.refl _).drew)
  have HNd := Lib.hid (HN12.out.ext (Ext.refl w12).drew)
  have HSd := Lib.hid (HS12.out.ext (Ext.refl w12).drew)
  replace HPL9 := Lib.hid (HPL9.out.ext (Ext.refl w12).drew)
  replace HPH9 := Lib.hid (HPH9.out.ext (Ext.refl w12).drew)
  generalize World.drew w12 = wd at hHeld HCd HNd HSd HPL9 HPH9 ⊢
  clear HC12 HN12 HS12
  iterate 9
    refine tkD 0 (by simp only [List.size_toArray, List.length_cons, List.length_nil]; rfl) (by simp only [List.getElem?_toArray, List.getElem?_cons_zero, List.getElem?_cons_succ]; rfl) (by kernel_rfl) (by exact fun _ _ _ h => h) (by exact Or.inl ⟨by rfl, by intro w hSw; have hn0 := hSw.2.2.1.at_ 0 rfl; have hf0 := hSw.2.2.2.1; have ht0 := hSw.2.2.2.2; go_simp; with_reducible rfl⟩) (by assumption) ?_
    try simp only [Act.put, List.setIfInBounds_toArray, List.set_cons_zero, List.set_cons_succ]
  refine tkI 9 (v := (.agg (numsA .u8 x.r))) (by simp only [List.getElem?_toArray, List.getElem?_cons_zero, List.getElem?_cons_succ]; rfl) (by kernel_rfl) (by exact fun _ _ _ h => h) (by refine yields_loadS nb 32 (nums .u8 x.r) (by rw [nums_length, HOKX.out.2.1.1]; exact aggKey) (fun W hW j u hu => hW.2.1.at_ (32 + j) (Nd.right HOKX.out j u (by rw [numsA, List.getElem?_toArray]; exact hu))) ?_ _ rfl rfl; rfl) (by assumption) ?_
  try simp only [Act.put, List.setIfInBounds_toArray, List.set_cons_zero, List.set_cons_succ]
  refine tkI 10 (by simp only [List.getElem?_toArray, List.getElem?_cons_zero, List.getElem?_cons_succ]; rfl) (by kernel_rfl) (by exact fun _ _ _ h => h) (by exact Or.inl ⟨by rfl, by intro w hSw; have hn0 := hSw.2.2.1.at_ 0 rfl; have hf0 := hSw.2.2.2.1; have ht0 := hSw.2.2.2.2; go_simp; with_reducible rfl⟩) (by assumption) ?_
  try simp only [Act.put, List.setIfInBounds_toArray, List.set_cons_zero, List.set_cons_succ]
  refine wpAnyH_ready (rs := [11]) (by kernel_rfl) (by simp) (AllReadyH.cons (o := ?oy117111) ?hy117111 (fun K hK => ?sy117111) AllReadyH.nil)
  case hy117111 => simp only [List.getElem?_toArray, List.getElem?_cons_zero, List.getElem?_cons_succ]; rfl
  go_simp
  refine (ih fr to w0 S0 x.r (some x.n) (some hi) R' (O) (Nat.le_trans hle.r hlen) (by have := hle.o; have := hle.r; simp only [List.length_append, List.length_singleton] at *; omega) (fun y hy => HOK.out y (hle.m y hy)) HOKX.out.2.1 wd g A2 c2 vO _ _ HR2.out HCd.out.again ⟨nb + 1, rfl, HSd.out⟩ HPH9.out).mono ?_
  rintro e w14 ⟨A9, n9, c9, v9, O9, he, hc, ht⟩
  rw [hs9] at he ht
  subst he
  have hH2 : Ext w0 w14 ∧ Blk w14 nb 52 x.enc.toArray ∧ Blk w14 (nb + 1) 9 #[.string x.n] ∧ w14.cell? ⟨g, 0, none⟩ = some (.string fr) ∧ w14.cell? ⟨g, 1, none⟩ = some (.string to) := ⟨hc.ext, HNd.out.cx HCd.out hc hgn (by decide), HSd.out.cx HCd.out hc hgs (by decide), hc.blk.at_ 0 (sw0 _ _ _ _), hc.blk.at_ 1 (sw1 _ _ _ _)⟩
  refine hK.out _ _ hH2 (fun _ => ?_)
  clear hK K hHeld
  have hHeld := hH2
  clear hH2
  try simp only [Act.put, List.setIfInBounds_toArray, List.set_cons_zero, List.set_cons_succ]
  iterate 2
    refine tkD 0 (by simp only [List.size_toArray, List.length_cons, List.length_nil]; rfl) (by simp only [List.getElem?_toArray, List.getElem?_cons_zero, List.getElem?_cons_succ]; rfl) (by kernel_rfl) (by exact fun _ _ _ h => h) (by exact Or.inl ⟨by rfl, by intro w hSw; have hn0 := hSw.2.2.1.at_ 0 rfl; have hf0 := hSw.2.2.2.1; have ht0 := hSw.2.2.2.2; go_simp; with_reducible rfl⟩) (by assumption) ?_
    try simp only [Act.put, List.setIfInBounds_toArray, List.set_cons_zero, List.set_cons_succ]
  refine wpAnyH_done (by kernel_rfl) ?_ _
  have HC14 := Lib.hid (HCd.out.call hc)
  have HT9 := Lib.hid ht
  clear hHeld hc ht
  go_wp2
  go_ret
  exact ⟨A9, n9, c9, v9, O9, rfl, HC14.out, HT9.out⟩
set_option maxHeartbeats 16000000 in
set_option maxRecDepth 100000 in
theorem look_nh_low_out (fr to : ByteArray) (w0 : World) (S0 : Nat → Prop) (K : List Int) (hK : K32 K) (O : List En) (x : Nd) (R' : List Nd) (hokx : x.ok) (hex : entB x.n x.v = true) (hKe : K ≠ emptyL) (h1 : kN x = K) (n : Nat) (hn : n = R'.length + 1) (f : Nat) (ih : LookC f) (hlen : R'.length ≤ f) (h64 : O.length + (R'.length + 1) ≤ 64) (hok : ∀ y ∈ R', y.ok ∧ entB y.n y.v = true) (lo hi : ByteArray) (h3 : ltB x.n hi = true) (h5 : ltB x.n fr = true) (h6 : ltB x.n to = false) (s1 : Sw) (hs1 : (⟨R', O, false⟩ : Sw) = s1) (hle : SwLe s1 ⟨R', O, false⟩)
    (w : World) (g : Nat) (A : Option Addr) (c : Nat) (vO vl vh : Value) (hr : RdL tNd w0 S0 (.slice A n c) (x :: R')) (hC : Cx 68 w0 w w g (swCs fr to (.slice A n c) vO) vO vO O) (t9 : Sw) (hpl : PtrS w vl (none : Option ByteArray)) (hph : PtrS w vh (some hi)) (HT : (⟨R', O, false⟩ : Sw) = t9)
    :
    Calls Try.prog 35 #[.pointer (some ⟨g, 0, none⟩), .agg (numsA .u8 K), vl, vh] w fun e w' => ∃ A' n' c' vO' O', e = .returned (.bool (!t9.bad)) ∧
      Cx 68 w0 w w' g (swCs fr to (.slice A' n' c') vO') vO vO' O' ∧ (t9.bad = false → n' = t9.R.length ∧ O' = t9.O ∧ RdL tNd w0 S0 (.slice A' n' c') t9.R) := by
  have hq3 : Op.bytesLess x.n.toList hi.toList = true := by rw [ltB_eq]; exact h3
  have hq4 : Op.bytesLess fr.toList x.n.toList = false := by rw [ltB_eq]; exact ltB_asymm h5
  have hq5 : Op.bytesLess x.n.toList fr.toList = true := by rw [ltB_eq]; exact h5
  have hq6 : Op.bytesLess x.n.toList to.toList = false := by rw [ltB_eq]; exact h6
  subst hs1
  have HOK := Lib.hid hok
  clear hok
  subst HT
  have hcut := RdL.cutN (k := 1) hr (by simp [hn]) (by omega)
  rw [show n - 1 = R'.length by omega, show (x :: R').drop 1 = R' from rfl, show tNd.sz = 66 from rfl] at hcut
  obtain ⟨A', c', e9, hcap, hlen', hrd, hok9⟩ := id hr
  injection e9 with e91 e92 e93
  subst e91 e93
  obtain ⟨gn, on, rfl, hs0, hcx⟩ := hrd.elem hok9 0 (by simp)
  simp only [Nat.zero_mul, Nat.add_zero, List.getElem_cons_zero] at hcx
  have HD := Lib.hid (show ∀ W, Ext w0 W → ∀ j u, x.enc[j]? = some u → W.cell? ⟨gn, on + j, none⟩ = some u from fun W hW j u hu => hW.cell (hcx j u hu))
  have HOKX := Lib.hid hokx
  have HEX := Lib.hid hex
  have hn0 : ((n : Int) == 0) = false := by rw [beq_eq_false_iff_ne]; omega
  have hn1 : (0 : Int) < (n : Int) := by omega
  have hn2 : 1 ≤ n := by omega
  have hn3 : 0 < n := by omega
  obtain ⟨A2, hA2⟩ : ∃ A2, (if c = 1 then some (⟨gn, on, none⟩ : Addr) else (some (⟨gn, on, none⟩ : Addr)).map (·.add (1 * 66))) = A2 := ⟨_, rfl⟩
  obtain ⟨c2, hc2⟩ : ∃ c2, c - 1 = c2 := ⟨_, rfl⟩
  rw [hA2, hc2] at hcut
  have HSL := Lib.hid (show (Value.slice (if c = 1 then some (⟨gn, on, none⟩ : Addr) else (some (⟨gn, on, none⟩ : Addr)).map (·.add (1 * 66))) (n - 1) (c - 1)) = .slice A2 R'.length c2 by rw [hA2, hc2, show n - 1 = R'.length by omega])
  have HR2 := Lib.hid hcut
  have HST := Lib.hid (Nd.st hokx)
  have hneq : ∀ W, (binOp .neq 28 (.agg (numsA .u8 (kN x))) (.agg (numsA .u8 K))).run Try.prog W = .ok (.bool false) W := fun W => by
    have := run_neqKey (kN x) K (kN_ok x) hK W
    rw [decide_eq_true h1] at this
    exact this
  clear h1 hn hokx hex hcx hrd hok9 hs0 hcap hlen' e92 hcut hA2 hc2
  have hkl := hK.1
  have HC := Lib.hid hC
  have HR := Lib.hid hr
  have HK := Lib.hid hK
  have heql : ∀ W, (binOp .eql 28 (.agg (numsA .u8 K)) (.agg (numsA .u8 emptyL))).run Try.prog W = .ok (.bool false) W := fun W => by
    have := run_eqKey K emptyL HK.out emptyL_ok W
    rw [decide_eq_false hKe] at this
    exact this
  clear hC hr hK hKe
  go_enter Try.func35, Try.ntmps35
  go_wp2_with fail
  have HA := Lib.hid (HC.out.go (ext_alloc w (.cells (numsA .u8 K) 28)))
  have HKB := Lib.hid (Blk.new w 28 (numsA .u8 K))
  generalize w.alloc (.cells (numsA .u8 K) 28) = wa at HA HKB ⊢
  refine wp_region_held_drew (S := fun W => Ext wa W) (by kernel_rfl) (Ext.refl _).drew (fun hHeld => ?_)
  refine tkI 0 (v := (.agg (numsA .u8 K))) (by simp only [List.getElem?_toArray, List.getElem?_cons_zero, List.getElem?_cons_succ]; rfl) (by kernel_rfl) (by exact fun _ _ _ h => h) (by refine yields_loadB HKB.out aggKey (sizeN hkl) ?_ _ rfl rfl; rfl) (by assumption) ?_
  try simp only [Act.put, List.setIfInBounds_toArray, List.set_cons_zero, List.set_cons_succ]
  iterate 3
    refine tkD 0 (by simp only [List.size_toArray, List.length_cons, List.length_nil]; rfl) (by simp only [List.getElem?_toArray, List.getElem?_cons_zero, List.getElem?_cons_succ]; rfl) (by kernel_rfl) (by exact fun _ _ _ h => h) (by first | (exact Or.inl ⟨by rfl, by intro w hSw; (try dsimp only at hSw); go_simp; with_reducible rfl⟩) | (exact Or.inr ⟨by rfl, by rfl⟩)) (by assumption) ?_
    try simp only [Act.put, List.setIfInBounds_toArray, List.set_cons_zero, List.set_cons_succ]
  refine tkI 4 (v := (.agg (numsA .u8 emptyL))) (by simp only [List.getElem?_toArray, List.getElem?_cons_zero, List.getElem?_cons_succ]; rfl) (by kernel_rfl) (by exact fun _ _ _ h => h) (by refine yields_loadP (off := 3) HA.out.blk aggKey (sizeN emptyL_ok.1) (swE fr to _ _) ?_ _ rfl rfl; rfl) (by assumption) ?_
  try simp only [Act.put, List.setIfInBounds_toArray, List.set_cons_zero, List.set_cons_succ]
  refine tkI 5 (by simp only [List.getElem?_toArray, List.getElem?_cons_zero, List.getElem?_cons_succ]; rfl) (by kernel_rfl) (by exact fun _ _ _ h => h) (by first | (exact Or.inl ⟨by rfl, by intro w hSw; (try dsimp only at hSw); go_simp; with_reducible rfl⟩) | (exact Or.inr ⟨by rfl, by rfl⟩)) (by assumption) ?_
  try simp only [Act.put, List.setIfInBounds_toArray, List.set_cons_zero, List.set_cons_succ]
  refine wpAnyH_done (by kernel_rfl) ?_ _
  have HB1 := Lib.hid (HA.out.go hHeld)
  have HK2 := Lib.hid (HKB.out.ext hHeld)
  clear hHeld HA HKB
  generalize World.drew wa = w1 at HB1 HK2 ⊢
  have cd : ∀ W, Ext w1 W → W.cell? ⟨g, 2, none⟩ = some (.slice (some ⟨gn, on, none⟩) n c) := fun W hW => (HB1.out.blk.ext hW).at_ 2 (sw2 _ _ _ _)
  have hND := HD.out
  go_wp2_with fail
  refine wp_region_held_drew (S := fun W => Ext w1 W) (by kernel_rfl) (Ext.refl _).drew (fun hHeld => ?_)
  iterate 12
    refine tkD 0 (by simp only [List.size_toArray, List.length_cons, List.length_nil]; rfl) (by simp only [List.getElem?_toArray, List.getElem?_cons_zero, List.getElem?_cons_succ]; rfl) (by kernel_rfl) (by exact fun _ _ _ h => h) (by first | (exact Or.inl ⟨by rfl, by intro w hSw; (try dsimp only at hSw); go_simp; with_reducible rfl⟩) | (exact Or.inr ⟨by rfl, by rfl⟩)) (by assumption) ?_
    try simp only [Act.put, List.setIfInBounds_toArray, List.set_cons_zero, List.set_cons_succ]
  refine tkI 12 (v := (.agg x.enc.toArray)) (by simp only [List.getElem?_toArray, List.getElem?_cons_zero, List.getElem?_cons_succ]; rfl) (by kernel_rfl) (by exact fun _ _ _ h => h) (by refine yields_loadS gn on x.enc (by rw [Nd.enc_length HOKX.out]; exact aggNodeI) (fun W hW => hND W (HB1.out.ext.trans hW)) ?_ _ rfl rfl; rfl) (by assumption) ?_
  try simp only [Act.put, List.setIfInBounds_toArray, List.set_cons_zero, List.set_cons_succ]
  refine tkI 14 (v := (.agg (numsA .u8 K))) (by simp only [List.getElem?_toArray, List.getElem?_cons_zero, List.getElem?_cons_succ]; rfl) (by kernel_rfl) (by exact fun _ _ _ h => h) (by refine yields_loadB HK2.out aggKey (sizeN hkl) ?_ _ rfl rfl; rfl) (by assumption) ?_
  try simp only [Act.put, List.setIfInBounds_toArray, List.set_cons_zero, List.set_cons_succ]
  refine wpAnyH_ready (rs := [13]) (by kernel_rfl) (by simp) (AllReadyH.cons (o := ?oy119413) ?hy119413 (fun K hK => ?sy119413) AllReadyH.nil)
  case hy119413 => simp only [List.getElem?_toArray, List.getElem?_cons_zero, List.getElem?_cons_succ]; rfl
  go_simp
  refine (nodeKey_any x HOKX.out HEX.out _).mono ?_
  rintro e w3 ⟨rfl, hx⟩
  have hH2 := hHeld.trans hx
  refine hK.out _ _ hH2 (fun _ => ?_)
  clear hHeld hK K
  have hHeld := hH2
  clear hH2
  try simp only [Act.put, List.setIfInBounds_toArray, List.set_cons_zero, List.set_cons_succ]
  try rw [show hashL 5 (nodeL x) = kN x by rw [kN]]
  iterate 2
    refine tkD 0 (by simp only [List.size_toArray, List.length_cons, List.length_nil]; rfl) (by simp only [List.getElem?_toArray, List.getElem?_cons_zero, List.getElem?_cons_succ]; rfl) (by kernel_rfl) (by exact fun _ _ _ h => h) (by first | (exact Or.inl ⟨by rfl, by intro w hSw; (try dsimp only at hSw); go_simp; with_reducible rfl⟩) | (exact Or.inr ⟨by rfl, by rfl⟩)) (by assumption) ?_
    try simp only [Act.put, List.setIfInBounds_toArray, List.set_cons_zero, List.set_cons_succ]
  refine wpAnyH_done (by kernel_rfl) ?_ _
  have HB3 := Lib.hid (HB1.out.go hHeld)
  have HK3 := Lib.hid (HK2.out.ext hHeld)
  clear hHeld cd hND HB1 HK2
  have HBa := Lib.hid (HB3.out.go (ext_alloc w3 (.cells x.enc.toArray 52)))
  have HNa := Lib.hid (Blk.new w3 52 x.enc.toArray)
  have d2 := HB3.out.blk.at_ 2 (sw2 _ _ _ _)
  have a2 := HBa.out.blk.at_ 2 (sw2 _ _ _ _)
  have c64 := HNa.out.at_ 64 (Nd.at64 HOKX.out)
  have HBb := Lib.hid (HBa.out.go (ext_alloc (World.alloc w3 (.cells x.enc.toArray 52)) (.cells #[.string x.n] 9)))
  have b2 := HBb.out.blk.at_ 2 (sw2 _ _ _ _)
  have f2 := HBb.out.blk.free 2
  go_wp2_with (first
    | (refine wpl_load ⟨gn, on, none⟩ x.enc (by rw [Nd.enc_length HOKX.out]; exact aggNodeI) rfl _ rfl rfl (fun j u hu => by rw [Addr.add_lit]; exact HD.out _ HB3.out.ext j u hu) ?_)
    | (refine wpl_storeNewB aggNodeI HST.out rfl rfl _ _ rfl rfl rfl rfl ?_)
    | (refine wpl_cut1 (sz := 66) (A := some ⟨gn, on, none⟩) (n := n) (c := c) (by kernel_rfl) (by kernel_rfl) rfl _ rfl rfl hn2 ?_; rw [HSL.out]))
  have hgn : w3.heap.size ≠ g := by have := HB3.out.blk.lt; omega
  have hgs : w3.heap.size + 1 ≠ g := by have := HB3.out.blk.lt; omega
  have HB8 := Lib.hid (show Cx 68 w0 w (World.setCell (World.alloc (World.alloc w3 (.cells x.enc.toArray 52)) (.cells #[.string x.n] 9)) ⟨g, 2, none⟩ (.slice A2 R'.length c2)) g (swCs fr to (.slice A2 R'.length c2) vO) vO vO O from by have := HBb.out.set 2 (.slice A2 R'.length c2); rwa [sw_set2] at this)
  have HN8 := Lib.hid (show Blk (World.setCell (World.alloc (World.alloc w3 (.cells x.enc.toArray 52)) (.cells #[.string x.n] 9)) ⟨g, 2, none⟩ (.slice A2 R'.length c2)) w3.heap.size 52 x.enc.toArray from (HNa.out.alloc _).far hgn _)
  have HS8 := Lib.hid (show Blk (World.setCell (World.alloc (World.alloc w3 (.cells x.enc.toArray 52)) (.cells #[.string x.n] 9)) ⟨g, 2, none⟩ (.slice A2 R'.length c2)) (w3.heap.size + 1) 9 #[.string x.n] from (Blk.new' (g := w3.heap.size + 1) (w := World.alloc w3 (.cells x.enc.toArray 52)) (by simp) 9 #[.string x.n]).far hgs _)
  have HPL := Lib.hid (hpl.cx HC.out HB8.out)
  have HPH := Lib.hid (hph.cx HC.out HB8.out)
  clear d2 a2 c64 b2 f2 HBa HBb HNa HK3
  obtain ⟨nb, hnb⟩ : ∃ nb, w3.heap.size = nb := ⟨_, rfl⟩
  rw [hnb] at HN8 HS8 hgn hgs ⊢
  generalize (World.setCell (World.alloc (World.alloc w3 (.cells x.enc.toArray 52)) (.cells #[.string x.n] 9)) ⟨g, 2, none⟩ (.slice A2 R'.length c2)) = wb at HB8 HN8 HS8 HPL HPH ⊢
  clear HB3 hnb hpl hph
  have cs8 : ∀ W, Ext wb W → W.cell? ⟨nb + 1, 0, none⟩ = some (.string x.n) := fun W hW => (HS8.out.ext hW).at_ 0 rfl
  obtain rfl : vl = .pointer none := HPL.out
  obtain ⟨hb, rfl, hhb⟩ := HPH.out
  have ch8 : ∀ W, Ext wb W → W.cell? ⟨hb, 0, none⟩ = some (.string hi) := fun W hW => (hhb.ext hW).at_ 0 rfl
  clear hhb
  refine wp_region_held_drew (S := fun W => Ext wb W) (by kernel_rfl) (Ext.refl _).drew (fun hHeld => ?_)
  iterate 20
    refine tkD 0 (by simp only [List.size_toArray, List.length_cons, List.length_nil]; rfl) (by simp only [List.getElem?_toArray, List.getElem?_cons_zero, List.getElem?_cons_succ]; rfl) (by kernel_rfl) (by exact fun _ _ _ h => h) (by first | (exact Or.inl ⟨by rfl, by intro w hSw; (try dsimp only at hSw); go_simp; with_reducible rfl⟩) | (exact Or.inr ⟨by rfl, by rfl⟩)) (by assumption) ?_
    try simp only [Act.put, List.setIfInBounds_toArray, List.set_cons_zero, List.set_cons_succ]
  refine wpAnyH_done (by kernel_rfl) ?_ _
  have HC9 := Lib.hid (HB8.out.go hHeld)
  have HN9 := Lib.hid (HN8.out.ext hHeld)
  have HS9 := Lib.hid (HS8.out.ext hHeld)
  have HPL9 := Lib.hid (HPL.out.ext hHeld)
  have HPH9 := Lib.hid (HPH.out.ext hHeld)
  clear hHeld HB8 HN8 HS8 HPL HPH cs8
  clear ch8
  generalize World.drew wb = w9 at HC9 HN9 HS9 HPL9 HPH9 ⊢
  go_wp2_with fail
  refine wp_region_held_drew (S := fun W => Ext w0 W ∧ Blk W nb 52 x.enc.toArray ∧ Blk W (nb + 1) 9 #[.string x.n] ∧ W.cell? ⟨g, 0, none⟩ = some (.string fr) ∧ W.cell? ⟨g, 1, none⟩ = some (.string to)) (by kernel_rfl) ⟨HC9.out.ext.drew, HN9.out, HS9.out, HC9.out.blk.at_ 0 (sw0 _ _ _ _), HC9.out.blk.at_ 1 (sw1 _ _ _ _)⟩ (fun hHeld => ?_)
  have HCd := Lib.hid (HC9.out.go (Ext.refl _).drew)
  have HNd := Lib.hid (HN9.out.ext (Ext.refl w9).drew)
  have HSd := Lib.hid (HS9.out.ext (Ext.refl w9).drew)
  replace HPL9 := Lib.hid (HPL9.out.ext (Ext.refl w9).drew)
  replace HPH9 := Lib.hid (HPH9.out.ext (Ext.refl w9).drew)
  generalize World.drew w9 = wd at hHeld HCd HNd HSd HPL9 HPH9 ⊢
  clear HC9 HN9 HS9
  iterate 7
    refine tkD 0 (by simp only [List.size_toArray, List.length_cons, List.length_nil]; rfl) (by simp only [List.getElem?_toArray, List.getElem?_cons_zero, List.getElem?_cons_succ]; rfl) (by kernel_rfl) (by exact fun _ _ _ h => h) (by exact Or.inl ⟨by rfl, by intro w hSw; have hn0 := hSw.2.2.1.at_ 0 rfl; have hf0 := hSw.2.2.2.1; have ht0 := hSw.2.2.2.2; go_simp; with_reducible rfl⟩) (by assumption) ?_
    try simp only [Act.put, List.setIfInBounds_toArray, List.set_cons_zero, List.set_cons_succ]
  iterate 6
    refine tkD 0 (by simp only [List.size_toArray, List.length_cons, List.length_nil]; rfl) (by simp only [List.getElem?_toArray, List.getElem?_cons_zero, List.getElem?_cons_succ]; rfl) (by kernel_rfl) (by exact fun _ _ _ h => h) (by first | (exact Or.inl ⟨by rfl, by intro w hSw; (try dsimp only at hSw); go_simp; with_reducible rfl⟩) | (exact Or.inr ⟨by rfl, by rfl⟩)) (by assumption) ?_
    try simp only [Act.put, List.setIfInBounds_toArray, List.set_cons_zero, List.set_cons_succ]
  refine tkI 13 (by simp only [List.getElem?_toArray, List.getElem?_cons_zero, List.getElem?_cons_succ]; rfl) (by kernel_rfl) (by exact fun _ _ _ h => h) (by exact Or.inl ⟨by rfl, by intro w hSw; have hn0 := hSw.2.2.1.at_ 0 rfl; have hf0 := hSw.2.2.2.1; have ht0 := hSw.2.2.2.2; go_simp; with_reducible rfl⟩) (by assumption) ?_
  try simp only [Act.put, List.setIfInBounds_toArray, List.set_cons_zero, List.set_cons_succ]
  refine wpAnyH_done (by kernel_rfl) ?_ _
  have HC11 := HCd
  have HN11 := HNd
  have HS11 := HSd
  clear hHeld HCd HNd HSd
  go_wp2_with fail
  have cn : ∀ X, Ext wd X → X.cell? ⟨nb + 1, 0, none⟩ = some (.string x.n) := fun X hX => (HS11.out.ext hX).at_ 0 rfl
  have cf : ∀ X, Ext wd X → X.cell? ⟨g, 0, none⟩ = some (.string fr) := fun X hX => (HC11.out.blk.ext hX).at_ 0 (sw0 _ _ _ _)
  have ct : ∀ X, Ext wd X → X.cell? ⟨g, 1, none⟩ = some (.string to) := fun X hX => (HC11.out.blk.ext hX).at_ 1 (sw1 _ _ _ _)
  refine wp_region_held_drew (S := fun W => Ext wd W) (by kernel_rfl) (Ext.refl _).drew (fun hHeld => ?_)
  iterate 14
    refine tkD 0 (by simp only [List.size_toArray, List.length_cons, List.length_nil]; rfl) (by simp only [List.getElem?_toArray, List.getElem?_cons_zero, List.getElem?_cons_succ]; rfl) (by kernel_rfl) (by exact fun _ _ _ h => h) (by first | (exact Or.inl ⟨by rfl, by intro w hSw; (try dsimp only at hSw); go_simp; with_reducible rfl⟩) | (exact Or.inr ⟨by rfl, by rfl⟩)) (by assumption) ?_
    try simp only [Act.put, List.setIfInBounds_toArray, List.set_cons_zero, List.set_cons_succ]
  refine wpAnyH_done (by kernel_rfl) ?_ _
  have HC12 := Lib.hid (HC11.out.go hHeld)
  have HN12 := Lib.hid (HN11.out.ext hHeld)
  have HS12 := Lib.hid (HS11.out.ext hHeld)
  replace HPL9 := Lib.hid (HPL9.out.ext hHeld)
  replace HPH9 := Lib.hid (HPH9.out.ext hHeld)
  clear hHeld HC11 HN11 HS11 cn cf ct
  generalize World.drew wd = w12 at HC12 HN12 HS12 HPL9 HPH9 ⊢
  go_wp2_with fail
  refine wp_region_held_drew (S := fun W => Ext w0 W ∧ Blk W nb 52 x.enc.toArray ∧ Blk W (nb + 1) 9 #[.string x.n] ∧ W.cell? ⟨g, 0, none⟩ = some (.string fr) ∧ W.cell? ⟨g, 1, none⟩ = some (.string to)) (by kernel_rfl) ⟨HC12.out.ext.drew, HN12.out, HS12.out, HC12.out.blk.at_ 0 (sw0 _ _ _ _), HC12.out.blk.at_ 1 (sw1 _ _ _ _)⟩ (fun hHeld => ?_)
  have HCd := Lib.hid (HC12.out.go (Ext.refl _).drew)
  have HNd := Lib.hid (HN12.out.ext (Ext.refl w12).drew)
  have HSd := Lib.hid (HS12.out.ext (Ext.refl w12).drew)
  replace HPL9 := Lib.hid (HPL9.out.ext (Ext.refl w12).drew)
  replace HPH9 := Lib.hid (HPH9.out.ext (Ext.refl w12).drew)
  generalize World.drew w12 = wd at hHeld HCd HNd HSd HPL9 HPH9 ⊢
  clear HC12 HN12 HS12
  iterate 7
    refine tkD 0 (by simp only [List.size_toArray, List.length_cons, List.length_nil]; rfl) (by simp only [List.getElem?_toArray, List.getElem?_cons_zero, List.getElem?_cons_succ]; rfl) (by kernel_rfl) (by exact fun _ _ _ h => h) (by exact Or.inl ⟨by rfl, by intro w hSw; have hn0 := hSw.2.2.1.at_ 0 rfl; have hf0 := hSw.2.2.2.1; have ht0 := hSw.2.2.2.2; go_simp; with_reducible rfl⟩) (by assumption) ?_
    try simp only [Act.put, List.setIfInBounds_toArray, List.set_cons_zero, List.set_cons_succ]
  iterate 5
    refine tkD 0 (by simp only [List.size_toArray, List.length_cons, List.length_nil]; rfl) (by simp only [List.getElem?_toArray, List.getElem?_cons_zero, List.getElem?_cons_succ]; rfl) (by kernel_rfl) (by exact fun _ _ _ h => h) (by first | (exact Or.inl ⟨by rfl, by intro w hSw; (try dsimp only at hSw); go_simp; with_reducible rfl⟩) | (exact Or.inr ⟨by rfl, by rfl⟩)) (by assumption) ?_
    try simp only [Act.put, List.setIfInBounds_toArray, List.set_cons_zero, List.set_cons_succ]
  iterate 2
    refine tkD 0 (by simp only [List.size_toArray, List.length_cons, List.length_nil]; rfl) (by simp only [List.getElem?_toArray, List.getElem?_cons_zero, List.getElem?_cons_succ]; rfl) (by kernel_rfl) (by exact fun _ _ _ h => h) (by exact Or.inl ⟨by rfl, by intro w hSw; have hn0 := hSw.2.2.1.at_ 0 rfl; have hf0 := hSw.2.2.2.1; have ht0 := hSw.2.2.2.2; go_simp; with_reducible rfl⟩) (by assumption) ?_
    try simp only [Act.put, List.setIfInBounds_toArray, List.set_cons_zero, List.set_cons_succ]
  refine wpAnyH_done (by kernel_rfl) ?_ _
  clear hHeld
  go_wp2
  go_ret
  exact ⟨A2, _, c2, vO, _, rfl, HCd.out, fun _ => ⟨rfl, rfl, HR2.out⟩⟩
end Go.Proofs.Ytipeaoanhcjnjaa
