/- What the walk of the law FnExactCheckRangeOfMap needs, part 4 of 9. No condition. -/
import Derived.Test.YtipeaoanhcjnjaaPFnExactCheckRangeOfMap3
/- The reference's walk over nodes that tell a range, at a node. No condition. -/
namespace Go.Proofs.Ytipeaoanhcjnjaa
open Go.RowKit
set_option linter.unusedVariables false
set_option linter.unusedSimpArgs false


set_option maxHeartbeats 16000000 in
set_option maxRecDepth 100000 in
theorem tree_b_low_in (f : Nat) (ih : TreeC f) (fr to : ByteArray) (w0 : World) (S0 : Nat → Prop) (K : List Int) (lo hi : ByteArray) (b : Bool) (x : Nd) (R' : List Nd) (O : List En) (hlen : R'.length ≤ f) (h64 : O.length + (R'.length + 1) ≤ 64) (hokx : x.ok) (hex : entB x.n x.v = true) (hok : ∀ y ∈ R', y.ok ∧ entB y.n y.v = true) (hKe : K ≠ emptyL) (hK : K32 K) (h1 : kN x = K) (h2 : ltB lo x.n = true) (hb : b = true) (h3 : ltB x.n hi = true) (h5 : ltB x.n fr = true) (h6 : ltB x.n to = true) (s1 : Sw) (hs1 : (⟨R', O, false⟩ : Sw) = s1) (hle : SwLe s1 ⟨R', O, false⟩)
    (w : World) (g : Nat) (A : Option Addr) (n c : Nat) (hn : n = R'.length + 1) (vO : Value) (hr : RdL tNd w0 S0 (.slice A n c) (x :: R')) (hC : Cx 62 w0 w w g #[.string fr, .string to, .slice A n c, vO, .bool false] vO vO O) (s9 : Sw) (hs9 : tr fr to f x.r x.n hi b (⟨R', O, false⟩ : Sw) = s9) :
    Calls Try.prog 31 #[.pointer (some ⟨g, 0, none⟩), .agg (numsA .u8 K), .string lo, .string hi, .bool b] w fun e w' => ∃ A' c' vO', e = .returned (.tuple #[]) ∧ RdL tNd w0 S0 (.slice A' s9.R.length c') s9.R ∧
      Cx 62 w0 w w' g #[.string fr, .string to, .slice A' s9.R.length c', vO', .bool s9.bad] vO vO' s9.O := by
  have HXE := Lib.hid (show tEnt.ok (x.n, x.v) from hokx.2.2)
  subst hs1
  have HC := Lib.hid hC
  have HOKX := Lib.hid hokx
  have HEX := Lib.hid hex
  have HOK := Lib.hid hok
  have hkl := hK.1
  have HK := Lib.hid hK
  have heql : ∀ W, (binOp .eql 28 (.agg (numsA .u8 K)) (.agg (numsA .u8 emptyL))).run Try.prog W = .ok (.bool false) W := fun W => by
    have := run_eqKey K emptyL hK emptyL_ok W
    rw [decide_eq_false hKe] at this
    exact this
  obtain ⟨A', c', e9, hcap, hlen', hrd, hok9⟩ := id hr
  injection e9 with e91 e92 e93
  subst e91 e93
  obtain ⟨gn, on, rfl, hs0, hcx⟩ := hrd.elem hok9 0 (by simp)
  simp only [Nat.zero_mul, Nat.add_zero, List.getElem_cons_zero] at hcx
  have HD := Lib.hid (show ∀ W, Ext w0 W → ∀ j u, x.enc[j]? = some u → W.cell? ⟨gn, on + j, none⟩ = some u from fun W hW j u hu => hW.cell (hcx j u hu))
  have hcut := RdL.cutN (k := 1) hr (by simp [hn]) (by omega)
  rw [show n - 1 = R'.length by omega, show (x :: R').drop 1 = R' from rfl, show tNd.sz = 66 from rfl] at hcut
  obtain ⟨A2, hA2⟩ : ∃ A2, (if c = 1 then some (⟨gn, on, none⟩ : Addr) else (some (⟨gn, on, none⟩ : Addr)).map (·.add (1 * 66))) = A2 := ⟨_, rfl⟩
  obtain ⟨c2, hc2⟩ : ∃ c2, c - 1 = c2 := ⟨_, rfl⟩
  rw [hA2, hc2] at hcut
  have HSL := Lib.hid (show (Value.slice (if c = 1 then some (⟨gn, on, none⟩ : Addr) else (some (⟨gn, on, none⟩ : Addr)).map (·.add (1 * 66))) (n - 1) (c - 1)) = .slice A2 R'.length c2 by rw [hA2, hc2, show n - 1 = R'.length by omega])
  have HR2 := Lib.hid hcut
  have hn0 : ((n : Int) == 0) = false := by rw [beq_eq_false_iff_ne]; omega
  have hn1 : (0 : Int) < (n : Int) := by omega
  have hn2 : 1 ≤ n := by omega
  have HN := Lib.hid hn
  obtain ⟨m, hm⟩ : ∃ m, R'.length = m := ⟨_, rfl⟩
  have HM := Lib.hid hm
  have HST := Lib.hid (Nd.st hokx)
  have HGB := Lib.hid (show w0.heap.size ≤ g ∧ g < w.heap.size from ⟨hC.base, hC.lt⟩)
  have hneq : ∀ W, (binOp .neq 28 (.agg (numsA .u8 (kN x))) (.agg (numsA .u8 K))).run Try.prog W = .ok (.bool false) W := fun W => by
    have := run_neqKey (kN x) K (kN_ok x) HK.out W
    rw [decide_eq_true h1] at this
    exact this
  subst hb
  have hq1 : Op.bytesLess x.n.toList lo.toList = false := by rw [ltB_eq]; exact ltB_asymm h2
  have hq2 : (x.n.toList == lo.toList) = false := by rw [beq_eq_false_iff_ne]; exact fun e => ltB_ne h2 (toList_inj e).symm
  have hq3 : Op.bytesLess x.n.toList hi.toList = true := by rw [ltB_eq]; exact h3
  have hq4 : Op.bytesLess fr.toList x.n.toList = false := by rw [ltB_eq]; exact ltB_asymm h5
  have hq5 : Op.bytesLess x.n.toList fr.toList = true := by rw [ltB_eq]; exact h5
  have hq6 : Op.bytesLess x.n.toList to.toList = true := by rw [ltB_eq]; exact h6
  clear hr hokx hex hok hcx hrd hok9 hcut hA2 hc2 hs0 hcap hlen' e92 hn hC hm h1
  have c0 := HC.out.blk.at_ 0 rfl
  have c1 := HC.out.blk.at_ 1 rfl
  have c2 := HC.out.blk.at_ 2 rfl
  have c3 := HC.out.blk.at_ 3 rfl
  have c4 := HC.out.blk.at_ 4 rfl
  have f2 := HC.out.blk.free 2
  have f3 := HC.out.blk.free 3
  have f4 := HC.out.blk.free 4
  go_enter Try.func31, Try.ntmps31
  go_wp2_with fail
  have HA := Lib.hid (HC.out.go (ext_alloc w (.cells (numsA .u8 K) 28)))
  have HKB := Lib.hid (Blk.new w 28 (numsA .u8 K))
  clear c0 c1 c2 c3 c4 f2 f3 f4
  generalize w.alloc (.cells (numsA .u8 K) 28) = wa at HA HKB ⊢
  have cd : ∀ W, Ext wa W → W.cell? ⟨g, 4, none⟩ = some (.bool false) := fun W hW => (HA.out.blk.ext hW).at_ 4 rfl
  refine wp_region_held_drew (S := fun W => Ext wa W) (by kernel_rfl) (Ext.refl _).drew (fun hHeld => ?_)
  iterate 5
    refine tkD 0 (by simp only [List.size_toArray, List.length_cons, List.length_nil]; rfl) (by simp only [List.getElem?_toArray, List.getElem?_cons_zero, List.getElem?_cons_succ]; rfl) (by kernel_rfl) (by exact fun _ _ _ h => h) (by first | (exact Or.inl ⟨by rfl, by intro w hSw; (try dsimp only at hSw); go_simp; with_reducible rfl⟩) | (exact Or.inr ⟨by rfl, by rfl⟩)) (by assumption) ?_
    try simp only [Act.put, List.setIfInBounds_toArray, List.set_cons_zero, List.set_cons_succ]
  refine tkI 5 (v := (.agg (numsA .u8 K))) (by simp only [List.getElem?_toArray, List.getElem?_cons_zero, List.getElem?_cons_succ]; rfl) (by kernel_rfl) (by exact fun _ _ _ h => h) (by refine yields_loadB HKB.out aggKey (sizeN hkl) ?_ _ rfl rfl; rfl) (by assumption) ?_
  try simp only [Act.put, List.setIfInBounds_toArray, List.set_cons_zero, List.set_cons_succ]
  refine wpAnyH_ready (rs := [6]) (by kernel_rfl) (by simp) (AllReadyH.cons (o := ?oy2416) ?hy2416 (fun K hK => ?sy2416) AllReadyH.nil)
  case hy2416 => simp only [List.getElem?_toArray, List.getElem?_cons_zero, List.getElem?_cons_succ]; rfl
  go_simp
  refine (l04Empty_any _).mono ?_
  rintro e w9 ⟨rfl, hx⟩
  have hH2 := hHeld.trans hx
  refine hK.out _ _ hH2 (fun _ => ?_)
  clear hHeld hK K
  have hHeld := hH2
  clear hH2
  try simp only [Act.put, List.setIfInBounds_toArray, List.set_cons_zero, List.set_cons_succ]
  iterate 2
    refine tkD 0 (by simp only [List.size_toArray, List.length_cons, List.length_nil]; rfl) (by simp only [List.getElem?_toArray, List.getElem?_cons_zero, List.getElem?_cons_succ]; rfl) (by kernel_rfl) (by exact fun _ _ _ h => h) (by first | (exact Or.inl ⟨by rfl, by intro w hSw; (try dsimp only at hSw); go_simp; with_reducible rfl⟩) | (exact Or.inr ⟨by rfl, by rfl⟩)) (by assumption) ?_
    try simp only [Act.put, List.setIfInBounds_toArray, List.set_cons_zero, List.set_cons_succ]
  refine wpAnyH_done (by kernel_rfl) ?_ _
  have hAx := HA.out.go hHeld
  have HK2 := Lib.hid (HKB.out.ext hHeld)
  clear cd hHeld
  revert hAx HK2
  skip
  intro hAx HK2
  have HB1 := Lib.hid hAx
  clear hAx HA HKB
  have HBa := Lib.hid (HB1.out.go (ext_alloc w9 (.cells x.enc.toArray 52)))
  have HNa := Lib.hid (Blk.new w9 52 x.enc.toArray)
  have hgn : w9.heap.size ≠ g := by have := HB1.out.blk.lt; omega
  have HBb := Lib.hid (show Cx 62 w0 w ((World.alloc w9 (.cells x.enc.toArray 52)).setCell ⟨g, 2, none⟩ (.slice A2 R'.length c2)) g #[.string fr, .string to, .slice A2 R'.length c2, vO, .bool false] vO vO O from HBa.out.set 2 _)
  have HNb := Lib.hid (show Blk ((World.alloc w9 (.cells x.enc.toArray 52)).setCell ⟨g, 2, none⟩ (.slice A2 R'.length c2)) w9.heap.size 52 x.enc.toArray from HNa.out.far hgn _)
  have HKb := Lib.hid (show Blk ((World.alloc w9 (.cells x.enc.toArray 52)).setCell ⟨g, 2, none⟩ (.slice A2 R'.length c2)) w.heap.size 28 (numsA .u8 K) from (HK2.out.alloc _).far (by have := HGB.out; show w.heap.size ≠ g; omega) _)
  have d2 := HB1.out.blk.at_ 2 rfl
  have e2 := HBa.out.blk.at_ 2 rfl
  have f2 := HBa.out.blk.free 2
  have c64 := HNb.out.at_ 64 (Nd.at64 HOKX.out)
  go_wp2_with (first
    | (refine wpl_load ⟨gn, on, none⟩ x.enc (by rw [Nd.enc_length HOKX.out]; exact aggNodeI) rfl _ rfl rfl (fun j u hu => by rw [Addr.add_lit]; exact HD.out _ HB1.out.ext j u hu) ?_)
    | (refine wpl_storeNewB aggNodeI HST.out rfl rfl _ _ rfl rfl rfl rfl ?_)
    | (refine wpl_cut1 (sz := 66) (A := some ⟨gn, on, none⟩) (n := n) (c := c) (by kernel_rfl) (by kernel_rfl) rfl _ rfl rfl hn2 ?_; rw [HSL.out]))
  obtain ⟨nb, hnb⟩ : ∃ nb, w9.heap.size = nb := ⟨_, rfl⟩
  rw [hnb] at HNb hgn ⊢
  generalize (World.alloc w9 (.cells x.enc.toArray 52)).setCell ⟨g, 2, none⟩ (.slice A2 R'.length c2) = wb at HBb HNb HKb ⊢
  clear d2 e2 f2 c64 HBa HNa hnb HB1 HK2
  refine wp_region_held_drew (S := fun W => Ext wb W) (by kernel_rfl) (Ext.refl _).drew (fun hHeld => ?_)
  refine tkI 1 (v := (.agg (numsA .u8 K))) (by simp only [List.getElem?_toArray, List.getElem?_cons_zero, List.getElem?_cons_succ]; rfl) (by kernel_rfl) (by exact fun _ _ _ h => h) (by refine yields_loadB HKb.out aggKey (sizeN hkl) ?_ _ rfl rfl; rfl) (by assumption) ?_
  try simp only [Act.put, List.setIfInBounds_toArray, List.set_cons_zero, List.set_cons_succ]
  refine wpAnyH_ready (rs := [0]) (by kernel_rfl) (by simp) (AllReadyH.cons (o := ?oy2450) ?hy2450 (fun K hK => ?sy2450) AllReadyH.nil)
  case hy2450 => simp only [List.getElem?_toArray, List.getElem?_cons_zero, List.getElem?_cons_succ]; rfl
  go_simp
  refine (l04NodeKey_any x HOKX.out HEX.out nb _ (HNb.out.ext hHeld)).mono ?_
  rintro e w7 ⟨rfl, hx⟩
  have hH2 := hHeld.trans hx
  refine hK.out _ _ hH2 (fun _ => ?_)
  clear hHeld hK K
  have hHeld := hH2
  clear hH2
  try simp only [Act.put, List.setIfInBounds_toArray, List.set_cons_zero, List.set_cons_succ]
  try rw [show hashL 5 (nodeL x) = kN x by rw [kN]]
  iterate 14
    refine tkD 0 (by simp only [List.size_toArray, List.length_cons, List.length_nil]; rfl) (by simp only [List.getElem?_toArray, List.getElem?_cons_zero, List.getElem?_cons_succ]; rfl) (by kernel_rfl) (by exact fun _ _ _ h => h) (by first | (exact Or.inl ⟨by rfl, by intro w hSw; (try dsimp only at hSw); go_simp; with_reducible rfl⟩) | (exact Or.inr ⟨by rfl, by rfl⟩)) (by assumption) ?_
    try simp only [Act.put, List.setIfInBounds_toArray, List.set_cons_zero, List.set_cons_succ]
  refine wpAnyH_done (by kernel_rfl) ?_ _
  have HC7 := Lib.hid (HBb.out.go hHeld)
  have HN7 := Lib.hid (HNb.out.ext hHeld)
  clear hHeld HBb HNb HKb
  have a0 := HC7.out.blk.at_ 0 rfl
  have a1 := HC7.out.blk.at_ 1 rfl
  have hrk := HOKX.out.2.1.1
  go_wp2_with (refine wpl_loadP (off := 32) (sub := numsA .u8 x.r) HN7.out aggKey (sizeN hrk) (Nd.right HOKX.out) rfl _ rfl rfl ?_)
  refine (ih fr to w0 S0 x.r x.n hi true ⟨R', O, false⟩ (by have := hle.r; have := hlen; first | exact hlen | (show s1.R.length ≤ f; exact Nat.le_trans hle.r hlen)) (by have := hle.o; have := hle.r; simp only [List.length_append, List.length_singleton] at *; omega) (fun y hy => HOK.out y (hle.m y hy)) HOKX.out.2.1 _ g A2 c2 vO HR2.out HC7.out.again).mono ?_
  rintro e w11 ⟨A9, c9, v9, rfl, hr9, hc9⟩
  rw [hs9] at hr9 hc9
  have HC11 := Lib.hid (HC7.out.call hc9)
  have HR9 := Lib.hid hr9
  clear hr9 hc9
  go_wp2
  first | (refine bodyPost_ret (results_none rfl _ _ _) rfl ?_) | (refine bodyPost_end (results_none rfl _ _ _) rfl ?_)
  exact ⟨A9, c9, v9, rfl, HR9.out, HC11.out⟩
set_option maxHeartbeats 16000000 in
set_option maxRecDepth 100000 in
theorem tree_b_low_out (f : Nat) (ih : TreeC f) (fr to : ByteArray) (w0 : World) (S0 : Nat → Prop) (K : List Int) (lo hi : ByteArray) (b : Bool) (x : Nd) (R' : List Nd) (O : List En) (hlen : R'.length ≤ f) (h64 : O.length + (R'.length + 1) ≤ 64) (hokx : x.ok) (hex : entB x.n x.v = true) (hok : ∀ y ∈ R', y.ok ∧ entB y.n y.v = true) (hKe : K ≠ emptyL) (hK : K32 K) (h1 : kN x = K) (h2 : ltB lo x.n = true) (hb : b = true) (h3 : ltB x.n hi = true) (h5 : ltB x.n fr = true) (h6 : ltB x.n to = false) (s1 : Sw) (hs1 : (⟨R', O, false⟩ : Sw) = s1) (hle : SwLe s1 ⟨R', O, false⟩)
    (w : World) (g : Nat) (A : Option Addr) (n c : Nat) (hn : n = R'.length + 1) (vO : Value) (hr : RdL tNd w0 S0 (.slice A n c) (x :: R')) (hC : Cx 62 w0 w w g #[.string fr, .string to, .slice A n c, vO, .bool false] vO vO O) (s9 : Sw) (hs9 : (⟨R', O, false⟩ : Sw) = s9) :
    Calls Try.prog 31 #[.pointer (some ⟨g, 0, none⟩), .agg (numsA .u8 K), .string lo, .string hi, .bool b] w fun e w' => ∃ A' c' vO', e = .returned (.tuple #[]) ∧ RdL tNd w0 S0 (.slice A' s9.R.length c') s9.R ∧
      Cx 62 w0 w w' g #[.string fr, .string to, .slice A' s9.R.length c', vO', .bool s9.bad] vO vO' s9.O := by
  have HXE := Lib.hid (show tEnt.ok (x.n, x.v) from hokx.2.2)
  subst hs9
  subst hs1
  have HC := Lib.hid hC
  have HOKX := Lib.hid hokx
  have HEX := Lib.hid hex
  have HOK := Lib.hid hok
  have hkl := hK.1
  have HK := Lib.hid hK
  have heql : ∀ W, (binOp .eql 28 (.agg (numsA .u8 K)) (.agg (numsA .u8 emptyL))).run Try.prog W = .ok (.bool false) W := fun W => by
    have := run_eqKey K emptyL hK emptyL_ok W
    rw [decide_eq_false hKe] at this
    exact this
  obtain ⟨A', c', e9, hcap, hlen', hrd, hok9⟩ := id hr
  injection e9 with e91 e92 e93
  subst e91 e93
  obtain ⟨gn, on, rfl, hs0, hcx⟩ := hrd.elem hok9 0 (by simp)
  simp only [Nat.zero_mul, Nat.add_zero, List.getElem_cons_zero] at hcx
  have HD := Lib.hid (show ∀ W, Ext w0 W → ∀ j u, x.enc[j]? = some u → W.cell? ⟨gn, on + j, none⟩ = some u from fun W hW j u hu => hW.cell (hcx j u hu))
  have hcut := RdL.cutN (k := 1) hr (by simp [hn]) (by omega)
  rw [show n - 1 = R'.length by omega, show (x :: R').drop 1 = R' from rfl, show tNd.sz = 66 from rfl] at hcut
  obtain ⟨A2, hA2⟩ : ∃ A2, (if c = 1 then some (⟨gn, on, none⟩ : Addr) else (some (⟨gn, on, none⟩ : Addr)).map (·.add (1 * 66))) = A2 := ⟨_, rfl⟩
  obtain ⟨c2, hc2⟩ : ∃ c2, c - 1 = c2 := ⟨_, rfl⟩
  rw [hA2, hc2] at hcut
  have HSL := Lib.hid (show (Value.slice (if c = 1 then some (⟨gn, on, none⟩ : Addr) else (some (⟨gn, on, none⟩ : Addr)).map (·.add (1 * 66))) (n - 1) (c - 1)) = .slice A2 R'.length c2 by rw [hA2, hc2, show n - 1 = R'.length by omega])
  have HR2 := Lib.hid hcut
  have hn0 : ((n : Int) == 0) = false := by rw [beq_eq_false_iff_ne]; omega
  have hn1 : (0 : Int) < (n : Int) := by omega
  have hn2 : 1 ≤ n := by omega
  have HN := Lib.hid hn
  obtain ⟨m, hm⟩ : ∃ m, R'.length = m := ⟨_, rfl⟩
  have HM := Lib.hid hm
  have HST := Lib.hid (Nd.st hokx)
  have HGB := Lib.hid (show w0.heap.size ≤ g ∧ g < w.heap.size from ⟨hC.base, hC.lt⟩)
  have hneq : ∀ W, (binOp .neq 28 (.agg (numsA .u8 (kN x))) (.agg (numsA .u8 K))).run Try.prog W = .ok (.bool false) W := fun W => by
    have := run_neqKey (kN x) K (kN_ok x) HK.out W
    rw [decide_eq_true h1] at this
    exact this
  subst hb
  have hq1 : Op.bytesLess x.n.toList lo.toList = false := by rw [ltB_eq]; exact ltB_asymm h2
  have hq2 : (x.n.toList == lo.toList) = false := by rw [beq_eq_false_iff_ne]; exact fun e => ltB_ne h2 (toList_inj e).symm
  have hq3 : Op.bytesLess x.n.toList hi.toList = true := by rw [ltB_eq]; exact h3
  have hq4 : Op.bytesLess fr.toList x.n.toList = false := by rw [ltB_eq]; exact ltB_asymm h5
  have hq5 : Op.bytesLess x.n.toList fr.toList = true := by rw [ltB_eq]; exact h5
  have hq6 : Op.bytesLess x.n.toList to.toList = false := by rw [ltB_eq]; exact h6
  clear hr hokx hex hok hcx hrd hok9 hcut hA2 hc2 hs0 hcap hlen' e92 hn hC hm h1
  have c0 := HC.out.blk.at_ 0 rfl
  have c1 := HC.out.blk.at_ 1 rfl
  have c2 := HC.out.blk.at_ 2 rfl
  have c3 := HC.out.blk.at_ 3 rfl
  have c4 := HC.out.blk.at_ 4 rfl
  have f2 := HC.out.blk.free 2
  have f3 := HC.out.blk.free 3
  have f4 := HC.out.blk.free 4
  go_enter Try.func31, Try.ntmps31
  go_wp2_with fail
  have HA := Lib.hid (HC.out.go (ext_alloc w (.cells (numsA .u8 K) 28)))
  have HKB := Lib.hid (Blk.new w 28 (numsA .u8 K))
  clear c0 c1 c2 c3 c4 f2 f3 f4
  generalize w.alloc (.cells (numsA .u8 K) 28) = wa at HA HKB ⊢
  have cd : ∀ W, Ext wa W → W.cell? ⟨g, 4, none⟩ = some (.bool false) := fun W hW => (HA.out.blk.ext hW).at_ 4 rfl
  refine wp_region_held_drew (S := fun W => Ext wa W) (by kernel_rfl) (Ext.refl _).drew (fun hHeld => ?_)
  iterate 5
    refine tkD 0 (by simp only [List.size_toArray, List.length_cons, List.length_nil]; rfl) (by simp only [List.getElem?_toArray, List.getElem?_cons_zero, List.getElem?_cons_succ]; rfl) (by kernel_rfl) (by exact fun _ _ _ h => h) (by first | (exact Or.inl ⟨by rfl, by intro w hSw; (try dsimp only at hSw); go_simp; with_reducible rfl⟩) | (exact Or.inr ⟨by rfl, by rfl⟩)) (by assumption) ?_
    try simp only [Act.put, List.setIfInBounds_toArray, List.set_cons_zero, List.set_cons_succ]
  refine tkI 5 (v := (.agg (numsA .u8 K))) (by simp only [List.getElem?_toArray, List.getElem?_cons_zero, List.getElem?_cons_succ]; rfl) (by kernel_rfl) (by exact fun _ _ _ h => h) (by refine yields_loadB HKB.out aggKey (sizeN hkl) ?_ _ rfl rfl; rfl) (by assumption) ?_
  try simp only [Act.put, List.setIfInBounds_toArray, List.set_cons_zero, List.set_cons_succ]
  refine wpAnyH_ready (rs := [6]) (by kernel_rfl) (by simp) (AllReadyH.cons (o := ?oy2666) ?hy2666 (fun K hK => ?sy2666) AllReadyH.nil)
  case hy2666 => simp only [List.getElem?_toArray, List.getElem?_cons_zero, List.getElem?_cons_succ]; rfl
  go_simp
  refine (l04Empty_any _).mono ?_
  rintro e w9 ⟨rfl, hx⟩
  have hH2 := hHeld.trans hx
  refine hK.out _ _ hH2 (fun _ => ?_)
  clear hHeld hK K
  have hHeld := hH2
  clear hH2
  try simp only [Act.put, List.setIfInBounds_toArray, List.set_cons_zero, List.set_cons_succ]
  iterate 2
    refine tkD 0 (by simp only [List.size_toArray, List.length_cons, List.length_nil]; rfl) (by simp only [List.getElem?_toArray, List.getElem?_cons_zero, List.getElem?_cons_succ]; rfl) (by kernel_rfl) (by exact fun _ _ _ h => h) (by first | (exact Or.inl ⟨by rfl, by intro w hSw; (try dsimp only at hSw); go_simp; with_reducible rfl⟩) | (exact Or.inr ⟨by rfl, by rfl⟩)) (by assumption) ?_
    try simp only [Act.put, List.setIfInBounds_toArray, List.set_cons_zero, List.set_cons_succ]
  refine wpAnyH_done (by kernel_rfl) ?_ _
  have hAx := HA.out.go hHeld
  have HK2 := Lib.hid (HKB.out.ext hHeld)
  clear cd hHeld
  revert hAx HK2
  skip
  intro hAx HK2
  have HB1 := Lib.hid hAx
  clear hAx HA HKB
  have HBa := Lib.hid (HB1.out.go (ext_alloc w9 (.cells x.enc.toArray 52)))
  have HNa := Lib.hid (Blk.new w9 52 x.enc.toArray)
  have hgn : w9.heap.size ≠ g := by have := HB1.out.blk.lt; omega
  have HBb := Lib.hid (show Cx 62 w0 w ((World.alloc w9 (.cells x.enc.toArray 52)).setCell ⟨g, 2, none⟩ (.slice A2 R'.length c2)) g #[.string fr, .string to, .slice A2 R'.length c2, vO, .bool false] vO vO O from HBa.out.set 2 _)
  have HNb := Lib.hid (show Blk ((World.alloc w9 (.cells x.enc.toArray 52)).setCell ⟨g, 2, none⟩ (.slice A2 R'.length c2)) w9.heap.size 52 x.enc.toArray from HNa.out.far hgn _)
  have HKb := Lib.hid (show Blk ((World.alloc w9 (.cells x.enc.toArray 52)).setCell ⟨g, 2, none⟩ (.slice A2 R'.length c2)) w.heap.size 28 (numsA .u8 K) from (HK2.out.alloc _).far (by have := HGB.out; show w.heap.size ≠ g; omega) _)
  have d2 := HB1.out.blk.at_ 2 rfl
  have e2 := HBa.out.blk.at_ 2 rfl
  have f2 := HBa.out.blk.free 2
  have c64 := HNb.out.at_ 64 (Nd.at64 HOKX.out)
  go_wp2_with (first
    | (refine wpl_load ⟨gn, on, none⟩ x.enc (by rw [Nd.enc_length HOKX.out]; exact aggNodeI) rfl _ rfl rfl (fun j u hu => by rw [Addr.add_lit]; exact HD.out _ HB1.out.ext j u hu) ?_)
    | (refine wpl_storeNewB aggNodeI HST.out rfl rfl _ _ rfl rfl rfl rfl ?_)
    | (refine wpl_cut1 (sz := 66) (A := some ⟨gn, on, none⟩) (n := n) (c := c) (by kernel_rfl) (by kernel_rfl) rfl _ rfl rfl hn2 ?_; rw [HSL.out]))
  obtain ⟨nb, hnb⟩ : ∃ nb, w9.heap.size = nb := ⟨_, rfl⟩
  rw [hnb] at HNb hgn ⊢
  generalize (World.alloc w9 (.cells x.enc.toArray 52)).setCell ⟨g, 2, none⟩ (.slice A2 R'.length c2) = wb at HBb HNb HKb ⊢
  clear d2 e2 f2 c64 HBa HNa hnb HB1 HK2
  refine wp_region_held_drew (S := fun W => Ext wb W) (by kernel_rfl) (Ext.refl _).drew (fun hHeld => ?_)
  refine tkI 1 (v := (.agg (numsA .u8 K))) (by simp only [List.getElem?_toArray, List.getElem?_cons_zero, List.getElem?_cons_succ]; rfl) (by kernel_rfl) (by exact fun _ _ _ h => h) (by refine yields_loadB HKb.out aggKey (sizeN hkl) ?_ _ rfl rfl; rfl) (by assumption) ?_
  try simp only [Act.put, List.setIfInBounds_toArray, List.set_cons_zero, List.set_cons_succ]
  refine wpAnyH_ready (rs := [0]) (by kernel_rfl) (by simp) (AllReadyH.cons (o := ?oy2700) ?hy2700 (fun K hK => ?sy2700) AllReadyH.nil)
  case hy2700 => simp only [List.getElem?_toArray, List.getElem?_cons_zero, List.getElem?_cons_succ]; rfl
  go_simp
  refine (l04NodeKey_any x HOKX.out HEX.out nb _ (HNb.out.ext hHeld)).mono ?_
  rintro e w7 ⟨rfl, hx⟩
  have hH2 := hHeld.trans hx
  refine hK.out _ _ hH2 (fun _ => ?_)
  clear hHeld hK K
  have hHeld := hH2
  clear hH2
  try simp only [Act.put, List.setIfInBounds_toArray, List.set_cons_zero, List.set_cons_succ]
  try rw [show hashL 5 (nodeL x) = kN x by rw [kN]]
  iterate 14
    refine tkD 0 (by simp only [List.size_toArray, List.length_cons, List.length_nil]; rfl) (by simp only [List.getElem?_toArray, List.getElem?_cons_zero, List.getElem?_cons_succ]; rfl) (by kernel_rfl) (by exact fun _ _ _ h => h) (by first | (exact Or.inl ⟨by rfl, by intro w hSw; (try dsimp only at hSw); go_simp; with_reducible rfl⟩) | (exact Or.inr ⟨by rfl, by rfl⟩)) (by assumption) ?_
    try simp only [Act.put, List.setIfInBounds_toArray, List.set_cons_zero, List.set_cons_succ]
  refine wpAnyH_done (by kernel_rfl) ?_ _
  have HC7 := Lib.hid (HBb.out.go hHeld)
  have HN7 := Lib.hid (HNb.out.ext hHeld)
  clear hHeld HBb HNb HKb
  have a0 := HC7.out.blk.at_ 0 rfl
  have a1 := HC7.out.blk.at_ 1 rfl
  go_wp2
  first | (refine bodyPost_ret (results_none rfl _ _ _) rfl ?_) | (refine bodyPost_end (results_none rfl _ _ _) rfl ?_)
  exact ⟨A2, c2, vO, rfl, HR2.out, HC7.out⟩
set_option maxHeartbeats 16000000 in
set_option maxRecDepth 100000 in
theorem tree_n_low_in (f : Nat) (ih : TreeC f) (fr to : ByteArray) (w0 : World) (S0 : Nat → Prop) (K : List Int) (lo hi : ByteArray) (b : Bool) (x : Nd) (R' : List Nd) (O : List En) (hlen : R'.length ≤ f) (h64 : O.length + (R'.length + 1) ≤ 64) (hokx : x.ok) (hex : entB x.n x.v = true) (hok : ∀ y ∈ R', y.ok ∧ entB y.n y.v = true) (hKe : K ≠ emptyL) (hK : K32 K) (h1 : kN x = K) (h2 : ltB lo x.n = true) (hb : b = false) (h5 : ltB x.n fr = true) (h6 : ltB x.n to = true) (s1 : Sw) (hs1 : (⟨R', O, false⟩ : Sw) = s1) (hle : SwLe s1 ⟨R', O, false⟩)
    (w : World) (g : Nat) (A : Option Addr) (n c : Nat) (hn : n = R'.length + 1) (vO : Value) (hr : RdL tNd w0 S0 (.slice A n c) (x :: R')) (hC : Cx 62 w0 w w g #[.string fr, .string to, .slice A n c, vO, .bool false] vO vO O) (s9 : Sw) (hs9 : tr fr to f x.r x.n hi b (⟨R', O, false⟩ : Sw) = s9) :
    Calls Try.prog 31 #[.pointer (some ⟨g, 0, none⟩), .agg (numsA .u8 K), .string lo, .string hi, .bool b] w fun e w' => ∃ A' c' vO', e = .returned (.tuple #[]) ∧ RdL tNd w0 S0 (.slice A' s9.R.length c') s9.R ∧
      Cx 62 w0 w w' g #[.string fr, .string to, .slice A' s9.R.length c', vO', .bool s9.bad] vO vO' s9.O := by
  have HXE := Lib.hid (show tEnt.ok (x.n, x.v) from hokx.2.2)
  subst hs1
  have HC := Lib.hid hC
  have HOKX := Lib.hid hokx
  have HEX := Lib.hid hex
  have HOK := Lib.hid hok
  have hkl := hK.1
  have HK := Lib.hid hK
  have heql : ∀ W, (binOp .eql 28 (.agg (numsA .u8 K)) (.agg (numsA .u8 emptyL))).run Try.prog W = .ok (.bool false) W := fun W => by
    have := run_eqKey K emptyL hK emptyL_ok W
    rw [decide_eq_false hKe] at this
    exact this
  obtain ⟨A', c', e9, hcap, hlen', hrd, hok9⟩ := id hr
  injection e9 with e91 e92 e93
  subst e91 e93
  obtain ⟨gn, on, rfl, hs0, hcx⟩ := hrd.elem hok9 0 (by simp)
  simp only [Nat.zero_mul, Nat.add_zero, List.getElem_cons_zero] at hcx
  have HD := Lib.hid (show ∀ W, Ext w0 W → ∀ j u, x.enc[j]? = some u → W.cell? ⟨gn, on + j, none⟩ = some u from fun W hW j u hu => hW.cell (hcx j u hu))
  have hcut := RdL.cutN (k := 1) hr (by simp [hn]) (by omega)
  rw [show n - 1 = R'.length by omega, show (x :: R').drop 1 = R' from rfl, show tNd.sz = 66 from rfl] at hcut
  obtain ⟨A2, hA2⟩ : ∃ A2, (if c = 1 then some (⟨gn, on, none⟩ : Addr) else (some (⟨gn, on, none⟩ : Addr)).map (·.add (1 * 66))) = A2 := ⟨_, rfl⟩
  obtain ⟨c2, hc2⟩ : ∃ c2, c - 1 = c2 := ⟨_, rfl⟩
  rw [hA2, hc2] at hcut
  have HSL := Lib.hid (show (Value.slice (if c = 1 then some (⟨gn, on, none⟩ : Addr) else (some (⟨gn, on, none⟩ : Addr)).map (·.add (1 * 66))) (n - 1) (c - 1)) = .slice A2 R'.length c2 by rw [hA2, hc2, show n - 1 = R'.length by omega])
  have HR2 := Lib.hid hcut
  have hn0 : ((n : Int) == 0) = false := by rw [beq_eq_false_iff_ne]; omega
  have hn1 : (0 : Int) < (n : Int) := by omega
  have hn2 : 1 ≤ n := by omega
  have HN := Lib.hid hn
  obtain ⟨m, hm⟩ : ∃ m, R'.length = m := ⟨_, rfl⟩
  have HM := Lib.hid hm
  have HST := Lib.hid (Nd.st hokx)
  have HGB := Lib.hid (show w0.heap.size ≤ g ∧ g < w.heap.size from ⟨hC.base, hC.lt⟩)
  have hneq : ∀ W, (binOp .neq 28 (.agg (numsA .u8 (kN x))) (.agg (numsA .u8 K))).run Try.prog W = .ok (.bool false) W := fun W => by
    have := run_neqKey (kN x) K (kN_ok x) HK.out W
    rw [decide_eq_true h1] at this
    exact this
  subst hb
  have hq1 : Op.bytesLess x.n.toList lo.toList = false := by rw [ltB_eq]; exact ltB_asymm h2
  have hq2 : (x.n.toList == lo.toList) = false := by rw [beq_eq_false_iff_ne]; exact fun e => ltB_ne h2 (toList_inj e).symm
  have hq4 : Op.bytesLess fr.toList x.n.toList = false := by rw [ltB_eq]; exact ltB_asymm h5
  have hq5 : Op.bytesLess x.n.toList fr.toList = true := by rw [ltB_eq]; exact h5
  have hq6 : Op.bytesLess x.n.toList to.toList = true := by rw [ltB_eq]; exact h6
  clear hr hokx hex hok hcx hrd hok9 hcut hA2 hc2 hs0 hcap hlen' e92 hn hC hm h1
  have c0 := HC.out.blk.at_ 0 rfl
  have c1 := HC.out.blk.at_ 1 rfl
  have c2 := HC.out.blk.at_ 2 rfl
  have c3 := HC.out.blk.at_ 3 rfl
  have c4 := HC.out.blk.at_ 4 rfl
  have f2 := HC.out.blk.free 2
  have f3 := HC.out.blk.free 3
  have f4 := HC.out.blk.free 4
  go_enter Try.func31, Try.ntmps31
  go_wp2_with fail
  have HA := Lib.hid (HC.out.go (ext_alloc w (.cells (numsA .u8 K) 28)))
  have HKB := Lib.hid (Blk.new w 28 (numsA .u8 K))
  clear c0 c1 c2 c3 c4 f2 f3 f4
  generalize w.alloc (.cells (numsA .u8 K) 28) = wa at HA HKB ⊢
  have cd : ∀ W, Ext wa W → W.cell? ⟨g, 4, none⟩ = some (.bool false) := fun W hW => (HA.out.blk.ext hW).at_ 4 rfl
  refine wp_region_held_drew (S := fun W => Ext wa W) (by kernel_rfl) (Ext.refl _).drew (fun hHeld => ?_)
  iterate 5
    refine tkD 0 (by simp only [List.size_toArray, List.length_cons, List.length_nil]; rfl) (by simp only [List.getElem?_toArray, List.getElem?_cons_zero, List.getElem?_cons_succ]; rfl) (by kernel_rfl) (by exact fun _ _ _ h => h) (by first | (exact Or.inl ⟨by rfl, by intro w hSw; (try dsimp only at hSw); go_simp; with_reducible rfl⟩) | (exact Or.inr ⟨by rfl, by rfl⟩)) (by assumption) ?_
    try simp only [Act.put, List.setIfInBounds_toArray, List.set_cons_zero, List.set_cons_succ]
  refine tkI 5 (v := (.agg (numsA .u8 K))) (by simp only [List.getElem?_toArray, List.getElem?_cons_zero, List.getElem?_cons_succ]; rfl) (by kernel_rfl) (by exact fun _ _ _ h => h) (by refine yields_loadB HKB.out aggKey (sizeN hkl) ?_ _ rfl rfl; rfl) (by assumption) ?_
  try simp only [Act.put, List.setIfInBounds_toArray, List.set_cons_zero, List.set_cons_succ]
  refine wpAnyH_ready (rs := [6]) (by kernel_rfl) (by simp) (AllReadyH.cons (o := ?oy4256) ?hy4256 (fun K hK => ?sy4256) AllReadyH.nil)
  case hy4256 => simp only [List.getElem?_toArray, List.getElem?_cons_zero, List.getElem?_cons_succ]; rfl
  go_simp
  refine (l04Empty_any _).mono ?_
  rintro e w9 ⟨rfl, hx⟩
  have hH2 := hHeld.trans hx
  refine hK.out _ _ hH2 (fun _ => ?_)
  clear hHeld hK K
  have hHeld := hH2
  clear hH2
  try simp only [Act.put, List.setIfInBounds_toArray, List.set_cons_zero, List.set_cons_succ]
  iterate 2
    refine tkD 0 (by simp only [List.size_toArray, List.length_cons, List.length_nil]; rfl) (by simp only [List.getElem?_toArray, List.getElem?_cons_zero, List.getElem?_cons_succ]; rfl) (by kernel_rfl) (by exact fun _ _ _ h => h) (by first | (exact Or.inl ⟨by rfl, by intro w hSw; (try dsimp only at hSw); go_simp; with_reducible rfl⟩) | (exact Or.inr ⟨by rfl, by rfl⟩)) (by assumption) ?_
    try simp only [Act.put, List.setIfInBounds_toArray, List.set_cons_zero, List.set_cons_succ]
  refine wpAnyH_done (by kernel_rfl) ?_ _
  have hAx := HA.out.go hHeld
  have HK2 := Lib.hid (HKB.out.ext hHeld)
  clear cd hHeld
  revert hAx HK2
  skip
  intro hAx HK2
  have HB1 := Lib.hid hAx
  clear hAx HA HKB
  have HBa := Lib.hid (HB1.out.go (ext_alloc w9 (.cells x.enc.toArray 52)))
  have HNa := Lib.hid (Blk.new w9 52 x.enc.toArray)
  have hgn : w9.heap.size ≠ g := by have := HB1.out.blk.lt; omega
  have HBb := Lib.hid (show Cx 62 w0 w ((World.alloc w9 (.cells x.enc.toArray 52)).setCell ⟨g, 2, none⟩ (.slice A2 R'.length c2)) g #[.string fr, .string to, .slice A2 R'.length c2, vO, .bool false] vO vO O from HBa.out.set 2 _)
  have HNb := Lib.hid (show Blk ((World.alloc w9 (.cells x.enc.toArray 52)).setCell ⟨g, 2, none⟩ (.slice A2 R'.length c2)) w9.heap.size 52 x.enc.toArray from HNa.out.far hgn _)
  have HKb := Lib.hid (show Blk ((World.alloc w9 (.cells x.enc.toArray 52)).setCell ⟨g, 2, none⟩ (.slice A2 R'.length c2)) w.heap.size 28 (numsA .u8 K) from (HK2.out.alloc _).far (by have := HGB.out; show w.heap.size ≠ g; omega) _)
  have d2 := HB1.out.blk.at_ 2 rfl
  have e2 := HBa.out.blk.at_ 2 rfl
  have f2 := HBa.out.blk.free 2
  have c64 := HNb.out.at_ 64 (Nd.at64 HOKX.out)
  go_wp2_with (first
    | (refine wpl_load ⟨gn, on, none⟩ x.enc (by rw [Nd.enc_length HOKX.out]; exact aggNodeI) rfl _ rfl rfl (fun j u hu => by rw [Addr.add_lit]; exact HD.out _ HB1.out.ext j u hu) ?_)
    | (refine wpl_storeNewB aggNodeI HST.out rfl rfl _ _ rfl rfl rfl rfl ?_)
    | (refine wpl_cut1 (sz := 66) (A := some ⟨gn, on, none⟩) (n := n) (c := c) (by kernel_rfl) (by kernel_rfl) rfl _ rfl rfl hn2 ?_; rw [HSL.out]))
  obtain ⟨nb, hnb⟩ : ∃ nb, w9.heap.size = nb := ⟨_, rfl⟩
  rw [hnb] at HNb hgn ⊢
  generalize (World.alloc w9 (.cells x.enc.toArray 52)).setCell ⟨g, 2, none⟩ (.slice A2 R'.length c2) = wb at HBb HNb HKb ⊢
  clear d2 e2 f2 c64 HBa HNa hnb HB1 HK2
  refine wp_region_held_drew (S := fun W => Ext wb W) (by kernel_rfl) (Ext.refl _).drew (fun hHeld => ?_)
  refine tkI 1 (v := (.agg (numsA .u8 K))) (by simp only [List.getElem?_toArray, List.getElem?_cons_zero, List.getElem?_cons_succ]; rfl) (by kernel_rfl) (by exact fun _ _ _ h => h) (by refine yields_loadB HKb.out aggKey (sizeN hkl) ?_ _ rfl rfl; rfl) (by assumption) ?_
  try simp only [Act.put, List.setIfInBounds_toArray, List.set_cons_zero, List.set_cons_succ]
  refine wpAnyH_ready (rs := [0]) (by kernel_rfl) (by simp) (AllReadyH.cons (o := ?oy4290) ?hy4290 (fun K hK => ?sy4290) AllReadyH.nil)
  case hy4290 => simp only [List.getElem?_toArray, List.getElem?_cons_zero, List.getElem?_cons_succ]; rfl
  go_simp
  refine (l04NodeKey_any x HOKX.out HEX.out nb _ (HNb.out.ext hHeld)).mono ?_
  rintro e w7 ⟨rfl, hx⟩
  have hH2 := hHeld.trans hx
  refine hK.out _ _ hH2 (fun _ => ?_)
  clear hHeld hK K
  have hHeld := hH2
  clear hH2
  try simp only [Act.put, List.setIfInBounds_toArray, List.set_cons_zero, List.set_cons_succ]
  try rw [show hashL 5 (nodeL x) = kN x by rw [kN]]
  iterate 14
    refine tkD 0 (by simp only [List.size_toArray, List.length_cons, List.length_nil]; rfl) (by simp only [List.getElem?_toArray, List.getElem?_cons_zero, List.getElem?_cons_succ]; rfl) (by kernel_rfl) (by exact fun _ _ _ h => h) (by first | (exact Or.inl ⟨by rfl, by intro w hSw; (try dsimp only at hSw); go_simp; with_reducible rfl⟩) | (exact Or.inr ⟨by rfl, by rfl⟩)) (by assumption) ?_
    try simp only [Act.put, List.setIfInBounds_toArray, List.set_cons_zero, List.set_cons_succ]
  refine wpAnyH_done (by kernel_rfl) ?_ _
  have HC7 := Lib.hid (HBb.out.go hHeld)
  have HN7 := Lib.hid (HNb.out.ext hHeld)
  clear hHeld HBb HNb HKb
  have a0 := HC7.out.blk.at_ 0 rfl
  have a1 := HC7.out.blk.at_ 1 rfl
  have hrk := HOKX.out.2.1.1
  go_wp2_with (refine wpl_loadP (off := 32) (sub := numsA .u8 x.r) HN7.out aggKey (sizeN hrk) (Nd.right HOKX.out) rfl _ rfl rfl ?_)
  refine (ih fr to w0 S0 x.r x.n hi false ⟨R', O, false⟩ (by have := hle.r; have := hlen; first | exact hlen | (show s1.R.length ≤ f; exact Nat.le_trans hle.r hlen)) (by have := hle.o; have := hle.r; simp only [List.length_append, List.length_singleton] at *; omega) (fun y hy => HOK.out y (hle.m y hy)) HOKX.out.2.1 _ g A2 c2 vO HR2.out HC7.out.again).mono ?_
  rintro e w11 ⟨A9, c9, v9, rfl, hr9, hc9⟩
  rw [hs9] at hr9 hc9
  have HC11 := Lib.hid (HC7.out.call hc9)
  have HR9 := Lib.hid hr9
  clear hr9 hc9
  go_wp2
  first | (refine bodyPost_ret (results_none rfl _ _ _) rfl ?_) | (refine bodyPost_end (results_none rfl _ _ _) rfl ?_)
  exact ⟨A9, c9, v9, rfl, HR9.out, HC11.out⟩
set_option maxHeartbeats 16000000 in
set_option maxRecDepth 100000 in
theorem tree_n_low_out (f : Nat) (ih : TreeC f) (fr to : ByteArray) (w0 : World) (S0 : Nat → Prop) (K : List Int) (lo hi : ByteArray) (b : Bool) (x : Nd) (R' : List Nd) (O : List En) (hlen : R'.length ≤ f) (h64 : O.length + (R'.length + 1) ≤ 64) (hokx : x.ok) (hex : entB x.n x.v = true) (hok : ∀ y ∈ R', y.ok ∧ entB y.n y.v = true) (hKe : K ≠ emptyL) (hK : K32 K) (h1 : kN x = K) (h2 : ltB lo x.n = true) (hb : b = false) (h5 : ltB x.n fr = true) (h6 : ltB x.n to = false) (s1 : Sw) (hs1 : (⟨R', O, false⟩ : Sw) = s1) (hle : SwLe s1 ⟨R', O, false⟩)
    (w : World) (g : Nat) (A : Option Addr) (n c : Nat) (hn : n = R'.length + 1) (vO : Value) (hr : RdL tNd w0 S0 (.slice A n c) (x :: R')) (hC : Cx 62 w0 w w g #[.string fr, .string to, .slice A n c, vO, .bool false] vO vO O) (s9 : Sw) (hs9 : (⟨R', O, false⟩ : Sw) = s9) :
    Calls Try.prog 31 #[.pointer (some ⟨g, 0, none⟩), .agg (numsA .u8 K), .string lo, .string hi, .bool b] w fun e w' => ∃ A' c' vO', e = .returned (.tuple #[]) ∧ RdL tNd w0 S0 (.slice A' s9.R.length c') s9.R ∧
      Cx 62 w0 w w' g #[.string fr, .string to, .slice A' s9.R.length c', vO', .bool s9.bad] vO vO' s9.O := by
  have HXE := Lib.hid (show tEnt.ok (x.n, x.v) from hokx.2.2)
  subst hs9
  subst hs1
  have HC := Lib.hid hC
  have HOKX := Lib.hid hokx
  have HEX := Lib.hid hex
  have HOK := Lib.hid hok
  have hkl := hK.1
  have HK := Lib.hid hK
  have heql : ∀ W, (binOp .eql 28 (.agg (numsA .u8 K)) (.agg (numsA .u8 emptyL))).run Try.prog W = .ok (.bool false) W := fun W => by
    have := run_eqKey K emptyL hK emptyL_ok W
    rw [decide_eq_false hKe] at this
    exact this
  obtain ⟨A', c', e9, hcap, hlen', hrd, hok9⟩ := id hr
  injection e9 with e91 e92 e93
  subst e91 e93
  obtain ⟨gn, on, rfl, hs0, hcx⟩ := hrd.elem hok9 0 (by simp)
  simp only [Nat.zero_mul, Nat.add_zero, List.getElem_cons_zero] at hcx
  have HD := Lib.hid (show ∀ W, Ext w0 W → ∀ j u, x.enc[j]? = some u → W.cell? ⟨gn, on + j, none⟩ = some u from fun W hW j u hu => hW.cell (hcx j u hu))
  have hcut := RdL.cutN (k := 1) hr (by simp [hn]) (by omega)
  rw [show n - 1 = R'.length by omega, show (x :: R').drop 1 = R' from rfl, show tNd.sz = 66 from rfl] at hcut
  obtain ⟨A2, hA2⟩ : ∃ A2, (if c = 1 then some (⟨gn, on, none⟩ : Addr) else (some (⟨gn, on, none⟩ : Addr)).map (·.add (1 * 66))) = A2 := ⟨_, rfl⟩
  obtain ⟨c2, hc2⟩ : ∃ c2, c - 1 = c2 := ⟨_, rfl⟩
  rw [hA2, hc2] at hcut
  have HSL := Lib.hid (show (Value.slice (if c = 1 then some (⟨gn, on, none⟩ : Addr) else (some (⟨gn, on, none⟩ : Addr)).map (·.add (1 * 66))) (n - 1) (c - 1)) = .slice A2 R'.length c2 by rw [hA2, hc2, show n - 1 = R'.length by omega])
  have HR2 := Lib.hid hcut
  have hn0 : ((n : Int) == 0) = false := by rw [beq_eq_false_iff_ne]; omega
  have hn1 : (0 : Int) < (n : Int) := by omega
  have hn2 : 1 ≤ n := by omega
  have HN := Lib.hid hn
  obtain ⟨m, hm⟩ : ∃ m, R'.length = m := ⟨_, rfl⟩
  have HM := Lib.hid hm
  have HST := Lib.hid (Nd.st hokx)
  have HGB := Lib.hid (show w0.heap.size ≤ g ∧ g < w.heap.size from ⟨hC.base, hC.lt⟩)
  have hneq : ∀ W, (binOp .neq 28 (.agg (numsA .u8 (kN x))) (.agg (numsA .u8 K))).run Try.prog W = .ok (.bool false) W := fun W => by
    have := run_neqKey (kN x) K (kN_ok x) HK.out W
    rw [decide_eq_true h1] at this
    exact this
  subst hb
  have hq1 : Op.bytesLess x.n.toList lo.toList = false := by rw [ltB_eq]; exact ltB_asymm h2
  have hq2 : (x.n.toList == lo.toList) = false := by rw [beq_eq_false_iff_ne]; exact fun e => ltB_ne h2 (toList_inj e).symm
  have hq4 : Op.bytesLess fr.toList x.n.toList = false := by rw [ltB_eq]; exact ltB_asymm h5
  have hq5 : Op.bytesLess x.n.toList fr.toList = true := by rw [ltB_eq]; exact h5
  have hq6 : Op.bytesLess x.n.toList to.toList = false := by rw [ltB_eq]; exact h6
  clear hr hokx hex hok hcx hrd hok9 hcut hA2 hc2 hs0 hcap hlen' e92 hn hC hm h1
  have c0 := HC.out.blk.at_ 0 rfl
  have c1 := HC.out.blk.at_ 1 rfl
  have c2 := HC.out.blk.at_ 2 rfl
  have c3 := HC.out.blk.at_ 3 rfl
  have c4 := HC.out.blk.at_ 4 rfl
  have f2 := HC.out.blk.free 2
  have f3 := HC.out.blk.free 3
  have f4 := HC.out.blk.free 4
  go_enter Try.func31, Try.ntmps31
  go_wp2_with fail
  have HA := Lib.hid (HC.out.go (ext_alloc w (.cells (numsA .u8 K) 28)))
  have HKB := Lib.hid (Blk.new w 28 (numsA .u8 K))
  clear c0 c1 c2 c3 c4 f2 f3 f4
  generalize w.alloc (.cells (numsA .u8 K) 28) = wa at HA HKB ⊢
  have cd : ∀ W, Ext wa W → W.cell? ⟨g, 4, none⟩ = some (.bool false) := fun W hW => (HA.out.blk.ext hW).at_ 4 rfl
  refine wp_region_held_drew (S := fun W => Ext wa W) (by kernel_rfl) (Ext.refl _).drew (fun hHeld => ?_)
  iterate 5
    refine tkD 0 (by simp only [List.size_toArray, List.length_cons, List.length_nil]; rfl) (by simp only [List.getElem?_toArray, List.getElem?_cons_zero, List.getElem?_cons_succ]; rfl) (by kernel_rfl) (by exact fun _ _ _ h => h) (by first | (exact Or.inl ⟨by rfl, by intro w hSw; (try dsimp only at hSw); go_simp; with_reducible rfl⟩) | (exact Or.inr ⟨by rfl, by rfl⟩)) (by assumption) ?_
    try simp only [Act.put, List.setIfInBounds_toArray, List.set_cons_zero, List.set_cons_succ]
  refine tkI 5 (v := (.agg (numsA .u8 K))) (by simp only [List.getElem?_toArray, List.getElem?_cons_zero, List.getElem?_cons_succ]; rfl) (by kernel_rfl) (by exact fun _ _ _ h => h) (by refine yields_loadB HKB.out aggKey (sizeN hkl) ?_ _ rfl rfl; rfl) (by assumption) ?_
  try simp only [Act.put, List.setIfInBounds_toArray, List.set_cons_zero, List.set_cons_succ]
  refine wpAnyH_ready (rs := [6]) (by kernel_rfl) (by simp) (AllReadyH.cons (o := ?oy4506) ?hy4506 (fun K hK => ?sy4506) AllReadyH.nil)
  case hy4506 => simp only [List.getElem?_toArray, List.getElem?_cons_zero, List.getElem?_cons_succ]; rfl
  go_simp
  refine (l04Empty_any _).mono ?_
  rintro e w9 ⟨rfl, hx⟩
  have hH2 := hHeld.trans hx
  refine hK.out _ _ hH2 (fun _ => ?_)
  clear hHeld hK K
  have hHeld := hH2
  clear hH2
  try simp only [Act.put, List.setIfInBounds_toArray, List.set_cons_zero, List.set_cons_succ]
  iterate 2
    refine tkD 0 (by simp only [List.size_toArray, List.length_cons, List.length_nil]; rfl) (by simp only [List.getElem?_toArray, List.getElem?_cons_zero, List.getElem?_cons_succ]; rfl) (by kernel_rfl) (by exact fun _ _ _ h => h) (by first | (exact Or.inl ⟨by rfl, by intro w hSw; (try dsimp only at hSw); go_simp; with_reducible rfl⟩) | (exact Or.inr ⟨by rfl, by rfl⟩)) (by assumption) ?_
    try simp only [Act.put, List.setIfInBounds_toArray, List.set_cons_zero, List.set_cons_succ]
  refine wpAnyH_done (by kernel_rfl) ?_ _
  have hAx := HA.out.go hHeld
  have HK2 := Lib.hid (HKB.out.ext hHeld)
  clear cd hHeld
  revert hAx HK2
  skip
  intro hAx HK2
  have HB1 := Lib.hid hAx
  clear hAx HA HKB
  have HBa := Lib.hid (HB1.out.go (ext_alloc w9 (.cells x.enc.toArray 52)))
  have HNa := Lib.hid (Blk.new w9 52 x.enc.toArray)
  have hgn : w9.heap.size ≠ g := by have := HB1.out.blk.lt; omega
  have HBb := Lib.hid (show Cx 62 w0 w ((World.alloc w9 (.cells x.enc.toArray 52)).setCell ⟨g, 2, none⟩ (.slice A2 R'.length c2)) g #[.string fr, .string to, .slice A2 R'.length c2, vO, .bool false] vO vO O from HBa.out.set 2 _)
  have HNb := Lib.hid (show Blk ((World.alloc w9 (.cells x.enc.toArray 52)).setCell ⟨g, 2, none⟩ (.slice A2 R'.length c2)) w9.heap.size 52 x.enc.toArray from HNa.out.far hgn _)
  have HKb := Lib.hid (show Blk ((World.alloc w9 (.cells x.enc.toArray 52)).setCell ⟨g, 2, none⟩ (.slice A2 R'.length c2)) w.heap.size 28 (numsA .u8 K) from (HK2.out.alloc _).far (by have := HGB.out; show w.heap.size ≠ g; omega) _)
  have d2 := HB1.out.blk.at_ 2 rfl
  have e2 := HBa.out.blk.at_ 2 rfl
  have f2 := HBa.out.blk.free 2
  have c64 := HNb.out.at_ 64 (Nd.at64 HOKX.out)
  go_wp2_with (first
    | (refine wpl_load ⟨gn, on, none⟩ x.enc (by rw [Nd.enc_length HOKX.out]; exact aggNodeI) rfl _ rfl rfl (fun j u hu => by rw [Addr.add_lit]; exact HD.out _ HB1.out.ext j u hu) ?_)
    | (refine wpl_storeNewB aggNodeI HST.out rfl rfl _ _ rfl rfl rfl rfl ?_)
    | (refine wpl_cut1 (sz := 66) (A := some ⟨gn, on, none⟩) (n := n) (c := c) (by kernel_rfl) (by kernel_rfl) rfl _ rfl rfl hn2 ?_; rw [HSL.out]))
  obtain ⟨nb, hnb⟩ : ∃ nb, w9.heap.size = nb := ⟨_, rfl⟩
  rw [hnb] at HNb hgn ⊢
  generalize (World.alloc w9 (.cells x.enc.toArray 52)).setCell ⟨g, 2, none⟩ (.slice A2 R'.length c2) = wb at HBb HNb HKb ⊢
  clear d2 e2 f2 c64 HBa HNa hnb HB1 HK2
  refine wp_region_held_drew (S := fun W => Ext wb W) (by kernel_rfl) (Ext.refl _).drew (fun hHeld => ?_)
  refine tkI 1 (v := (.agg (numsA .u8 K))) (by simp only [List.getElem?_toArray, List.getElem?_cons_zero, List.getElem?_cons_succ]; rfl) (by kernel_rfl) (by exact fun _ _ _ h => h) (by refine yields_loadB HKb.out aggKey (sizeN hkl) ?_ _ rfl rfl; rfl) (by assumption) ?_
  try simp only [Act.put, List.setIfInBounds_toArray, List.set_cons_zero, List.set_cons_succ]
  refine wpAnyH_ready (rs := [0]) (by kernel_rfl) (by simp) (AllReadyH.cons (o := ?oy4540) ?hy4540 (fun K hK => ?sy4540) AllReadyH.nil)
  case hy4540 => simp only [List.getElem?_toArray, List.getElem?_cons_zero, List.getElem?_cons_succ]; rfl
  go_simp
  refine (l04NodeKey_any x HOKX.out HEX.out nb _ (HNb.out.ext hHeld)).mono ?_
  rintro e w7 ⟨rfl, hx⟩
  have hH2 := hHeld.trans hx
  refine hK.out _ _ hH2 (fun _ => ?_)
  clear hHeld hK K
  have hHeld := hH2
  clear hH2
  try simp only [Act.put, List.setIfInBounds_toArray, List.set_cons_zero, List.set_cons_succ]
  try rw [show hashL 5 (nodeL x) = kN x by rw [kN]]
  iterate 14
    refine tkD 0 (by simp only [List.size_toArray, List.length_cons, List.length_nil]; rfl) (by simp only [List.getElem?_toArray, List.getElem?_cons_zero, List.getElem?_cons_succ]; rfl) (by kernel_rfl) (by exact fun _ _ _ h => h) (by first | (exact Or.inl ⟨by rfl, by intro w hSw; (try dsimp only at hSw); go_simp; with_reducible rfl⟩) | (exact Or.inr ⟨by rfl, by rfl⟩)) (by assumption) ?_
    try simp only [Act.put, List.setIfInBounds_toArray, List.set_cons_zero, List.set_cons_succ]
  refine wpAnyH_done (by kernel_rfl) ?_ _
  have HC7 := Lib.hid (HBb.out.go hHeld)
  have HN7 := Lib.hid (HNb.out.ext hHeld)
  clear hHeld HBb HNb HKb
  have a0 := HC7.out.blk.at_ 0 rfl
  have a1 := HC7.out.blk.at_ 1 rfl
  go_wp2
  first | (refine bodyPost_ret (results_none rfl _ _ _) rfl ?_) | (refine bodyPost_end (results_none rfl _ _ _) rfl ?_)
  exact ⟨A2, c2, vO, rfl, HR2.out, HC7.out⟩
end Go.Proofs.Ytipeaoanhcjnjaa
/- The reference's walk over nodes that tell a range: whole. No condition. -/
namespace Go.Proofs.Ytipeaoanhcjnjaa
open Go.RowKit
set_option linter.unusedVariables false
set_option linter.unusedSimpArgs false

theorem tree_any (f : Nat) : TreeC f := by
  induction f with
  | zero =>
    intro fr to w0 S0 K lo hi b s hl h64 hok hK w g A c vO hr hC
    by_cases hbd : s.bad = true
    · exact tree_bad 0 fr to w0 S0 K lo hi b s hbd hK w g A c vO hr hC
    have hbd := Bool.eq_false_iff.2 hbd
    by_cases hKe : K = emptyL
    · exact tree_empty 0 fr to w0 S0 K lo hi b s hbd hKe hK w g A c vO hr hC
    obtain ⟨R, O, bad⟩ := s
    obtain rfl : bad = false := hbd
    obtain rfl : R = [] := List.eq_nil_of_length_eq_zero (by simpa using hl)
    exact tree_none 0 fr to w0 S0 K lo hi b O hKe hK w g A c vO hr hC
  | succ f ih =>
    intro fr to w0 S0 K lo hi b s hl h64 hok hK w g A c vO hr hC
    by_cases hbd : s.bad = true
    · exact tree_bad (f + 1) fr to w0 S0 K lo hi b s hbd hK w g A c vO hr hC
    have hbd := Bool.eq_false_iff.2 hbd
    by_cases hKe : K = emptyL
    · exact tree_empty (f + 1) fr to w0 S0 K lo hi b s hbd hKe hK w g A c vO hr hC
    obtain ⟨R, O, bad⟩ := s
    obtain rfl : bad = false := hbd
    match R, hl, h64, hok, hr, hC with
    | [], hl, h64, hok, hr, hC => exact tree_none (f + 1) fr to w0 S0 K lo hi b O hKe hK w g A c vO hr hC
    | x :: R', hl, h64, hok, hr, hC =>
      have hlen : R'.length ≤ f := by simpa using hl
      have h64' : O.length + (R'.length + 1) ≤ 64 := h64
      have hx := hok x (by simp)
      have hok' : ∀ y ∈ R', y.ok ∧ entB y.n y.v = true := fun y hy => hok y (by simp [hy])
      have htr := tr_cons fr to f K lo hi b x R' O hKe
      by_cases h1 : kN x = K
      rotate_left
      · rw [if_pos (by simp [h1])] at htr
        exact tree_key f ih fr to w0 S0 K lo hi b x R' O hlen h64' hx.1 hx.2 hok' hKe hK h1 w g A _ c rfl vO hr hC _ htr.symm
      by_cases h2 : ltB lo x.n = true
      rotate_left
      · rw [if_pos (by simp [h2])] at htr
        by_cases h2' : ltB x.n lo = true
        · exact tree_low1 f ih fr to w0 S0 K lo hi b x R' O hlen h64' hx.1 hx.2 hok' hKe hK h1 h2' w g A _ c rfl vO hr hC _ htr.symm
        · exact tree_low2 f ih fr to w0 S0 K lo hi b x R' O hlen h64' hx.1 hx.2 hok' hKe hK h1 (ltB_total (Bool.eq_false_iff.2 h2') (Bool.eq_false_iff.2 h2)) w g A _ c rfl vO hr hC _ htr.symm
      by_cases h3 : b = true ∧ ltB x.n hi = false
      · rw [if_pos (by simp [h3.1, h3.2])] at htr
        exact tree_high f ih fr to w0 S0 K lo hi b x R' O hlen h64' hx.1 hx.2 hok' hKe hK h1 h2 h3.1 h3.2 w g A _ c rfl vO hr hC _ htr.symm
      have h3' : (b && !ltB x.n hi) = false := by
        cases b
        · rfl
        · cases h : ltB x.n hi
          · exact absurd ⟨rfl, h⟩ h3
          · rfl
      rw [if_neg (by simp [h1, h2, h3'])] at htr
      by_cases h4 : ltB fr x.n = true
      · -- the left side is looked at
        rw [if_pos h4] at htr
        obtain ⟨s1, hs1⟩ : ∃ s1, tr fr to f x.l lo x.n true ⟨R', O, false⟩ = s1 := ⟨_, rfl⟩
        have hle : SwLe s1 ⟨R', O, false⟩ := by rw [← hs1]; exact tr_le _ _ _ _ _ _ _ _
        rw [hs1] at htr
        by_cases h6 : ltB x.n to = true
        · rw [if_pos h6, trPut_yes (ltB_asymm h4) h6] at htr
          obtain rfl | rfl : b = true ∨ b = false := by cases b <;> simp
          · exact tree_b_mid_in f ih fr to w0 S0 K lo hi true x R' O hlen h64' hx.1 hx.2 hok' hKe hK h1 h2 rfl (by simpa using h3') h4 h6 s1 hs1 hle w g A _ c rfl vO hr hC _ htr.symm
          · exact tree_n_mid_in f ih fr to w0 S0 K lo hi false x R' O hlen h64' hx.1 hx.2 hok' hKe hK h1 h2 rfl h4 h6 s1 hs1 hle w g A _ c rfl vO hr hC _ htr.symm
        · have h6' := Bool.eq_false_iff.2 h6
          rw [if_neg h6, trPut_no2 h6'] at htr
          obtain rfl | rfl : b = true ∨ b = false := by cases b <;> simp
          · exact tree_b_mid_out f ih fr to w0 S0 K lo hi true x R' O hlen h64' hx.1 hx.2 hok' hKe hK h1 h2 rfl (by simpa using h3') h4 h6' s1 hs1 hle w g A _ c rfl vO hr hC _ htr.symm
          · exact tree_n_mid_out f ih fr to w0 S0 K lo hi false x R' O hlen h64' hx.1 hx.2 hok' hKe hK h1 h2 rfl h4 h6' s1 hs1 hle w g A _ c rfl vO hr hC _ htr.symm
      · have h4' := Bool.eq_false_iff.2 h4
        rw [if_neg h4] at htr
        by_cases h5 : ltB x.n fr = true
        · rw [trPut_no1 h5] at htr
          by_cases h6 : ltB x.n to = true
          · rw [if_pos h6] at htr
            obtain rfl | rfl : b = true ∨ b = false := by cases b <;> simp
            · exact tree_b_low_in f ih fr to w0 S0 K lo hi true x R' O hlen h64' hx.1 hx.2 hok' hKe hK h1 h2 rfl (by simpa using h3') h5 h6 _ rfl (SwLe.refl _) w g A _ c rfl vO hr hC _ htr.symm
            · exact tree_n_low_in f ih fr to w0 S0 K lo hi false x R' O hlen h64' hx.1 hx.2 hok' hKe hK h1 h2 rfl h5 h6 _ rfl (SwLe.refl _) w g A _ c rfl vO hr hC _ htr.symm
          · have h6' := Bool.eq_false_iff.2 h6
            rw [if_neg h6] at htr
            obtain rfl | rfl : b = true ∨ b = false := by cases b <;> simp
            · exact tree_b_low_out f ih fr to w0 S0 K lo hi true x R' O hlen h64' hx.1 hx.2 hok' hKe hK h1 h2 rfl (by simpa using h3') h5 h6' _ rfl (SwLe.refl _) w g A _ c rfl vO hr hC _ htr.symm
            · exact tree_n_low_out f ih fr to w0 S0 K lo hi false x R' O hlen h64' hx.1 hx.2 hok' hKe hK h1 h2 rfl h5 h6' _ rfl (SwLe.refl _) w g A _ c rfl vO hr hC _ htr.symm
        · have h5' := Bool.eq_false_iff.2 h5
          by_cases h6 : ltB x.n to = true
          · rw [if_pos h6, trPut_yes h5' h6] at htr
            obtain rfl | rfl : b = true ∨ b = false := by cases b <;> simp
            · exact tree_b_eq_in f ih fr to w0 S0 K lo hi true x R' O hlen h64' hx.1 hx.2 hok' hKe hK h1 h2 rfl (by simpa using h3') h4' h5' h6 _ rfl (SwLe.refl _) w g A _ c rfl vO hr hC _ htr.symm
            · exact tree_n_eq_in f ih fr to w0 S0 K lo hi false x R' O hlen h64' hx.1 hx.2 hok' hKe hK h1 h2 rfl h4' h5' h6 _ rfl (SwLe.refl _) w g A _ c rfl vO hr hC _ htr.symm
          · have h6' := Bool.eq_false_iff.2 h6
            rw [if_neg h6, trPut_no2 h6'] at htr
            obtain rfl | rfl : b = true ∨ b = false := by cases b <;> simp
            · exact tree_b_eq_out f ih fr to w0 S0 K lo hi true x R' O hlen h64' hx.1 hx.2 hok' hKe hK h1 h2 rfl (by simpa using h3') h4' h5' h6' _ rfl (SwLe.refl _) w g A _ c rfl vO hr hC _ htr.symm
            · exact tree_n_eq_out f ih fr to w0 S0 K lo hi false x R' O hlen h64' hx.1 hx.2 hok' hKe hK h1 h2 rfl h4' h5' h6' _ rfl (SwLe.refl _) w g A _ c rfl vO hr hC _ htr.symm
end Go.Proofs.Ytipeaoanhcjnjaa
/- The range of a map that nodes tell: the reference. No condition. -/
namespace Go.Proofs.Ytipeaoanhcjnjaa
open Go.RowKit
set_option linter.unusedVariables false
set_option linter.unusedSimpArgs false

/-- the walk's end -/
def rgSt (K : List Int) (fr to : ByteArray) (L : List Nd) : Sw := tr fr to L.length K ⟨#[]⟩ ⟨#[]⟩ false ⟨L, [], false⟩
/-- what CheckRangeOfMap returns -/
def crR (K : List Int) (fr to : ByteArray) (L : List Nd) : List En × Int := if givenR L = 0 then (if (rgSt K fr to L).bad || !(rgSt K fr to L).R.isEmpty then ([], 8) else ((rgSt K fr to L).O, 0)) else ([], givenR L)
theorem givenR_zero {L : List Nd} (h : givenR L = 0) : okNs L = true ∧ L.length ≤ 64 := by
  unfold givenR at h
  split at h
  · rename_i h1
    split at h
    · cases h
    · exact ⟨h1, by omega⟩
  · cases h
set_option maxHeartbeats 4000000 in
set_option maxRecDepth 100000 in
theorem crBad (K : List Int) (hK : K32 K) (fr to : ByteArray) (v : Value) (L : List Nd) (w : World) (S : Nat → Prop) (h : RdL tNd w S v L) (gc : Int) (hgc : givenR L = gc) (hq : (gc != 0) = true) :
    Calls Try.prog 6 #[.agg (numsA .u8 K), .string fr, .string to, v] w fun e w' => ∃ v', e = .returned (.tuple #[v', .int .i64 gc]) ∧ Own tEnt 50 w' w.heap.size v' [] ∧ Ext w w' := by
  have hg := fun W hW => l04Given_any v L W S hW
  have hkl := hK.1
  have H := Lib.hid h
  obtain ⟨A, cap, rfl, _⟩ := id h
  clear h
  rw [hgc] at hg
  clear hgc
  go_enter Try.func6, Try.ntmps6
  go_wp2_with fail
  refine (hg _ (H.out.ext (by decide) (ext_alloc _ _))).mono ?_
  rintro e w1 ⟨rfl, hx⟩
  have HX := Lib.hid ((ext_alloc _ _).trans hx)
  clear hx
  go_wp2
  go_ret2
  exact ⟨_, rfl, Own.empty tEnt _ 50 _ HX.out.size, HX.out.alloc _⟩
set_option maxHeartbeats 4000000 in
set_option maxRecDepth 100000 in
theorem crLost (K : List Int) (hK : K32 K) (fr to : ByteArray) (v : Value) (L : List Nd) (w : World) (S : Nat → Prop) (h : RdL tNd w S v L) (hgz : givenR L = 0) (s : Sw) (hs : rgSt K fr to L = s) (hb : s.bad = true) :
    Calls Try.prog 6 #[.agg (numsA .u8 K), .string fr, .string to, v] w fun e w' => ∃ v', e = .returned (.tuple #[v', .int .i64 8]) ∧ Own tEnt 50 w' w.heap.size v' [] ∧ Ext w w' := by
  have hg := fun W hW => l04Given_any v L W S hW
  have hkl := hK.1
  have H := Lib.hid h
  obtain ⟨A, cap, rfl, _⟩ := id h
  clear h
  have hnd := H.out.choose_spec.choose_spec.2.2.2.2
  have hz := givenR_zero hgz
  have htr := fun W g vO hC => tree_any L.length fr to w S K ⟨#[]⟩ ⟨#[]⟩ false ⟨L, [], false⟩ (Nat.le_refl _) (by simpa using hz.2) (fun x hx => ⟨hnd x hx, by obtain ⟨i, hi, rfl⟩ := List.getElem_of_mem hx; exact okNs_at hz.1 hi⟩) hK W g A cap vO H.out hC
  unfold rgSt at hs
  simp only [hs] at htr
  rw [hgz] at hg
  simp only [hb] at htr
  clear hb
  clear hgz hz hnd hs
  go_enter Try.func6, Try.ntmps6
  go_wp2_with fail
  refine (hg _ (H.out.ext (by decide) (ext_alloc _ _))).mono ?_
  rintro e w1 ⟨rfl, hx⟩
  have HX := Lib.hid ((ext_alloc _ _).trans hx)
  have HKB := Lib.hid ((Blk.new w 28 (numsA .u8 K)).ext hx)
  clear hx hg
  have HKC := Lib.hid ((HKB.out.alloc (.cells #[] 50)).alloc (.cells #[.string fr, .string to, .slice A L.length cap, .slice (some ⟨w1.heap.size, 0, none⟩) 0 0, .bool false] 62))
  have hE2 : Ext w1 ((w1.alloc (.cells #[] 50)).alloc (.cells #[.string fr, .string to, .slice A L.length cap, .slice (some ⟨w1.heap.size, 0, none⟩) 0 0, .bool false] 62)) := (ext_alloc _ _).alloc _
  have HC2 := Lib.hid (Cx.start (t := 62) (w0 := w) (g := w1.heap.size + 1) (vO := .slice (some ⟨w1.heap.size, 0, none⟩) 0 0) (O := []) (Blk.new' (g := w1.heap.size + 1) (w := w1.alloc (.cells #[] 50)) (by simp) 62 #[.string fr, .string to, .slice A L.length cap, .slice (some ⟨w1.heap.size, 0, none⟩) 0 0, .bool false]) ((Own.empty tEnt w1 50 w.heap.size HX.out.size).alloc _) (HX.out.trans hE2) (fun e => absurd (Option.some.inj e) (by show ¬ (w1.heap.size = w1.heap.size + 1); omega)) (by have := HX.out.size; omega))
  clear hE2
  go_wp2_with (first
    | (refine wpl_loadB HKC.out aggKey (sizeN hkl) rfl _ rfl rfl ?_))
  refine (htr _ _ _ HC2.out).mono ?_
  rintro e w3 ⟨A3, c3, v3, rfl, hr3, hc3⟩
  obtain ⟨B3, m3, k3, rfl⟩ := hc3.own.shape3
  have HC3 := Lib.hid hc3
  clear hr3 hc3 htr HC2 HKC HKB
  have d2 := HC3.out.blk.at_ 2 rfl
  have d3 := HC3.out.blk.at_ 3 rfl
  have d4 := HC3.out.blk.at_ 4 rfl
  go_wp2
  go_ret2
  exact ⟨_, rfl, Own.empty tEnt _ 50 _ HC3.out.ext.size, HC3.out.ext.alloc _⟩
set_option maxHeartbeats 4000000 in
set_option maxRecDepth 100000 in
theorem crLeft (K : List Int) (hK : K32 K) (fr to : ByteArray) (v : Value) (L : List Nd) (w : World) (S : Nat → Prop) (h : RdL tNd w S v L) (hgz : givenR L = 0) (s : Sw) (hs : rgSt K fr to L = s) (hb : s.bad = false) (h0 : ¬ s.R.length = 0) :
    Calls Try.prog 6 #[.agg (numsA .u8 K), .string fr, .string to, v] w fun e w' => ∃ v', e = .returned (.tuple #[v', .int .i64 8]) ∧ Own tEnt 50 w' w.heap.size v' [] ∧ Ext w w' := by
  have hg := fun W hW => l04Given_any v L W S hW
  have hkl := hK.1
  have H := Lib.hid h
  obtain ⟨A, cap, rfl, _⟩ := id h
  clear h
  have hnd := H.out.choose_spec.choose_spec.2.2.2.2
  have hz := givenR_zero hgz
  have htr := fun W g vO hC => tree_any L.length fr to w S K ⟨#[]⟩ ⟨#[]⟩ false ⟨L, [], false⟩ (Nat.le_refl _) (by simpa using hz.2) (fun x hx => ⟨hnd x hx, by obtain ⟨i, hi, rfl⟩ := List.getElem_of_mem hx; exact okNs_at hz.1 hi⟩) hK W g A cap vO H.out hC
  unfold rgSt at hs
  simp only [hs] at htr
  rw [hgz] at hg
  simp only [hb] at htr
  have hq : (0 : Int) < (s.R.length : Int) := by omega
  clear hb h0
  clear hgz hz hnd hs
  go_enter Try.func6, Try.ntmps6
  go_wp2_with fail
  refine (hg _ (H.out.ext (by decide) (ext_alloc _ _))).mono ?_
  rintro e w1 ⟨rfl, hx⟩
  have HX := Lib.hid ((ext_alloc _ _).trans hx)
  have HKB := Lib.hid ((Blk.new w 28 (numsA .u8 K)).ext hx)
  clear hx hg
  have HKC := Lib.hid ((HKB.out.alloc (.cells #[] 50)).alloc (.cells #[.string fr, .string to, .slice A L.length cap, .slice (some ⟨w1.heap.size, 0, none⟩) 0 0, .bool false] 62))
  have hE2 : Ext w1 ((w1.alloc (.cells #[] 50)).alloc (.cells #[.string fr, .string to, .slice A L.length cap, .slice (some ⟨w1.heap.size, 0, none⟩) 0 0, .bool false] 62)) := (ext_alloc _ _).alloc _
  have HC2 := Lib.hid (Cx.start (t := 62) (w0 := w) (g := w1.heap.size + 1) (vO := .slice (some ⟨w1.heap.size, 0, none⟩) 0 0) (O := []) (Blk.new' (g := w1.heap.size + 1) (w := w1.alloc (.cells #[] 50)) (by simp) 62 #[.string fr, .string to, .slice A L.length cap, .slice (some ⟨w1.heap.size, 0, none⟩) 0 0, .bool false]) ((Own.empty tEnt w1 50 w.heap.size HX.out.size).alloc _) (HX.out.trans hE2) (fun e => absurd (Option.some.inj e) (by show ¬ (w1.heap.size = w1.heap.size + 1); omega)) (by have := HX.out.size; omega))
  clear hE2
  go_wp2_with (first
    | (refine wpl_loadB HKC.out aggKey (sizeN hkl) rfl _ rfl rfl ?_))
  refine (htr _ _ _ HC2.out).mono ?_
  rintro e w3 ⟨A3, c3, v3, rfl, hr3, hc3⟩
  obtain ⟨B3, m3, k3, rfl⟩ := hc3.own.shape3
  have HC3 := Lib.hid hc3
  clear hr3 hc3 htr HC2 HKC HKB
  have d2 := HC3.out.blk.at_ 2 rfl
  have d3 := HC3.out.blk.at_ 3 rfl
  have d4 := HC3.out.blk.at_ 4 rfl
  go_wp2
  go_ret2
  exact ⟨_, rfl, Own.empty tEnt _ 50 _ HC3.out.ext.size, HC3.out.ext.alloc _⟩
set_option maxHeartbeats 4000000 in
set_option maxRecDepth 100000 in
theorem crOk (K : List Int) (hK : K32 K) (fr to : ByteArray) (v : Value) (L : List Nd) (w : World) (S : Nat → Prop) (h : RdL tNd w S v L) (hgz : givenR L = 0) (s : Sw) (hs : rgSt K fr to L = s) (hb : s.bad = false) (h0 : s.R.length = 0) :
    Calls Try.prog 6 #[.agg (numsA .u8 K), .string fr, .string to, v] w fun e w' => ∃ v', e = .returned (.tuple #[v', .int .i64 0]) ∧ Own tEnt 50 w' w.heap.size v' s.O ∧ Ext w w' := by
  have hg := fun W hW => l04Given_any v L W S hW
  have hkl := hK.1
  have H := Lib.hid h
  obtain ⟨A, cap, rfl, _⟩ := id h
  clear h
  have hnd := H.out.choose_spec.choose_spec.2.2.2.2
  have hz := givenR_zero hgz
  have htr := fun W g vO hC => tree_any L.length fr to w S K ⟨#[]⟩ ⟨#[]⟩ false ⟨L, [], false⟩ (Nat.le_refl _) (by simpa using hz.2) (fun x hx => ⟨hnd x hx, by obtain ⟨i, hi, rfl⟩ := List.getElem_of_mem hx; exact okNs_at hz.1 hi⟩) hK W g A cap vO H.out hC
  unfold rgSt at hs
  simp only [hs] at htr
  rw [hgz] at hg
  simp only [hb, h0] at htr
  clear hb h0
  clear hgz hz hnd hs
  go_enter Try.func6, Try.ntmps6
  go_wp2_with fail
  refine (hg _ (H.out.ext (by decide) (ext_alloc _ _))).mono ?_
  rintro e w1 ⟨rfl, hx⟩
  have HX := Lib.hid ((ext_alloc _ _).trans hx)
  have HKB := Lib.hid ((Blk.new w 28 (numsA .u8 K)).ext hx)
  clear hx hg
  have HKC := Lib.hid ((HKB.out.alloc (.cells #[] 50)).alloc (.cells #[.string fr, .string to, .slice A L.length cap, .slice (some ⟨w1.heap.size, 0, none⟩) 0 0, .bool false] 62))
  have hE2 : Ext w1 ((w1.alloc (.cells #[] 50)).alloc (.cells #[.string fr, .string to, .slice A L.length cap, .slice (some ⟨w1.heap.size, 0, none⟩) 0 0, .bool false] 62)) := (ext_alloc _ _).alloc _
  have HC2 := Lib.hid (Cx.start (t := 62) (w0 := w) (g := w1.heap.size + 1) (vO := .slice (some ⟨w1.heap.size, 0, none⟩) 0 0) (O := []) (Blk.new' (g := w1.heap.size + 1) (w := w1.alloc (.cells #[] 50)) (by simp) 62 #[.string fr, .string to, .slice A L.length cap, .slice (some ⟨w1.heap.size, 0, none⟩) 0 0, .bool false]) ((Own.empty tEnt w1 50 w.heap.size HX.out.size).alloc _) (HX.out.trans hE2) (fun e => absurd (Option.some.inj e) (by show ¬ (w1.heap.size = w1.heap.size + 1); omega)) (by have := HX.out.size; omega))
  clear hE2
  go_wp2_with (first
    | (refine wpl_loadB HKC.out aggKey (sizeN hkl) rfl _ rfl rfl ?_))
  refine (htr _ _ _ HC2.out).mono ?_
  rintro e w3 ⟨A3, c3, v3, rfl, hr3, hc3⟩
  obtain ⟨B3, m3, k3, rfl⟩ := hc3.own.shape3
  have HC3 := Lib.hid hc3
  clear hr3 hc3 htr HC2 HKC HKB
  have d2 := HC3.out.blk.at_ 2 rfl
  have d3 := HC3.out.blk.at_ 3 rfl
  have d4 := HC3.out.blk.at_ 4 rfl
  go_wp2
  go_ret2
  exact ⟨_, rfl, HC3.out.own, HC3.out.ext⟩
set_option maxHeartbeats 1000000 in
set_option maxRecDepth 100000 in
theorem specCheckRange_any (K : List Int) (hK : K32 K) (fr to : ByteArray) (v : Value) (L : List Nd) (w : World) (S : Nat → Prop) (h : RdL tNd w S v L) :
    Calls Try.prog 6 #[.agg (numsA .u8 K), .string fr, .string to, v] w fun e w' => ∃ v', e = .returned (.tuple #[v', .int .i64 (crR K fr to L).2]) ∧ Own tEnt 50 w' w.heap.size v' (crR K fr to L).1 ∧ Ext w w' := by
  by_cases hg : givenR L = 0
  · obtain ⟨s, hs⟩ : ∃ s, rgSt K fr to L = s := ⟨_, rfl⟩
    rw [crR, if_pos hg, hs]
    cases hb : s.bad with
    | true =>
      rw [if_pos (by rw [Bool.true_or])]
      exact crLost K hK fr to v L w S h hg s hs hb
    | false =>
      by_cases h0 : s.R.length = 0
      · rw [if_neg (by simp [List.eq_nil_of_length_eq_zero h0])]
        exact crOk K hK fr to v L w S h hg s hs hb h0
      · rw [if_pos (by cases hR : s.R with | nil => rw [hR] at h0; exact absurd rfl h0 | cons x r => rfl)]
        exact crLeft K hK fr to v L w S h hg s hs hb h0
  · rw [crR, if_neg hg]
    exact crBad K hK fr to v L w S h _ rfl (by rw [bne_iff_ne]; exact hg)
end Go.Proofs.Ytipeaoanhcjnjaa
/- Commits: copied, counted, held against each other. No condition. -/
namespace Go.Proofs.Ytipeaoanhcjnjaa
open Go.RowKit
set_option linter.unusedVariables false
set_option linter.unusedSimpArgs false

structure Cm where
  root : List Int
  par : List (List Int)
  num : Int
  note : ByteArray
def Cm.cells (x : Cm) (v : Value) : Array Value := (nums .u8 x.root ++ [v, .int .i64 x.num, .string x.note]).toArray
/-- the cells of a commit -/
def RCommit (w : World) (S : Nat → Prop) (cs : Array Value) (x : Cm) : Prop :=
  ∃ v, cs = x.cells v ∧ RdL tKey w S v x.par ∧ K32 x.root ∧ (Lit.int .i64 x.num).wf = true ∧ x.note.size ≤ 140737488351232
section
variable {w w' : World} {S : Nat → Prop} {cs : Array Value} {x : Cm}
theorem RCommit.ext (h : RCommit w S cs x) (e : Ext w w') : RCommit w' S cs x := by
  obtain ⟨v, h1, h2, h3⟩ := h
  exact ⟨v, h1, h2.ext (by decide) e, h3⟩
theorem Cm.st (hr : K32 x.root) (A : Option Addr) (n c : Nat) : St 35 (x.cells (.slice A n c)) := by
  refine ⟨by simp [Cm.cells, nums_length, hr.1], fun u hu => ?_⟩
  rw [Cm.cells, List.toList_toArray] at hu
  rcases List.mem_append.1 hu with hu | hu
  · exact one_nums _ _ u hu
  · simp at hu; rcases hu with rfl | rfl | rfl <;> rfl
theorem RCommit.st (h : RCommit w S cs x) : St 35 cs := by
  obtain ⟨v, rfl, ⟨A, cap, rfl, _⟩, h3, _⟩ := h
  exact Cm.st h3 _ _ _
theorem Cm.at_ (hr : K32 x.root) (v : Value) : (x.cells v)[32]? = some v ∧ (x.cells v)[33]? = some (.int .i64 x.num) ∧ (x.cells v)[34]? = some (.string x.note) := by
  have := hr.1
  refine ⟨?_, ?_, ?_⟩ <;> rw [Cm.cells, List.getElem?_toArray, List.getElem?_append_right (by rw [nums_length]; omega), nums_length, this] <;> rfl
end
end Go.Proofs.Ytipeaoanhcjnjaa
/- Which commits are valid: the reference and the program. No condition. -/
namespace Go.Proofs.Ytipeaoanhcjnjaa
open Go.RowKit
set_option linter.unusedVariables false
set_option linter.unusedSimpArgs false

end Go.Proofs.Ytipeaoanhcjnjaa
/- Equal lists of keys and equal commits: the reference and the program. No condition. -/
namespace Go.Proofs.Ytipeaoanhcjnjaa
open Go.RowKit
set_option linter.unusedVariables false
set_option linter.unusedSimpArgs false

/-- a load of a part of a variable that any world behind w0 answers alike -/
theorem yields_loadP {P : Program} {ops : Array Oper} {op : Oper} {a : Act} {w0 : World} {t g e n off : Nat} {cs sub : Array Value} (hb : Blk w0 g e cs) (ht : Agg P t n) (hn : sub.size = n) (hp : ∀ j u, sub[j]? = some u → cs[off + j]? = some u) (hw : Region.wanted op (yielded ops a.tmps) = true) (x : Operand) (ho : op.op = .load t x) (hx : a.eval x = .pointer (some ⟨g, off, none⟩)) :
    YieldsIf P ops (fun W => Ext w0 W) op (.agg sub) a := by
  have := yields_loadR (P := P) (ops := ops) (op := op) (a := a) (w0 := w0) (t := t) g off sub.toList (by simpa [hn] using ht) (fun j u hu => by
    rw [hb.cell]
    exact hp j u (by simpa using hu)) hw x ho hx
  simpa using this
end Go.Proofs.Ytipeaoanhcjnjaa
/- The program's sweep over nodes that tell a range: its state, what is asked of it. No condition. -/
namespace Go.Proofs.Ytipeaoanhcjnjaa
open Go.RowKit
set_option linter.unusedVariables false
set_option linter.unusedSimpArgs false

/-- the cells of the sweep -/
def swCs (fr to : ByteArray) (sl vO : Value) : Array Value := ([.string fr, .string to, sl] ++ (nums .u8 emptyL ++ [vO])).toArray
theorem emptyL_len : (nums .u8 emptyL).length = 32 := by rw [nums_length, emptyL_ok.1]
theorem sw0 (fr to : ByteArray) (sl vO : Value) : (swCs fr to sl vO)[0]? = some (.string fr) := by simp [swCs]
theorem sw1 (fr to : ByteArray) (sl vO : Value) : (swCs fr to sl vO)[1]? = some (.string to) := by simp [swCs]
theorem sw2 (fr to : ByteArray) (sl vO : Value) : (swCs fr to sl vO)[2]? = some sl := by simp [swCs]
theorem sw35 (fr to : ByteArray) (sl vO : Value) : (swCs fr to sl vO)[35]? = some vO := by
  unfold swCs
  rw [List.getElem?_toArray, List.getElem?_append_right (by simp), List.getElem?_append_right (by rw [emptyL_len]; simp), emptyL_len]
  rfl
theorem swE (fr to : ByteArray) (sl vO : Value) (j : Nat) (u : Value) (hu : (numsA .u8 emptyL)[j]? = some u) : (swCs fr to sl vO)[3 + j]? = some u := by
  unfold swCs
  rw [numsA, List.getElem?_toArray] at hu
  have hj := (List.getElem?_eq_some_iff.1 hu).1
  rw [List.getElem?_toArray, List.getElem?_append_right (by simp), List.getElem?_append_left (by simp; omega)]
  simpa using hu
theorem sw_set2 (fr to : ByteArray) (sl vO u : Value) : (swCs fr to sl vO).setIfInBounds 2 u = swCs fr to u vO := by
  unfold swCs
  rw [List.setIfInBounds_toArray]
  rfl
theorem sw_set35 (fr to : ByteArray) (sl vO u : Value) : (swCs fr to sl vO).setIfInBounds 35 u = swCs fr to sl u := by
  unfold swCs
  rw [List.setIfInBounds_toArray, List.set_append_right _ _ (by simp), List.set_append_right _ _ (by rw [emptyL_len]; simp), emptyL_len]
  rfl
/-- a bound: none, or the address of a text -/
def PtrS (w : World) (vp : Value) (t : Option ByteArray) : Prop := match t with | none => vp = .pointer none | some s => ∃ lb, vp = .pointer (some ⟨lb, 0, none⟩) ∧ Blk w lb 9 #[.string s]
theorem PtrS.cx {w0 w W W' : World} {g : Nat} {cs cs' : Array Value} {vO0 vO vO' : Value} {O O' : List En} {vp : Value} {t : Option ByteArray} (h : PtrS W vp t) (hC : Cx 68 w0 w W g cs vO0 vO O) (k : Cx 68 w0 W W' g cs' vO vO' O') : PtrS W' vp t := by
  cases t with
  | none => exact h
  | some s =>
    obtain ⟨lb, e, hb⟩ := h
    refine ⟨lb, e, hb.cx hC k (fun e2 => ?_) (by decide)⟩
    subst e2
    have h2 := hC.blk
    unfold Blk at hb h2
    rw [hb] at h2
    injection h2 with h2
    injection h2 with _ h2
    revert h2
    decide
theorem PtrS.ext {w w' : World} {vp : Value} {t : Option ByteArray} (h : PtrS w vp t) (hx : Ext w w') : PtrS w' vp t := by
  cases t with
  | none => exact h
  | some s =>
    obtain ⟨lb, e, hb⟩ := h
    exact ⟨lb, e, hb.ext hx⟩
theorem trPut_bad (fr to : ByteArray) (x : Nd) (s : Sw) : (trPut fr to x s).bad = s.bad := (trPut_len fr to x s).2.2
/-- what is amiss stays so -/
theorem tr_amiss (fr to : ByteArray) (f : Nat) (K : List Int) (lo hi : ByteArray) (b : Bool) (s : Sw) (h : s.bad = true) : (tr fr to f K lo hi b s).bad = true := by
  rw [tr_idle _ _ _ _ _ _ _ _ (by rw [h]; rfl)]; exact h
theorem name_pos {s : ByteArray} (h : nameB s = true) : ltB ⟨#[]⟩ s = true := by
  rw [nameB_eq] at h
  cases h0 : ltB ⟨#[]⟩ s with
  | true => rfl
  | false =>
    have h1 : ltB s ⟨#[]⟩ = false := by
      rw [← ltB_eq]
      rw [show (⟨#[]⟩ : ByteArray).toList = [] by rw [ByteArray.toList_eq]]
      cases s.toList <;> rfl
    have := ltB_total h0 h1
    subst this
    revert h
    decide
/-- what is asked of look -/
def LookC (f : Nat) : Prop := ∀ (fr to : ByteArray) (w0 : World) (S0 : Nat → Prop) (K : List Int) (lo hi : Option ByteArray) (R : List Nd) (O : List En), R.length ≤ f → O.length + R.length ≤ 64 → (∀ x ∈ R, x.ok ∧ entB x.n x.v = true) → K32 K →
  ∀ (w : World) (g : Nat) (A : Option Addr) (c : Nat) (vO vl vh : Value), RdL tNd w0 S0 (.slice A R.length c) R → Cx 68 w0 w w g (swCs fr to (.slice A R.length c) vO) vO vO O → PtrS w vl lo → PtrS w vh hi →
  Calls Try.prog 35 #[.pointer (some ⟨g, 0, none⟩), .agg (numsA .u8 K), vl, vh] w fun e w' => ∃ A' n' c' vO' O', e = .returned (.bool (!(tr fr to f K (lo.getD ⟨#[]⟩) (hi.getD ⟨#[]⟩) hi.isSome ⟨R, O, false⟩).bad)) ∧
    Cx 68 w0 w w' g (swCs fr to (.slice A' n' c') vO') vO vO' O' ∧ ((tr fr to f K (lo.getD ⟨#[]⟩) (hi.getD ⟨#[]⟩) hi.isSome ⟨R, O, false⟩).bad = false → n' = (tr fr to f K (lo.getD ⟨#[]⟩) (hi.getD ⟨#[]⟩) hi.isSome ⟨R, O, false⟩).R.length ∧
      O' = (tr fr to f K (lo.getD ⟨#[]⟩) (hi.getD ⟨#[]⟩) hi.isSome ⟨R, O, false⟩).O ∧ RdL tNd w0 S0 (.slice A' n' c') (tr fr to f K (lo.getD ⟨#[]⟩) (hi.getD ⟨#[]⟩) hi.isSome ⟨R, O, false⟩).R)
end Go.Proofs.Ytipeaoanhcjnjaa
/- A path that is looked at: the program. No condition. -/
namespace Go.Proofs.Ytipeaoanhcjnjaa
open Go.RowKit
set_option linter.unusedVariables false
set_option linter.unusedSimpArgs false

set_option maxHeartbeats 1000000 in
set_option maxRecDepth 100000 in
theorem areFn_any (x : Nd) (hok : x.ok) (w : World) :
    Calls Try.prog 62 #[.agg x.enc.toArray] w fun e w' => e = .returned (.bool (!entB x.n x.v)) ∧ Ext w w' := by
  have hv := fun W => validEntry_any x.n x.v hok.2.2.1 hok.2.2.2 W
  go_enter Try.func62, Try.ntmps62
  go_wp2_with (refine wpl_loadP (off := 64) (sub := #[.string x.n, .string x.v]) (Blk.new w 52 x.enc.toArray) aggEntryI rfl (Nd.ent hok) rfl _ rfl rfl ?_)
  refine (hv _).mono ?_
  rintro e w1 ⟨rfl, hx⟩
  have XW := Lib.hid ((ext_alloc w _).trans hx)
  clear hx hv
  go_wp2
  go_ret
  exact ⟨rfl, XW.out⟩
set_option maxHeartbeats 1000000 in
set_option maxRecDepth 100000 in
theorem areIdx_any (v : Value) (L : List Nd) (w : World) (S : Nat → Prop) (h : RdL tNd w S v L) :
    Calls Try.prog 78 #[v, .func (.func 62) #[] #[]] w fun q w' => (∃ r : Int, q = .returned (.int .i64 r) ∧ decide (0 ≤ r) = !okNs L) ∧ Ext w w' := by
  obtain ⟨A, cap, rfl, hcap, hlen, hrd, hok⟩ := h
  have Hrd := Lib.hid hrd
  have Hok := Lib.hid hok
  clear hrd hok
  go_enter Try.func78, Try.ntmps78
  go_wp2
  go_loopw [8] (fun i wr => ∃ k : Nat, k ≤ L.length ∧ i = .int .i64 k ∧ (∀ p (hp : p < L.length), p < k → entB L[p].n L[p].v = true) ∧ Ext w wr) (fun i _ => L.length - (intOf i).toNat)
  case atStart => exact ⟨0, by omega, rfl, fun j hj h => by omega, Ext.refl _⟩
  case round =>
    obtain ⟨k, hk, rfl, hm, hx⟩ := hrel
    have HX := Lib.hid hx
    have HM := Lib.hid hm
    clear hx hm
    by_cases hlt : k < L.length
    · obtain ⟨g, o, rfl, hs0, hc⟩ := Hrd.out.elem Hok.out k hlt
      have HD0 := Lib.hid (show ∀ j u, L[k].enc[j]? = some u → wr.cell? ⟨g, o + k * 66 + j, none⟩ = some u from fun j u hu => HX.out.cell (hc j u hu))
      have HXO := Lib.hid (show L[k].ok from Hok.out _ (List.getElem_mem hlt))
      have hf := fun W => areFn_any L[k] HXO.out W
      have hk0 : (0 : Int) ≤ (k : Int) := by omega
      have hk2 : (k : Int) < (L.length : Int) := by omega
      clear hc
      cases hq : entB L[k].n L[k].v with
      | true =>
        simp only [hq] at hf
        go_wp2_with (refine wpl_load ⟨g, o + k * 66, none⟩ L[k].enc (by rw [Nd.enc_length HXO.out]; exact aggNodeI) rfl _ rfl rfl (fun j u hu => by rw [Addr.add_lit]; exact HD0.out j u hu) ?_)
        refine (hf _).mono ?_
        rintro e w1 ⟨rfl, hx⟩
        have HX1 := Lib.hid (HX.out.trans hx)
        clear hx hf
        go_wp2
        go_roundw
        case rel => exact ⟨k + 1, by omega, by go_num, fun p hp h => by
          by_cases e : p = k
          · subst e; exact hq
          · exact HM.out p hp (by omega), HX1.out⟩
        case measure => simp [intOf]; omega
      | false =>
        simp only [hq] at hf
        have HQ := Lib.hid (okNs_bad hlt hq)
        go_wp2_with (refine wpl_load ⟨g, o + k * 66, none⟩ L[k].enc (by rw [Nd.enc_length HXO.out]; exact aggNodeI) rfl _ rfl rfl (fun j u hu => by rw [Addr.add_lit]; exact HD0.out j u hu) ?_)
        refine (hf _).mono ?_
        rintro e w1 ⟨rfl, hx⟩
        have HX1 := Lib.hid (HX.out.trans hx)
        clear hx hf
        go_wp2
        go_ret
        exact ⟨⟨k, rfl, by rw [HQ.out]; simp⟩, HX1.out⟩
    · obtain rfl : k = L.length := by omega
      have HQ := Lib.hid (okNs_good fun p hp => HM.out p hp hp)
      go_wp2
      go_ret
      exact ⟨⟨-1, rfl, by rw [HQ.out]; rfl⟩, HX.out⟩
set_option maxHeartbeats 1000000 in
set_option maxRecDepth 100000 in
theorem areNodes_any (v : Value) (L : List Nd) (w : World) (S : Nat → Prop) (h : RdL tNd w S v L) :
    Calls Try.prog 33 #[v] w fun q w' => q = .returned (.bool (okNs L)) ∧ Ext w w' := by
  have hi := areIdx_any v L w S h
  have hc : Calls Try.prog 61 #[v, .func (.func 62) #[] #[]] w fun q w' => q = .returned (.bool (!okNs L)) ∧ Ext w w' := by
    obtain ⟨A, cap, rfl, _⟩ := h
    go_enter Try.func61, Try.ntmps61
    go_wp2_with fail
    refine hi.mono ?_
    rintro e w1 ⟨⟨r, rfl, hr⟩, hx⟩
    have HX := Lib.hid hx
    have HR := Lib.hid hr
    clear hx hr hi
    go_wp2
    go_ret
    exact ⟨by rw [← HR.out]; rfl, HX.out⟩
  obtain ⟨A, cap, rfl, _⟩ := h
  go_enter Try.func33, Try.ntmps33
  go_wp2_with fail
  refine hc.mono ?_
  rintro e w1 ⟨rfl, hx⟩
  have HX := Lib.hid hx
  clear hx hc hi
  go_wp2
  go_ret
  exact ⟨by simp, HX.out⟩
end Go.Proofs.Ytipeaoanhcjnjaa
/- The program's sweep: no tree, no node, another key. No condition. -/
namespace Go.Proofs.Ytipeaoanhcjnjaa
open Go.RowKit
set_option linter.unusedVariables false
set_option linter.unusedSimpArgs false

set_option maxHeartbeats 16000000 in
set_option maxRecDepth 100000 in
theorem look_idle (fr to : ByteArray) (w0 : World) (S0 : Nat → Prop) (K : List Int) (hK : K32 K) (O : List En) (R : List Nd) (hKe : K = emptyL)
    (w : World) (g : Nat) (A : Option Addr) (n c : Nat) (vO vl vh : Value) (hr : RdL tNd w0 S0 (.slice A n c) (R)) (hC : Cx 68 w0 w w g (swCs fr to (.slice A n c) vO) vO vO O) (t9 : Sw) (hnr : n = R.length) (HT : (⟨R, O, false⟩ : Sw) = t9)
    :
    Calls Try.prog 35 #[.pointer (some ⟨g, 0, none⟩), .agg (numsA .u8 K), vl, vh] w fun e w' => ∃ A' n' c' vO' O', e = .returned (.bool (!t9.bad)) ∧
      Cx 68 w0 w w' g (swCs fr to (.slice A' n' c') vO') vO vO' O' ∧ (t9.bad = false → n' = t9.R.length ∧ O' = t9.O ∧ RdL tNd w0 S0 (.slice A' n' c') t9.R) := by
  have HNR := Lib.hid hnr
  clear hnr
  have hkl := hK.1
  have HC := Lib.hid hC
  have HR := Lib.hid hr
  have HK := Lib.hid hK
  have heql : ∀ W, (binOp .eql 28 (.agg (numsA .u8 K)) (.agg (numsA .u8 emptyL))).run Try.prog W = .ok (.bool true) W := fun W => by
    have := run_eqKey K emptyL HK.out emptyL_ok W
    rw [decide_eq_true hKe] at this
    exact this
  clear hC hr hK hKe
  go_enter Try.func35, Try.ntmps35
  go_wp2_with fail
  have HA := Lib.hid (HC.out.go (ext_alloc w (.cells (numsA .u8 K) 28)))
  have HKB := Lib.hid (Blk.new w 28 (numsA .u8 K))
  generalize w.alloc (.cells (numsA .u8 K) 28) = wa at HA HKB ⊢
  refine wp_region_held_drew (S := fun W => Ext wa W) (by kernel_rfl) (Ext.refl _).drew (fun hHeld => ?_)
  refine tkI 0 (v := (.agg (numsA .u8 K))) (by simp only [List.getElem?_toArray, List.getElem?_cons_zero, List.getElem?_cons_succ]; rfl) (by kernel_rfl) (by exact fun _ _ _ h => h) (by refine yields_loadB HKB.out aggKey (sizeN hkl) ?_ _ rfl rfl; rfl) (by assumption) ?_
  try simp only [Act.put, List.setIfInBounds_toArray, List.set_cons_zero, List.set_cons_succ]
  iterate 3
    refine tkD 0 (by simp only [List.size_toArray, List.length_cons, List.length_nil]; rfl) (by simp only [List.getElem?_toArray, List.getElem?_cons_zero, List.getElem?_cons_succ]; rfl) (by kernel_rfl) (by exact fun _ _ _ h => h) (by first | (exact Or.inl ⟨by rfl, by intro w hSw; (try dsimp only at hSw); go_simp; with_reducible rfl⟩) | (exact Or.inr ⟨by rfl, by rfl⟩)) (by assumption) ?_
    try simp only [Act.put, List.setIfInBounds_toArray, List.set_cons_zero, List.set_cons_succ]
  refine tkI 4 (v := (.agg (numsA .u8 emptyL))) (by simp only [List.getElem?_toArray, List.getElem?_cons_zero, List.getElem?_cons_succ]; rfl) (by kernel_rfl) (by exact fun _ _ _ h => h) (by refine yields_loadP (off := 3) HA.out.blk aggKey (sizeN emptyL_ok.1) (swE fr to _ _) ?_ _ rfl rfl; rfl) (by assumption) ?_
  try simp only [Act.put, List.setIfInBounds_toArray, List.set_cons_zero, List.set_cons_succ]
  refine tkI 5 (by simp only [List.getElem?_toArray, List.getElem?_cons_zero, List.getElem?_cons_succ]; rfl) (by kernel_rfl) (by exact fun _ _ _ h => h) (by first | (exact Or.inl ⟨by rfl, by intro w hSw; (try dsimp only at hSw); go_simp; with_reducible rfl⟩) | (exact Or.inr ⟨by rfl, by rfl⟩)) (by assumption) ?_
  try simp only [Act.put, List.setIfInBounds_toArray, List.set_cons_zero, List.set_cons_succ]
  refine wpAnyH_done (by kernel_rfl) ?_ _
  have HB1 := Lib.hid (HA.out.go hHeld)
  have HK2 := Lib.hid (HKB.out.ext hHeld)
  clear hHeld HA HKB
  generalize World.drew wa = w1 at HB1 HK2 ⊢
  go_wp2
  go_ret
  subst HT
  exact ⟨A, n, c, vO, O, rfl, HB1.out, fun _ => ⟨HNR.out, rfl, HR.out⟩⟩
set_option maxHeartbeats 16000000 in
set_option maxRecDepth 100000 in
theorem look_none (fr to : ByteArray) (w0 : World) (S0 : Nat → Prop) (K : List Int) (hK : K32 K) (O : List En) (hKe : K ≠ emptyL)
    (w : World) (g : Nat) (A : Option Addr) (n0 c : Nat) (vO vl vh : Value) (hr : RdL tNd w0 S0 (.slice A 0 c) ([])) (hC : Cx 68 w0 w w g (swCs fr to (.slice A 0 c) vO) vO vO O) (t9 : Sw) (HT : t9.bad = true)
    :
    Calls Try.prog 35 #[.pointer (some ⟨g, 0, none⟩), .agg (numsA .u8 K), vl, vh] w fun e w' => ∃ A' n' c' vO' O', e = .returned (.bool (!t9.bad)) ∧
      Cx 68 w0 w w' g (swCs fr to (.slice A' n' c') vO') vO vO' O' ∧ (t9.bad = false → n' = t9.R.length ∧ O' = t9.O ∧ RdL tNd w0 S0 (.slice A' n' c') t9.R) := by
  have hkl := hK.1
  have HC := Lib.hid hC
  have HR := Lib.hid hr
  have HK := Lib.hid hK
  have heql : ∀ W, (binOp .eql 28 (.agg (numsA .u8 K)) (.agg (numsA .u8 emptyL))).run Try.prog W = .ok (.bool false) W := fun W => by
    have := run_eqKey K emptyL HK.out emptyL_ok W
    rw [decide_eq_false hKe] at this
    exact this
  clear hC hr hK hKe
  go_enter Try.func35, Try.ntmps35
  go_wp2_with fail
  have HA := Lib.hid (HC.out.go (ext_alloc w (.cells (numsA .u8 K) 28)))
  have HKB := Lib.hid (Blk.new w 28 (numsA .u8 K))
  generalize w.alloc (.cells (numsA .u8 K) 28) = wa at HA HKB ⊢
  refine wp_region_held_drew (S := fun W => Ext wa W) (by kernel_rfl) (Ext.refl _).drew (fun hHeld => ?_)
  refine tkI 0 (v := (.agg (numsA .u8 K))) (by simp only [List.getElem?_toArray, List.getElem?_cons_zero, List.getElem?_cons_succ]; rfl) (by kernel_rfl) (by exact fun _ _ _ h => h) (by refine yields_loadB HKB.out aggKey (sizeN hkl) ?_ _ rfl rfl; rfl) (by assumption) ?_
  try simp only [Act.put, List.setIfInBounds_toArray, List.set_cons_zero, List.set_cons_succ]
  iterate 3
    refine tkD 0 (by simp only [List.size_toArray, List.length_cons, List.length_nil]; rfl) (by simp only [List.getElem?_toArray, List.getElem?_cons_zero, List.getElem?_cons_succ]; rfl) (by kernel_rfl) (by exact fun _ _ _ h => h) (by first | (exact Or.inl ⟨by rfl, by intro w hSw; (try dsimp only at hSw); go_simp; with_reducible rfl⟩) | (exact Or.inr ⟨by rfl, by rfl⟩)) (by assumption) ?_
    try simp only [Act.put, List.setIfInBounds_toArray, List.set_cons_zero, List.set_cons_succ]
  refine tkI 4 (v := (.agg (numsA .u8 emptyL))) (by simp only [List.getElem?_toArray, List.getElem?_cons_zero, List.getElem?_cons_succ]; rfl) (by kernel_rfl) (by exact fun _ _ _ h => h) (by refine yields_loadP (off := 3) HA.out.blk aggKey (sizeN emptyL_ok.1) (swE fr to _ _) ?_ _ rfl rfl; rfl) (by assumption) ?_
  try simp only [Act.put, List.setIfInBounds_toArray, List.set_cons_zero, List.set_cons_succ]
  refine tkI 5 (by simp only [List.getElem?_toArray, List.getElem?_cons_zero, List.getElem?_cons_succ]; rfl) (by kernel_rfl) (by exact fun _ _ _ h => h) (by first | (exact Or.inl ⟨by rfl, by intro w hSw; (try dsimp only at hSw); go_simp; with_reducible rfl⟩) | (exact Or.inr ⟨by rfl, by rfl⟩)) (by assumption) ?_
  try simp only [Act.put, List.setIfInBounds_toArray, List.set_cons_zero, List.set_cons_succ]
  refine wpAnyH_done (by kernel_rfl) ?_ _
  have HB1 := Lib.hid (HA.out.go hHeld)
  have HK2 := Lib.hid (HKB.out.ext hHeld)
  clear hHeld HA HKB
  generalize World.drew wa = w1 at HB1 HK2 ⊢
  have cd : ∀ W, Ext w1 W → W.cell? ⟨g, 2, none⟩ = some (.slice A 0 c) := fun W hW => (HB1.out.blk.ext hW).at_ 2 (sw2 _ _ _ _)
  go_wp2_with fail
  refine wp_region_held_drew (S := fun W => Ext w1 W) (by kernel_rfl) (Ext.refl _).drew (fun hHeld => ?_)
  iterate 17
    refine tkD 0 (by simp only [List.size_toArray, List.length_cons, List.length_nil]; rfl) (by simp only [List.getElem?_toArray, List.getElem?_cons_zero, List.getElem?_cons_succ]; rfl) (by kernel_rfl) (by exact fun _ _ _ h => h) (by first | (exact Or.inl ⟨by rfl, by intro w hSw; (try dsimp only at hSw); go_simp; with_reducible rfl⟩) | (exact Or.inr ⟨by rfl, by rfl⟩)) (by assumption) ?_
    try simp only [Act.put, List.setIfInBounds_toArray, List.set_cons_zero, List.set_cons_succ]
  refine wpAnyH_done (by kernel_rfl) ?_ _
  have HB3 := Lib.hid (HB1.out.go hHeld)
  clear hHeld cd HB1
  go_wp2
  go_ret
  exact ⟨A, 0, c, vO, _, by rw [HT]; rfl, HB3.out, fun h => by rw [HT] at h; cases h⟩
set_option maxHeartbeats 16000000 in
set_option maxRecDepth 100000 in
theorem look_key (fr to : ByteArray) (w0 : World) (S0 : Nat → Prop) (K : List Int) (hK : K32 K) (O : List En) (x : Nd) (R' : List Nd) (hokx : x.ok) (hex : entB x.n x.v = true) (hKe : K ≠ emptyL) (h1 : kN x ≠ K) (n : Nat) (hn : n = R'.length + 1)
    (w : World) (g : Nat) (A : Option Addr) (c : Nat) (vO vl vh : Value) (hr : RdL tNd w0 S0 (.slice A n c) (x :: R')) (hC : Cx 68 w0 w w g (swCs fr to (.slice A n c) vO) vO vO O) (t9 : Sw) (HT : t9.bad = true)
    :
    Calls Try.prog 35 #[.pointer (some ⟨g, 0, none⟩), .agg (numsA .u8 K), vl, vh] w fun e w' => ∃ A' n' c' vO' O', e = .returned (.bool (!t9.bad)) ∧
      Cx 68 w0 w w' g (swCs fr to (.slice A' n' c') vO') vO vO' O' ∧ (t9.bad = false → n' = t9.R.length ∧ O' = t9.O ∧ RdL tNd w0 S0 (.slice A' n' c') t9.R) := by
  obtain ⟨A', c', e9, hcap, hlen', hrd, hok9⟩ := id hr
  injection e9 with e91 e92 e93
  subst e91 e93
  obtain ⟨gn, on, rfl, hs0, hcx⟩ := hrd.elem hok9 0 (by simp)
  simp only [Nat.zero_mul, Nat.add_zero, List.getElem_cons_zero] at hcx
  have HD := Lib.hid (show ∀ W, Ext w0 W → ∀ j u, x.enc[j]? = some u → W.cell? ⟨gn, on + j, none⟩ = some u from fun W hW j u hu => hW.cell (hcx j u hu))
  have HOKX := Lib.hid hokx
  have HEX := Lib.hid hex
  have hn0 : ((n : Int) == 0) = false := by rw [beq_eq_false_iff_ne]; omega
  have hn1 : (0 : Int) < (n : Int) := by omega
  have hn2 : 1 ≤ n := by omega
  have hn3 : 0 < n := by omega
  have hneq : ∀ W, (binOp .neq 28 (.agg (numsA .u8 (kN x))) (.agg (numsA .u8 K))).run Try.prog W = .ok (.bool true) W := fun W => by
    have := run_neqKey (kN x) K (kN_ok x) hK W
    rw [decide_eq_false h1] at this
    exact this
  clear h1 hn hokx hex hcx hrd hok9 hs0 hcap hlen' e92
  have hkl := hK.1
  have HC := Lib.hid hC
  have HR := Lib.hid hr
  have HK := Lib.hid hK
  have heql : ∀ W, (binOp .eql 28 (.agg (numsA .u8 K)) (.agg (numsA .u8 emptyL))).run Try.prog W = .ok (.bool false) W := fun W => by
    have := run_eqKey K emptyL HK.out emptyL_ok W
    rw [decide_eq_false hKe] at this
    exact this
  clear hC hr hK hKe
  go_enter Try.func35, Try.ntmps35
  go_wp2_with fail
  have HA := Lib.hid (HC.out.go (ext_alloc w (.cells (numsA .u8 K) 28)))
  have HKB := Lib.hid (Blk.new w 28 (numsA .u8 K))
  generalize w.alloc (.cells (numsA .u8 K) 28) = wa at HA HKB ⊢
  refine wp_region_held_drew (S := fun W => Ext wa W) (by kernel_rfl) (Ext.refl _).drew (fun hHeld => ?_)
  refine tkI 0 (v := (.agg (numsA .u8 K))) (by simp only [List.getElem?_toArray, List.getElem?_cons_zero, List.getElem?_cons_succ]; rfl) (by kernel_rfl) (by exact fun _ _ _ h => h) (by refine yields_loadB HKB.out aggKey (sizeN hkl) ?_ _ rfl rfl; rfl) (by assumption) ?_
  try simp only [Act.put, List.setIfInBounds_toArray, List.set_cons_zero, List.set_cons_succ]
  iterate 3
    refine tkD 0 (by simp only [List.size_toArray, List.length_cons, List.length_nil]; rfl) (by simp only [List.getElem?_toArray, List.getElem?_cons_zero, List.getElem?_cons_succ]; rfl) (by kernel_rfl) (by exact fun _ _ _ h => h) (by first | (exact Or.inl ⟨by rfl, by intro w hSw; (try dsimp only at hSw); go_simp; with_reducible rfl⟩) | (exact Or.inr ⟨by rfl, by rfl⟩)) (by assumption) ?_
    try simp only [Act.put, List.setIfInBounds_toArray, List.set_cons_zero, List.set_cons_succ]
  refine tkI 4 (v := (.agg (numsA .u8 emptyL))) (by simp only [List.getElem?_toArray, List.getElem?_cons_zero, List.getElem?_cons_succ]; rfl) (by kernel_rfl) (by exact fun _ _ _ h => h) (by refine yields_loadP (off := 3) HA.out.blk aggKey (sizeN emptyL_ok.1) (swE fr to _ _) ?_ _ rfl rfl; rfl) (by assumption) ?_
  try simp only [Act.put, List.setIfInBounds_toArray, List.set_cons_zero, List.set_cons_succ]
  refine tkI 5 (by simp only [List.getElem?_toArray, List.getElem?_cons_zero, List.getElem?_cons_succ]; rfl) (by kernel_rfl) (by exact fun _ _ _ h => h) (by first | (exact Or.inl ⟨by rfl, by intro w hSw; (try dsimp only at hSw); go_simp; with_reducible rfl⟩) | (exact Or.inr ⟨by rfl, by rfl⟩)) (by assumption) ?_
  try simp only [Act.put, List.setIfInBounds_toArray, List.set_cons_zero, List.set_cons_succ]
  refine wpAnyH_done (by kernel_rfl) ?_ _
  have HB1 := Lib.hid (HA.out.go hHeld)
  have HK2 := Lib.hid (HKB.out.ext hHeld)
  clear hHeld HA HKB
  generalize World.drew wa = w1 at HB1 HK2 ⊢
  have cd : ∀ W, Ext w1 W → W.cell? ⟨g, 2, none⟩ = some (.slice (some ⟨gn, on, none⟩) n c) := fun W hW => (HB1.out.blk.ext hW).at_ 2 (sw2 _ _ _ _)
  have hND := HD.out
  go_wp2_with fail
  refine wp_region_held_drew (S := fun W => Ext w1 W) (by kernel_rfl) (Ext.refl _).drew (fun hHeld => ?_)
  iterate 12
    refine tkD 0 (by simp only [List.size_toArray, List.length_cons, List.length_nil]; rfl) (by simp only [List.getElem?_toArray, List.getElem?_cons_zero, List.getElem?_cons_succ]; rfl) (by kernel_rfl) (by exact fun _ _ _ h => h) (by first | (exact Or.inl ⟨by rfl, by intro w hSw; (try dsimp only at hSw); go_simp; with_reducible rfl⟩) | (exact Or.inr ⟨by rfl, by rfl⟩)) (by assumption) ?_
    try simp only [Act.put, List.setIfInBounds_toArray, List.set_cons_zero, List.set_cons_succ]
  refine tkI 12 (v := (.agg x.enc.toArray)) (by simp only [List.getElem?_toArray, List.getElem?_cons_zero, List.getElem?_cons_succ]; rfl) (by kernel_rfl) (by exact fun _ _ _ h => h) (by refine yields_loadS gn on x.enc (by rw [Nd.enc_length HOKX.out]; exact aggNodeI) (fun W hW => hND W (HB1.out.ext.trans hW)) ?_ _ rfl rfl; rfl) (by assumption) ?_
  try simp only [Act.put, List.setIfInBounds_toArray, List.set_cons_zero, List.set_cons_succ]
  refine tkI 14 (v := (.agg (numsA .u8 K))) (by simp only [List.getElem?_toArray, List.getElem?_cons_zero, List.getElem?_cons_succ]; rfl) (by kernel_rfl) (by exact fun _ _ _ h => h) (by refine yields_loadB HK2.out aggKey (sizeN hkl) ?_ _ rfl rfl; rfl) (by assumption) ?_
  try simp only [Act.put, List.setIfInBounds_toArray, List.set_cons_zero, List.set_cons_succ]
  refine wpAnyH_ready (rs := [13]) (by kernel_rfl) (by simp) (AllReadyH.cons (o := ?oy5013) ?hy5013 (fun K hK => ?sy5013) AllReadyH.nil)
  case hy5013 => simp only [List.getElem?_toArray, List.getElem?_cons_zero, List.getElem?_cons_succ]; rfl
  go_simp
  refine (nodeKey_any x HOKX.out HEX.out _).mono ?_
  rintro e w3 ⟨rfl, hx⟩
  have hH2 := hHeld.trans hx
  refine hK.out _ _ hH2 (fun _ => ?_)
  clear hHeld hK K
  have hHeld := hH2
  clear hH2
  try simp only [Act.put, List.setIfInBounds_toArray, List.set_cons_zero, List.set_cons_succ]
  try rw [show hashL 5 (nodeL x) = kN x by rw [kN]]
  iterate 2
    refine tkD 0 (by simp only [List.size_toArray, List.length_cons, List.length_nil]; rfl) (by simp only [List.getElem?_toArray, List.getElem?_cons_zero, List.getElem?_cons_succ]; rfl) (by kernel_rfl) (by exact fun _ _ _ h => h) (by first | (exact Or.inl ⟨by rfl, by intro w hSw; (try dsimp only at hSw); go_simp; with_reducible rfl⟩) | (exact Or.inr ⟨by rfl, by rfl⟩)) (by assumption) ?_
    try simp only [Act.put, List.setIfInBounds_toArray, List.set_cons_zero, List.set_cons_succ]
  refine wpAnyH_done (by kernel_rfl) ?_ _
  have HB3 := Lib.hid (HB1.out.go hHeld)
  have HK3 := Lib.hid (HK2.out.ext hHeld)
  clear hHeld cd hND HB1 HK2
  go_wp2
  go_ret
  exact ⟨_, n, c, vO, _, by rw [HT]; rfl, HB3.out, fun h => by rw [HT] at h; cases h⟩
end Go.Proofs.Ytipeaoanhcjnjaa
/- The program's sweep: at a node. No condition. -/
namespace Go.Proofs.Ytipeaoanhcjnjaa
open Go.RowKit
set_option linter.unusedVariables false
set_option linter.unusedSimpArgs false

set_option maxHeartbeats 16000000 in
set_option maxRecDepth 100000 in
theorem look_low1 (fr to : ByteArray) (w0 : World) (S0 : Nat → Prop) (K : List Int) (hK : K32 K) (O : List En) (x : Nd) (R' : List Nd) (hokx : x.ok) (hex : entB x.n x.v = true) (hKe : K ≠ emptyL) (h1 : kN x = K) (n : Nat) (hn : n = R'.length + 1) (lo : ByteArray) (hio : Option ByteArray) (h2 : ltB x.n lo = true)
    (w : World) (g : Nat) (A : Option Addr) (c : Nat) (vO vl vh : Value) (hr : RdL tNd w0 S0 (.slice A n c) (x :: R')) (hC : Cx 68 w0 w w g (swCs fr to (.slice A n c) vO) vO vO O) (t9 : Sw) (hpl : PtrS w vl (some lo)) (hph : PtrS w vh hio) (HT : t9.bad = true)
    :
    Calls Try.prog 35 #[.pointer (some ⟨g, 0, none⟩), .agg (numsA .u8 K), vl, vh] w fun e w' => ∃ A' n' c' vO' O', e = .returned (.bool (!t9.bad)) ∧
      Cx 68 w0 w w' g (swCs fr to (.slice A' n' c') vO') vO vO' O' ∧ (t9.bad = false → n' = t9.R.length ∧ O' = t9.O ∧ RdL tNd w0 S0 (.slice A' n' c') t9.R) := by
  have hq1 : Op.bytesLess x.n.toList lo.toList = true := by rw [ltB_eq]; exact h2
  clear h2
  have hcut := RdL.cutN (k := 1) hr (by simp [hn]) (by omega)
  rw [show n - 1 = R'.length by omega, show (x :: R').drop 1 = R' from rfl, show tNd.sz = 66 from rfl] at hcut
  obtain ⟨A', c', e9, hcap, hlen', hrd, hok9⟩ := id hr
  injection e9 with e91 e92 e93
  subst e91 e93
  obtain ⟨gn, on, rfl, hs0, hcx⟩ := hrd.elem hok9 0 (by simp)
  simp only [Nat.zero_mul, Nat.add_zero, List.getElem_cons_zero] at hcx
  have HD := Lib.hid (show ∀ W, Ext w0 W → ∀ j u, x.enc[j]? = some u → W.cell? ⟨gn, on + j, none⟩ = some u from fun W hW j u hu => hW.cell (hcx j u hu))
  have HOKX := Lib.hid hokx
  have HEX := Lib.hid hex
  have hn0 : ((n : Int) == 0) = false := by rw [beq_eq_false_iff_ne]; omega
  have hn1 : (0 : Int) < (n : Int) := by omega
  have hn2 : 1 ≤ n := by omega
  have hn3 : 0 < n := by omega
  obtain ⟨A2, hA2⟩ : ∃ A2, (if c = 1 then some (⟨gn, on, none⟩ : Addr) else (some (⟨gn, on, none⟩ : Addr)).map (·.add (1 * 66))) = A2 := ⟨_, rfl⟩
  obtain ⟨c2, hc2⟩ : ∃ c2, c - 1 = c2 := ⟨_, rfl⟩
  rw [hA2, hc2] at hcut
  have HSL := Lib.hid (show (Value.slice (if c = 1 then some (⟨gn, on, none⟩ : Addr) else (some (⟨gn, on, none⟩ : Addr)).map (·.add (1 * 66))) (n - 1) (c - 1)) = .slice A2 R'.length c2 by rw [hA2, hc2, show n - 1 = R'.length by omega])
  have HR2 := Lib.hid hcut
  have HST := Lib.hid (Nd.st hokx)
  have hneq : ∀ W, (binOp .neq 28 (.agg (numsA .u8 (kN x))) (.agg (numsA .u8 K))).run Try.prog W = .ok (.bool false) W := fun W => by
    have := run_neqKey (kN x) K (kN_ok x) hK W
    rw [decide_eq_true h1] at this
    exact this
  clear h1 hn hokx hex hcx hrd hok9 hs0 hcap hlen' e92 hcut hA2 hc2
  have hkl := hK.1
  have HC := Lib.hid hC
  have HR := Lib.hid hr
  have HK := Lib.hid hK
  have heql : ∀ W, (binOp .eql 28 (.agg (numsA .u8 K)) (.agg (numsA .u8 emptyL))).run Try.prog W = .ok (.bool false) W := fun W => by
    have := run_eqKey K emptyL HK.out emptyL_ok W
    rw [decide_eq_false hKe] at this
    exact this
  clear hC hr hK hKe
  go_enter Try.func35, Try.ntmps35
  go_wp2_with fail
  have HA := Lib.hid (HC.out.go (ext_alloc w (.cells (numsA .u8 K) 28)))
  have HKB := Lib.hid (Blk.new w 28 (numsA .u8 K))
  generalize w.alloc (.cells (numsA .u8 K) 28) = wa at HA HKB ⊢
  refine wp_region_held_drew (S := fun W => Ext wa W) (by kernel_rfl) (Ext.refl _).drew (fun hHeld => ?_)
  refine tkI 0 (v := (.agg (numsA .u8 K))) (by simp only [List.getElem?_toArray, List.getElem?_cons_zero, List.getElem?_cons_succ]; rfl) (by kernel_rfl) (by exact fun _ _ _ h => h) (by refine yields_loadB HKB.out aggKey (sizeN hkl) ?_ _ rfl rfl; rfl) (by assumption) ?_
  try simp only [Act.put, List.setIfInBounds_toArray, List.set_cons_zero, List.set_cons_succ]
  iterate 3
    refine tkD 0 (by simp only [List.size_toArray, List.length_cons, List.length_nil]; rfl) (by simp only [List.getElem?_toArray, List.getElem?_cons_zero, List.getElem?_cons_succ]; rfl) (by kernel_rfl) (by exact fun _ _ _ h => h) (by first | (exact Or.inl ⟨by rfl, by intro w hSw; (try dsimp only at hSw); go_simp; with_reducible rfl⟩) | (exact Or.inr ⟨by rfl, by rfl⟩)) (by assumption) ?_
    try simp only [Act.put, List.setIfInBounds_toArray, List.set_cons_zero, List.set_cons_succ]
  refine tkI 4 (v := (.agg (numsA .u8 emptyL))) (by simp only [List.getElem?_toArray, List.getElem?_cons_zero, List.getElem?_cons_succ]; rfl) (by kernel_rfl) (by exact fun _ _ _ h => h) (by refine yields_loadP (off := 3) HA.out.blk aggKey (sizeN emptyL_ok.1) (swE fr to _ _) ?_ _ rfl rfl; rfl) (by assumption) ?_
  try simp only [Act.put, List.setIfInBounds_toArray, List.set_cons_zero, List.set_cons_succ]
  refine tkI 5 (by simp only [List.getElem?_toArray, List.getElem?_cons_zero, List.getElem?_cons_succ]; rfl) (by kernel_rfl) (by exact fun _ _ _ h => h) (by first | (exact Or.inl ⟨by rfl, by intro w hSw; (try dsimp only at hSw); go_simp; with_reducible rfl⟩) | (exact Or.inr ⟨by rfl, by rfl⟩)) (by assumption) ?_
  try simp only [Act.put, List.setIfInBounds_toArray, List.set_cons_zero, List.set_cons_succ]
  refine wpAnyH_done (by kernel_rfl) ?_ _
  have HB1 := Lib.hid (HA.out.go hHeld)
  have HK2 := Lib.hid (HKB.out.ext hHeld)
  clear hHeld HA HKB
  generalize World.drew wa = w1 at HB1 HK2 ⊢
  have cd : ∀ W, Ext w1 W → W.cell? ⟨g, 2, none⟩ = some (.slice (some ⟨gn, on, none⟩) n c) := fun W hW => (HB1.out.blk.ext hW).at_ 2 (sw2 _ _ _ _)
  have hND := HD.out
  go_wp2_with fail
  refine wp_region_held_drew (S := fun W => Ext w1 W) (by kernel_rfl) (Ext.refl _).drew (fun hHeld => ?_)
  iterate 12
    refine tkD 0 (by simp only [List.size_toArray, List.length_cons, List.length_nil]; rfl) (by simp only [List.getElem?_toArray, List.getElem?_cons_zero, List.getElem?_cons_succ]; rfl) (by kernel_rfl) (by exact fun _ _ _ h => h) (by first | (exact Or.inl ⟨by rfl, by intro w hSw; (try dsimp only at hSw); go_simp; with_reducible rfl⟩) | (exact Or.inr ⟨by rfl, by rfl⟩)) (by assumption) ?_
    try simp only [Act.put, List.setIfInBounds_toArray, List.set_cons_zero, List.set_cons_succ]
  refine tkI 12 (v := (.agg x.enc.toArray)) (by simp only [List.getElem?_toArray, List.getElem?_cons_zero, List.getElem?_cons_succ]; rfl) (by kernel_rfl) (by exact fun _ _ _ h => h) (by refine yields_loadS gn on x.enc (by rw [Nd.enc_length HOKX.out]; exact aggNodeI) (fun W hW => hND W (HB1.out.ext.trans hW)) ?_ _ rfl rfl; rfl) (by assumption) ?_
  try simp only [Act.put, List.setIfInBounds_toArray, List.set_cons_zero, List.set_cons_succ]
  refine tkI 14 (v := (.agg (numsA .u8 K))) (by simp only [List.getElem?_toArray, List.getElem?_cons_zero, List.getElem?_cons_succ]; rfl) (by kernel_rfl) (by exact fun _ _ _ h => h) (by refine yields_loadB HK2.out aggKey (sizeN hkl) ?_ _ rfl rfl; rfl) (by assumption) ?_
  try simp only [Act.put, List.setIfInBounds_toArray, List.set_cons_zero, List.set_cons_succ]
  refine wpAnyH_ready (rs := [13]) (by kernel_rfl) (by simp) (AllReadyH.cons (o := ?oy2113) ?hy2113 (fun K hK => ?sy2113) AllReadyH.nil)
  case hy2113 => simp only [List.getElem?_toArray, List.getElem?_cons_zero, List.getElem?_cons_succ]; rfl
  go_simp
  refine (nodeKey_any x HOKX.out HEX.out _).mono ?_
  rintro e w3 ⟨rfl, hx⟩
  have hH2 := hHeld.trans hx
  refine hK.out _ _ hH2 (fun _ => ?_)
  clear hHeld hK K
  have hHeld := hH2
  clear hH2
  try simp only [Act.put, List.setIfInBounds_toArray, List.set_cons_zero, List.set_cons_succ]
  try rw [show hashL 5 (nodeL x) = kN x by rw [kN]]
  iterate 2
    refine tkD 0 (by simp only [List.size_toArray, List.length_cons, List.length_nil]; rfl) (by simp only [List.getElem?_toArray, List.getElem?_cons_zero, List.getElem?_cons_succ]; rfl) (by kernel_rfl) (by exact fun _ _ _ h => h) (by first | (exact Or.inl ⟨by rfl, by intro w hSw; (try dsimp only at hSw); go_simp; with_reducible rfl⟩) | (exact Or.inr ⟨by rfl, by rfl⟩)) (by assumption) ?_
    try simp only [Act.put, List.setIfInBounds_toArray, List.set_cons_zero, List.set_cons_succ]
  refine wpAnyH_done (by kernel_rfl) ?_ _
  have HB3 := Lib.hid (HB1.out.go hHeld)
  have HK3 := Lib.hid (HK2.out.ext hHeld)
  clear hHeld cd hND HB1 HK2
  have HBa := Lib.hid (HB3.out.go (ext_alloc w3 (.cells x.enc.toArray 52)))
  have HNa := Lib.hid (Blk.new w3 52 x.enc.toArray)
  have d2 := HB3.out.blk.at_ 2 (sw2 _ _ _ _)
  have a2 := HBa.out.blk.at_ 2 (sw2 _ _ _ _)
  have c64 := HNa.out.at_ 64 (Nd.at64 HOKX.out)
  have HBb := Lib.hid (HBa.out.go (ext_alloc (World.alloc w3 (.cells x.enc.toArray 52)) (.cells #[.string x.n] 9)))
  have b2 := HBb.out.blk.at_ 2 (sw2 _ _ _ _)
  have f2 := HBb.out.blk.free 2
  go_wp2_with (first
    | (refine wpl_load ⟨gn, on, none⟩ x.enc (by rw [Nd.enc_length HOKX.out]; exact aggNodeI) rfl _ rfl rfl (fun j u hu => by rw [Addr.add_lit]; exact HD.out _ HB3.out.ext j u hu) ?_)
    | (refine wpl_storeNewB aggNodeI HST.out rfl rfl _ _ rfl rfl rfl rfl ?_)
    | (refine wpl_cut1 (sz := 66) (A := some ⟨gn, on, none⟩) (n := n) (c := c) (by kernel_rfl) (by kernel_rfl) rfl _ rfl rfl hn2 ?_; rw [HSL.out]))
  have hgn : w3.heap.size ≠ g := by have := HB3.out.blk.lt; omega
  have hgs : w3.heap.size + 1 ≠ g := by have := HB3.out.blk.lt; omega
  have HB8 := Lib.hid (show Cx 68 w0 w (World.setCell (World.alloc (World.alloc w3 (.cells x.enc.toArray 52)) (.cells #[.string x.n] 9)) ⟨g, 2, none⟩ (.slice A2 R'.length c2)) g (swCs fr to (.slice A2 R'.length c2) vO) vO vO O from by have := HBb.out.set 2 (.slice A2 R'.length c2); rwa [sw_set2] at this)
  have HN8 := Lib.hid (show Blk (World.setCell (World.alloc (World.alloc w3 (.cells x.enc.toArray 52)) (.cells #[.string x.n] 9)) ⟨g, 2, none⟩ (.slice A2 R'.length c2)) w3.heap.size 52 x.enc.toArray from (HNa.out.alloc _).far hgn _)
  have HS8 := Lib.hid (show Blk (World.setCell (World.alloc (World.alloc w3 (.cells x.enc.toArray 52)) (.cells #[.string x.n] 9)) ⟨g, 2, none⟩ (.slice A2 R'.length c2)) (w3.heap.size + 1) 9 #[.string x.n] from (Blk.new' (g := w3.heap.size + 1) (w := World.alloc w3 (.cells x.enc.toArray 52)) (by simp) 9 #[.string x.n]).far hgs _)
  have HPL := Lib.hid (hpl.cx HC.out HB8.out)
  have HPH := Lib.hid (hph.cx HC.out HB8.out)
  clear d2 a2 c64 b2 f2 HBa HBb HNa HK3
  obtain ⟨nb, hnb⟩ : ∃ nb, w3.heap.size = nb := ⟨_, rfl⟩
  rw [hnb] at HN8 HS8 hgn hgs ⊢
  generalize (World.setCell (World.alloc (World.alloc w3 (.cells x.enc.toArray 52)) (.cells #[.string x.n] 9)) ⟨g, 2, none⟩ (.slice A2 R'.length c2)) = wb at HB8 HN8 HS8 HPL HPH ⊢
  clear HB3 hnb hpl hph
  have cs8 : ∀ W, Ext wb W → W.cell? ⟨nb + 1, 0, none⟩ = some (.string x.n) := fun W hW => (HS8.out.ext hW).at_ 0 rfl
  obtain ⟨lb, rfl, hlb⟩ := HPL.out
  have cl8 : ∀ W, Ext wb W → W.cell? ⟨lb, 0, none⟩ = some (.string lo) := fun W hW => (hlb.ext hW).at_ 0 rfl
  clear hlb
  refine wp_region_held_drew (S := fun W => Ext wb W) (by kernel_rfl) (Ext.refl _).drew (fun hHeld => ?_)
  iterate 20
    refine tkD 0 (by simp only [List.size_toArray, List.length_cons, List.length_nil]; rfl) (by simp only [List.getElem?_toArray, List.getElem?_cons_zero, List.getElem?_cons_succ]; rfl) (by kernel_rfl) (by exact fun _ _ _ h => h) (by first | (exact Or.inl ⟨by rfl, by intro w hSw; (try dsimp only at hSw); go_simp; with_reducible rfl⟩) | (exact Or.inr ⟨by rfl, by rfl⟩)) (by assumption) ?_
    try simp only [Act.put, List.setIfInBounds_toArray, List.set_cons_zero, List.set_cons_succ]
  refine wpAnyH_done (by kernel_rfl) ?_ _
  have HC9 := Lib.hid (HB8.out.go hHeld)
  have HN9 := Lib.hid (HN8.out.ext hHeld)
  have HS9 := Lib.hid (HS8.out.ext hHeld)
  have HPL9 := Lib.hid (HPL.out.ext hHeld)
  have HPH9 := Lib.hid (HPH.out.ext hHeld)
  clear hHeld HB8 HN8 HS8 HPL HPH cs8
  go_wp2
  go_ret
  exact ⟨A2, _, c2, vO, _, by rw [HT]; rfl, HC9.out, fun h => by rw [HT] at h; cases h⟩
set_option maxHeartbeats 16000000 in
set_option maxRecDepth 100000 in
theorem look_low2 (fr to : ByteArray) (w0 : World) (S0 : Nat → Prop) (K : List Int) (hK : K32 K) (O : List En) (x : Nd) (R' : List Nd) (hokx : x.ok) (hex : entB x.n x.v = true) (hKe : K ≠ emptyL) (h1 : kN x = K) (n : Nat) (hn : n = R'.length + 1) (lo : ByteArray) (hio : Option ByteArray) (h2 : x.n = lo)
    (w : World) (g : Nat) (A : Option Addr) (c : Nat) (vO vl vh : Value) (hr : RdL tNd w0 S0 (.slice A n c) (x :: R')) (hC : Cx 68 w0 w w g (swCs fr to (.slice A n c) vO) vO vO O) (t9 : Sw) (hpl : PtrS w vl (some lo)) (hph : PtrS w vh hio) (HT : t9.bad = true)
    :
    Calls Try.prog 35 #[.pointer (some ⟨g, 0, none⟩), .agg (numsA .u8 K), vl, vh] w fun e w' => ∃ A' n' c' vO' O', e = .returned (.bool (!t9.bad)) ∧
      Cx 68 w0 w w' g (swCs fr to (.slice A' n' c') vO') vO vO' O' ∧ (t9.bad = false → n' = t9.R.length ∧ O' = t9.O ∧ RdL tNd w0 S0 (.slice A' n' c') t9.R) := by
  have hq1 : Op.bytesLess x.n.toList lo.toList = false := by rw [ltB_eq]; exact (by rw [h2]; exact ltB_irrefl _)
  have hq2 : (x.n.toList == lo.toList) = true := by rw [h2]; simp
  clear h2
  have hcut := RdL.cutN (k := 1) hr (by simp [hn]) (by omega)
  rw [show n - 1 = R'.length by omega, show (x :: R').drop 1 = R' from rfl, show tNd.sz = 66 from rfl] at hcut
  obtain ⟨A', c', e9, hcap, hlen', hrd, hok9⟩ := id hr
  injection e9 with e91 e92 e93
  subst e91 e93
  obtain ⟨gn, on, rfl, hs0, hcx⟩ := hrd.elem hok9 0 (by simp)
  simp only [Nat.zero_mul, Nat.add_zero, List.getElem_cons_zero] at hcx
  have HD := Lib.hid (show ∀ W, Ext w0 W → ∀ j u, x.enc[j]? = some u → W.cell? ⟨gn, on + j, none⟩ = some u from fun W hW j u hu => hW.cell (hcx j u hu))
  have HOKX := Lib.hid hokx
  have HEX := Lib.hid hex
  have hn0 : ((n : Int) == 0) = false := by rw [beq_eq_false_iff_ne]; omega
  have hn1 : (0 : Int) < (n : Int) := by omega
  have hn2 : 1 ≤ n := by omega
  have hn3 : 0 < n := by omega
  obtain ⟨A2, hA2⟩ : ∃ A2, (if c = 1 then some (⟨gn, on, none⟩ : Addr) else (some (⟨gn, on, none⟩ : Addr)).map (·.add (1 * 66))) = A2 := ⟨_, rfl⟩
  obtain ⟨c2, hc2⟩ : ∃ c2, c - 1 = c2 := ⟨_, rfl⟩
  rw [hA2, hc2] at hcut
  have HSL := Lib.hid (show (Value.slice (if c = 1 then some (⟨gn, on, none⟩ : Addr) else (some (⟨gn, on, none⟩ : Addr)).map (·.add (1 * 66))) (n - 1) (c - 1)) = .slice A2 R'.length c2 by rw [hA2, hc2, show n - 1 = R'.length by omega])
  have HR2 := Lib.hid hcut
  have HST := Lib.hid (Nd.st hokx)
  have hneq : ∀ W, (binOp .neq 28 (.agg (numsA .u8 (kN x))) (.agg (numsA .u8 K))).run Try.prog W = .ok (.bool false) W := fun W => by
    have := run_neqKey (kN x) K (kN_ok x) hK W
    rw [decide_eq_true h1] at this
    exact this
  clear h1 hn hokx hex hcx hrd hok9 hs0 hcap hlen' e92 hcut hA2 hc2
  have hkl := hK.1
  have HC := Lib.hid hC
  have HR := Lib.hid hr
  have HK := Lib.hid hK
  have heql : ∀ W, (binOp .eql 28 (.agg (numsA .u8 K)) (.agg (numsA .u8 emptyL))).run Try.prog W = .ok (.bool false) W := fun W => by
    have := run_eqKey K emptyL HK.out emptyL_ok W
    rw [decide_eq_false hKe] at this
    exact this
  clear hC hr hK hKe
  go_enter Try.func35, Try.ntmps35
  go_wp2_with fail
  have HA := Lib.hid (HC.out.go (ext_alloc w (.cells (numsA .u8 K) 28)))
  have HKB := Lib.hid (Blk.new w 28 (numsA .u8 K))
  generalize w.alloc (.cells (numsA .u8 K) 28) = wa at HA HKB ⊢
  refine wp_region_held_drew (S := fun W => Ext wa W) (by kernel_rfl) (Ext.refl _).drew (fun hHeld => ?_)
  refine tkI 0 (v := (.agg (numsA .u8 K))) (by simp only [List.getElem?_toArray, List.getElem?_cons_zero, List.getElem?_cons_succ]; rfl) (by kernel_rfl) (by exact fun _ _ _ h => h) (by refine yields_loadB HKB.out aggKey (sizeN hkl) ?_ _ rfl rfl; rfl) (by assumption) ?_
  try simp only [Act.put, List.setIfInBounds_toArray, List.set_cons_zero, List.set_cons_succ]
  iterate 3
    refine tkD 0 (by simp only [List.size_toArray, List.length_cons, List.length_nil]; rfl) (by simp only [List.getElem?_toArray, List.getElem?_cons_zero, List.getElem?_cons_succ]; rfl) (by kernel_rfl) (by exact fun _ _ _ h => h) (by first | (exact Or.inl ⟨by rfl, by intro w hSw; (try dsimp only at hSw); go_simp; with_reducible rfl⟩) | (exact Or.inr ⟨by rfl, by rfl⟩)) (by assumption) ?_
    try simp only [Act.put, List.setIfInBounds_toArray, List.set_cons_zero, List.set_cons_succ]
  refine tkI 4 (v := (.agg (numsA .u8 emptyL))) (by simp only [List.getElem?_toArray, List.getElem?_cons_zero, List.getElem?_cons_succ]; rfl) (by kernel_rfl) (by exact fun _ _ _ h => h) (by refine yields_loadP (off := 3) HA.out.blk aggKey (sizeN emptyL_ok.1) (swE fr to _ _) ?_ _ rfl rfl; rfl) (by assumption) ?_
  try simp only [Act.put, List.setIfInBounds_toArray, List.set_cons_zero, List.set_cons_succ]
  refine tkI 5 (by simp only [List.getElem?_toArray, List.getElem?_cons_zero, List.getElem?_cons_succ]; rfl) (by kernel_rfl) (by exact fun _ _ _ h => h) (by first | (exact Or.inl ⟨by rfl, by intro w hSw; (try dsimp only at hSw); go_simp; with_reducible rfl⟩) | (exact Or.inr ⟨by rfl, by rfl⟩)) (by assumption) ?_
  try simp only [Act.put, List.setIfInBounds_toArray, List.set_cons_zero, List.set_cons_succ]
  refine wpAnyH_done (by kernel_rfl) ?_ _
  have HB1 := Lib.hid (HA.out.go hHeld)
  have HK2 := Lib.hid (HKB.out.ext hHeld)
  clear hHeld HA HKB
  generalize World.drew wa = w1 at HB1 HK2 ⊢
  have cd : ∀ W, Ext w1 W → W.cell? ⟨g, 2, none⟩ = some (.slice (some ⟨gn, on, none⟩) n c) := fun W hW => (HB1.out.blk.ext hW).at_ 2 (sw2 _ _ _ _)
  have hND := HD.out
  go_wp2_with fail
  refine wp_region_held_drew (S := fun W => Ext w1 W) (by kernel_rfl) (Ext.refl _).drew (fun hHeld => ?_)
  iterate 12
    refine tkD 0 (by simp only [List.size_toArray, List.length_cons, List.length_nil]; rfl) (by simp only [List.getElem?_toArray, List.getElem?_cons_zero, List.getElem?_cons_succ]; rfl) (by kernel_rfl) (by exact fun _ _ _ h => h) (by first | (exact Or.inl ⟨by rfl, by intro w hSw; (try dsimp only at hSw); go_simp; with_reducible rfl⟩) | (exact Or.inr ⟨by rfl, by rfl⟩)) (by assumption) ?_
    try simp only [Act.put, List.setIfInBounds_toArray, List.set_cons_zero, List.set_cons_succ]
  refine tkI 12 (v := (.agg x.enc.toArray)) (by simp only [List.getElem?_toArray, List.getElem?_cons_zero, List.getElem?_cons_succ]; rfl) (by kernel_rfl) (by exact fun _ _ _ h => h) (by refine yields_loadS gn on x.enc (by rw [Nd.enc_length HOKX.out]; exact aggNodeI) (fun W hW => hND W (HB1.out.ext.trans hW)) ?_ _ rfl rfl; rfl) (by assumption) ?_
  try simp only [Act.put, List.setIfInBounds_toArray, List.set_cons_zero, List.set_cons_succ]
  refine tkI 14 (v := (.agg (numsA .u8 K))) (by simp only [List.getElem?_toArray, List.getElem?_cons_zero, List.getElem?_cons_succ]; rfl) (by kernel_rfl) (by exact fun _ _ _ h => h) (by refine yields_loadB HK2.out aggKey (sizeN hkl) ?_ _ rfl rfl; rfl) (by assumption) ?_
  try simp only [Act.put, List.setIfInBounds_toArray, List.set_cons_zero, List.set_cons_succ]
  refine wpAnyH_ready (rs := [13]) (by kernel_rfl) (by simp) (AllReadyH.cons (o := ?oy6413) ?hy6413 (fun K hK => ?sy6413) AllReadyH.nil)
  case hy6413 => simp only [List.getElem?_toArray, List.getElem?_cons_zero, List.getElem?_cons_succ]; rfl
  go_simp
  refine (nodeKey_any x HOKX.out HEX.out _).mono ?_
  rintro e w3 ⟨rfl, hx⟩
  have hH2 := hHeld.trans hx
  refine hK.out _ _ hH2 (fun _ => ?_)
  clear hHeld hK K
  have hHeld := hH2
  clear hH2
  try simp only [Act.put, List.setIfInBounds_toArray, List.set_cons_zero, List.set_cons_succ]
  try rw [show hashL 5 (nodeL x) = kN x by rw [kN]]
  iterate 2
    refine tkD 0 (by simp only [List.size_toArray, List.length_cons, List.length_nil]; rfl) (by simp only [List.getElem?_toArray, List.getElem?_cons_zero, List.getElem?_cons_succ]; rfl) (by kernel_rfl) (by exact fun _ _ _ h => h) (by first | (exact Or.inl ⟨by rfl, by intro w hSw; (try dsimp only at hSw); go_simp; with_reducible rfl⟩) | (exact Or.inr ⟨by rfl, by rfl⟩)) (by assumption) ?_
    try simp only [Act.put, List.setIfInBounds_toArray, List.set_cons_zero, List.set_cons_succ]
  refine wpAnyH_done (by kernel_rfl) ?_ _
  have HB3 := Lib.hid (HB1.out.go hHeld)
  have HK3 := Lib.hid (HK2.out.ext hHeld)
  clear hHeld cd hND HB1 HK2
  have HBa := Lib.hid (HB3.out.go (ext_alloc w3 (.cells x.enc.toArray 52)))
  have HNa := Lib.hid (Blk.new w3 52 x.enc.toArray)
  have d2 := HB3.out.blk.at_ 2 (sw2 _ _ _ _)
  have a2 := HBa.out.blk.at_ 2 (sw2 _ _ _ _)
  have c64 := HNa.out.at_ 64 (Nd.at64 HOKX.out)
  have HBb := Lib.hid (HBa.out.go (ext_alloc (World.alloc w3 (.cells x.enc.toArray 52)) (.cells #[.string x.n] 9)))
  have b2 := HBb.out.blk.at_ 2 (sw2 _ _ _ _)
  have f2 := HBb.out.blk.free 2
  go_wp2_with (first
    | (refine wpl_load ⟨gn, on, none⟩ x.enc (by rw [Nd.enc_length HOKX.out]; exact aggNodeI) rfl _ rfl rfl (fun j u hu => by rw [Addr.add_lit]; exact HD.out _ HB3.out.ext j u hu) ?_)
    | (refine wpl_storeNewB aggNodeI HST.out rfl rfl _ _ rfl rfl rfl rfl ?_)
    | (refine wpl_cut1 (sz := 66) (A := some ⟨gn, on, none⟩) (n := n) (c := c) (by kernel_rfl) (by kernel_rfl) rfl _ rfl rfl hn2 ?_; rw [HSL.out]))
  have hgn : w3.heap.size ≠ g := by have := HB3.out.blk.lt; omega
  have hgs : w3.heap.size + 1 ≠ g := by have := HB3.out.blk.lt; omega
  have HB8 := Lib.hid (show Cx 68 w0 w (World.setCell (World.alloc (World.alloc w3 (.cells x.enc.toArray 52)) (.cells #[.string x.n] 9)) ⟨g, 2, none⟩ (.slice A2 R'.length c2)) g (swCs fr to (.slice A2 R'.length c2) vO) vO vO O from by have := HBb.out.set 2 (.slice A2 R'.length c2); rwa [sw_set2] at this)
  have HN8 := Lib.hid (show Blk (World.setCell (World.alloc (World.alloc w3 (.cells x.enc.toArray 52)) (.cells #[.string x.n] 9)) ⟨g, 2, none⟩ (.slice A2 R'.length c2)) w3.heap.size 52 x.enc.toArray from (HNa.out.alloc _).far hgn _)
  have HS8 := Lib.hid (show Blk (World.setCell (World.alloc (World.alloc w3 (.cells x.enc.toArray 52)) (.cells #[.string x.n] 9)) ⟨g, 2, none⟩ (.slice A2 R'.length c2)) (w3.heap.size + 1) 9 #[.string x.n] from (Blk.new' (g := w3.heap.size + 1) (w := World.alloc w3 (.cells x.enc.toArray 52)) (by simp) 9 #[.string x.n]).far hgs _)
  have HPL := Lib.hid (hpl.cx HC.out HB8.out)
  have HPH := Lib.hid (hph.cx HC.out HB8.out)
  clear d2 a2 c64 b2 f2 HBa HBb HNa HK3
  obtain ⟨nb, hnb⟩ : ∃ nb, w3.heap.size = nb := ⟨_, rfl⟩
  rw [hnb] at HN8 HS8 hgn hgs ⊢
  generalize (World.setCell (World.alloc (World.alloc w3 (.cells x.enc.toArray 52)) (.cells #[.string x.n] 9)) ⟨g, 2, none⟩ (.slice A2 R'.length c2)) = wb at HB8 HN8 HS8 HPL HPH ⊢
  clear HB3 hnb hpl hph
  have cs8 : ∀ W, Ext wb W → W.cell? ⟨nb + 1, 0, none⟩ = some (.string x.n) := fun W hW => (HS8.out.ext hW).at_ 0 rfl
  obtain ⟨lb, rfl, hlb⟩ := HPL.out
  have cl8 : ∀ W, Ext wb W → W.cell? ⟨lb, 0, none⟩ = some (.string lo) := fun W hW => (hlb.ext hW).at_ 0 rfl
  clear hlb
  refine wp_region_held_drew (S := fun W => Ext wb W) (by kernel_rfl) (Ext.refl _).drew (fun hHeld => ?_)
  iterate 20
    refine tkD 0 (by simp only [List.size_toArray, List.length_cons, List.length_nil]; rfl) (by simp only [List.getElem?_toArray, List.getElem?_cons_zero, List.getElem?_cons_succ]; rfl) (by kernel_rfl) (by exact fun _ _ _ h => h) (by first | (exact Or.inl ⟨by rfl, by intro w hSw; (try dsimp only at hSw); go_simp; with_reducible rfl⟩) | (exact Or.inr ⟨by rfl, by rfl⟩)) (by assumption) ?_
    try simp only [Act.put, List.setIfInBounds_toArray, List.set_cons_zero, List.set_cons_succ]
  refine wpAnyH_done (by kernel_rfl) ?_ _
  have HC9 := Lib.hid (HB8.out.go hHeld)
  have HN9 := Lib.hid (HN8.out.ext hHeld)
  have HS9 := Lib.hid (HS8.out.ext hHeld)
  have HPL9 := Lib.hid (HPL.out.ext hHeld)
  have HPH9 := Lib.hid (HPH.out.ext hHeld)
  clear hHeld HB8 HN8 HS8 HPL HPH cs8
  go_wp2
  go_ret
  exact ⟨A2, _, c2, vO, _, by rw [HT]; rfl, HC9.out, fun h => by rw [HT] at h; cases h⟩
set_option maxHeartbeats 16000000 in
set_option maxRecDepth 100000 in
theorem look_high0 (fr to : ByteArray) (w0 : World) (S0 : Nat → Prop) (K : List Int) (hK : K32 K) (O : List En) (x : Nd) (R' : List Nd) (hokx : x.ok) (hex : entB x.n x.v = true) (hKe : K ≠ emptyL) (h1 : kN x = K) (n : Nat) (hn : n = R'.length + 1) (hi : ByteArray) (h3 : ltB x.n hi = false)
    (w : World) (g : Nat) (A : Option Addr) (c : Nat) (vO vl vh : Value) (hr : RdL tNd w0 S0 (.slice A n c) (x :: R')) (hC : Cx 68 w0 w w g (swCs fr to (.slice A n c) vO) vO vO O) (t9 : Sw) (hpl : PtrS w vl none) (hph : PtrS w vh (some hi)) (HT : t9.bad = true)
    :
    Calls Try.prog 35 #[.pointer (some ⟨g, 0, none⟩), .agg (numsA .u8 K), vl, vh] w fun e w' => ∃ A' n' c' vO' O', e = .returned (.bool (!t9.bad)) ∧
      Cx 68 w0 w w' g (swCs fr to (.slice A' n' c') vO') vO vO' O' ∧ (t9.bad = false → n' = t9.R.length ∧ O' = t9.O ∧ RdL tNd w0 S0 (.slice A' n' c') t9.R) := by
  have hq3 : Op.bytesLess x.n.toList hi.toList = false := by rw [ltB_eq]; exact h3
  clear h3
  have hcut := RdL.cutN (k := 1) hr (by simp [hn]) (by omega)
  rw [show n - 1 = R'.length by omega, show (x :: R').drop 1 = R' from rfl, show tNd.sz = 66 from rfl] at hcut
  obtain ⟨A', c', e9, hcap, hlen', hrd, hok9⟩ := id hr
  injection e9 with e91 e92 e93
  subst e91 e93
  obtain ⟨gn, on, rfl, hs0, hcx⟩ := hrd.elem hok9 0 (by simp)
  simp only [Nat.zero_mul, Nat.add_zero, List.getElem_cons_zero] at hcx
  have HD := Lib.hid (show ∀ W, Ext w0 W → ∀ j u, x.enc[j]? = some u → W.cell? ⟨gn, on + j, none⟩ = some u from fun W hW j u hu => hW.cell (hcx j u hu))
  have HOKX := Lib.hid hokx
  have HEX := Lib.hid hex
  have hn0 : ((n : Int) == 0) = false := by rw [beq_eq_false_iff_ne]; omega
  have hn1 : (0 : Int) < (n : Int) := by omega
  have hn2 : 1 ≤ n := by omega
  have hn3 : 0 < n := by omega
  obtain ⟨A2, hA2⟩ : ∃ A2, (if c = 1 then some (⟨gn, on, none⟩ : Addr) else (some (⟨gn, on, none⟩ : Addr)).map (·.add (1 * 66))) = A2 := ⟨_, rfl⟩
  obtain ⟨c2, hc2⟩ : ∃ c2, c - 1 = c2 := ⟨_, rfl⟩
  rw [hA2, hc2] at hcut
  have HSL := Lib.hid (show (Value.slice (if c = 1 then some (⟨gn, on, none⟩ : Addr) else (some (⟨gn, on, none⟩ : Addr)).map (·.add (1 * 66))) (n - 1) (c - 1)) = .slice A2 R'.length c2 by rw [hA2, hc2, show n - 1 = R'.length by omega])
  have HR2 := Lib.hid hcut
  have HST := Lib.hid (Nd.st hokx)
  have hneq : ∀ W, (binOp .neq 28 (.agg (numsA .u8 (kN x))) (.agg (numsA .u8 K))).run Try.prog W = .ok (.bool false) W := fun W => by
    have := run_neqKey (kN x) K (kN_ok x) hK W
    rw [decide_eq_true h1] at this
    exact this
  clear h1 hn hokx hex hcx hrd hok9 hs0 hcap hlen' e92 hcut hA2 hc2
  have hkl := hK.1
  have HC := Lib.hid hC
  have HR := Lib.hid hr
  have HK := Lib.hid hK
  have heql : ∀ W, (binOp .eql 28 (.agg (numsA .u8 K)) (.agg (numsA .u8 emptyL))).run Try.prog W = .ok (.bool false) W := fun W => by
    have := run_eqKey K emptyL HK.out emptyL_ok W
    rw [decide_eq_false hKe] at this
    exact this
  clear hC hr hK hKe
  go_enter Try.func35, Try.ntmps35
  go_wp2_with fail
  have HA := Lib.hid (HC.out.go (ext_alloc w (.cells (numsA .u8 K) 28)))
  have HKB := Lib.hid (Blk.new w 28 (numsA .u8 K))
  generalize w.alloc (.cells (numsA .u8 K) 28) = wa at HA HKB ⊢
  refine wp_region_held_drew (S := fun W => Ext wa W) (by kernel_rfl) (Ext.refl _).drew (fun hHeld => ?_)
  refine tkI 0 (v := (.agg (numsA .u8 K))) (by simp only [List.getElem?_toArray, List.getElem?_cons_zero, List.getElem?_cons_succ]; rfl) (by kernel_rfl) (by exact fun _ _ _ h => h) (by refine yields_loadB HKB.out aggKey (sizeN hkl) ?_ _ rfl rfl; rfl) (by assumption) ?_
  try simp only [Act.put, List.setIfInBounds_toArray, List.set_cons_zero, List.set_cons_succ]
  iterate 3
    refine tkD 0 (by simp only [List.size_toArray, List.length_cons, List.length_nil]; rfl) (by simp only [List.getElem?_toArray, List.getElem?_cons_zero, List.getElem?_cons_succ]; rfl) (by kernel_rfl) (by exact fun _ _ _ h => h) (by first | (exact Or.inl ⟨by rfl, by intro w hSw; (try dsimp only at hSw); go_simp; with_reducible rfl⟩) | (exact Or.inr ⟨by rfl, by rfl⟩)) (by assumption) ?_
    try simp only [Act.put, List.setIfInBounds_toArray, List.set_cons_zero, List.set_cons_succ]
  refine tkI 4 (v := (.agg (numsA .u8 emptyL))) (by simp only [List.getElem?_toArray, List.getElem?_cons_zero, List.getElem?_cons_succ]; rfl) (by kernel_rfl) (by exact fun _ _ _ h => h) (by refine yields_loadP (off := 3) HA.out.blk aggKey (sizeN emptyL_ok.1) (swE fr to _ _) ?_ _ rfl rfl; rfl) (by assumption) ?_
  try simp only [Act.put, List.setIfInBounds_toArray, List.set_cons_zero, List.set_cons_succ]
  refine tkI 5 (by simp only [List.getElem?_toArray, List.getElem?_cons_zero, List.getElem?_cons_succ]; rfl) (by kernel_rfl) (by exact fun _ _ _ h => h) (by first | (exact Or.inl ⟨by rfl, by intro w hSw; (try dsimp only at hSw); go_simp; with_reducible rfl⟩) | (exact Or.inr ⟨by rfl, by rfl⟩)) (by assumption) ?_
  try simp only [Act.put, List.setIfInBounds_toArray, List.set_cons_zero, List.set_cons_succ]
  refine wpAnyH_done (by kernel_rfl) ?_ _
  have HB1 := Lib.hid (HA.out.go hHeld)
  have HK2 := Lib.hid (HKB.out.ext hHeld)
  clear hHeld HA HKB
  generalize World.drew wa = w1 at HB1 HK2 ⊢
  have cd : ∀ W, Ext w1 W → W.cell? ⟨g, 2, none⟩ = some (.slice (some ⟨gn, on, none⟩) n c) := fun W hW => (HB1.out.blk.ext hW).at_ 2 (sw2 _ _ _ _)
  have hND := HD.out
  go_wp2_with fail
  refine wp_region_held_drew (S := fun W => Ext w1 W) (by kernel_rfl) (Ext.refl _).drew (fun hHeld => ?_)
  iterate 12
    refine tkD 0 (by simp only [List.size_toArray, List.length_cons, List.length_nil]; rfl) (by simp only [List.getElem?_toArray, List.getElem?_cons_zero, List.getElem?_cons_succ]; rfl) (by kernel_rfl) (by exact fun _ _ _ h => h) (by first | (exact Or.inl ⟨by rfl, by intro w hSw; (try dsimp only at hSw); go_simp; with_reducible rfl⟩) | (exact Or.inr ⟨by rfl, by rfl⟩)) (by assumption) ?_
    try simp only [Act.put, List.setIfInBounds_toArray, List.set_cons_zero, List.set_cons_succ]
  refine tkI 12 (v := (.agg x.enc.toArray)) (by simp only [List.getElem?_toArray, List.getElem?_cons_zero, List.getElem?_cons_succ]; rfl) (by kernel_rfl) (by exact fun _ _ _ h => h) (by refine yields_loadS gn on x.enc (by rw [Nd.enc_length HOKX.out]; exact aggNodeI) (fun W hW => hND W (HB1.out.ext.trans hW)) ?_ _ rfl rfl; rfl) (by assumption) ?_
  try simp only [Act.put, List.setIfInBounds_toArray, List.set_cons_zero, List.set_cons_succ]
  refine tkI 14 (v := (.agg (numsA .u8 K))) (by simp only [List.getElem?_toArray, List.getElem?_cons_zero, List.getElem?_cons_succ]; rfl) (by kernel_rfl) (by exact fun _ _ _ h => h) (by refine yields_loadB HK2.out aggKey (sizeN hkl) ?_ _ rfl rfl; rfl) (by assumption) ?_
  try simp only [Act.put, List.setIfInBounds_toArray, List.set_cons_zero, List.set_cons_succ]
  refine wpAnyH_ready (rs := [13]) (by kernel_rfl) (by simp) (AllReadyH.cons (o := ?oy10713) ?hy10713 (fun K hK => ?sy10713) AllReadyH.nil)
  case hy10713 => simp only [List.getElem?_toArray, List.getElem?_cons_zero, List.getElem?_cons_succ]; rfl
  go_simp
  refine (nodeKey_any x HOKX.out HEX.out _).mono ?_
  rintro e w3 ⟨rfl, hx⟩
  have hH2 := hHeld.trans hx
  refine hK.out _ _ hH2 (fun _ => ?_)
  clear hHeld hK K
  have hHeld := hH2
  clear hH2
  try simp only [Act.put, List.setIfInBounds_toArray, List.set_cons_zero, List.set_cons_succ]
  try rw [show hashL 5 (nodeL x) = kN x by rw [kN]]
  iterate 2
    refine tkD 0 (by simp only [List.size_toArray, List.length_cons, List.length_nil]; rfl) (by simp only [List.getElem?_toArray, List.getElem?_cons_zero, List.getElem?_cons_succ]; rfl) (by kernel_rfl) (by exact fun _ _ _ h => h) (by first | (exact Or.inl ⟨by rfl, by intro w hSw; (try dsimp only at hSw); go_simp; with_reducible rfl⟩) | (exact Or.inr ⟨by rfl, by rfl⟩)) (by assumption) ?_
    try simp only [Act.put, List.setIfInBounds_toArray, List.set_cons_zero, List.set_cons_succ]
  refine wpAnyH_done (by kernel_rfl) ?_ _
  have HB3 := Lib.hid (HB1.out.go hHeld)
  have HK3 := Lib.hid (HK2.out.ext hHeld)
  clear hHeld cd hND HB1 HK2
  have HBa := Lib.hid (HB3.out.go (ext_alloc w3 (.cells x.enc.toArray 52)))
  have HNa := Lib.hid (Blk.new w3 52 x.enc.toArray)
  have d2 := HB3.out.blk.at_ 2 (sw2 _ _ _ _)
  have a2 := HBa.out.blk.at_ 2 (sw2 _ _ _ _)
  have c64 := HNa.out.at_ 64 (Nd.at64 HOKX.out)
  have HBb := Lib.hid (HBa.out.go (ext_alloc (World.alloc w3 (.cells x.enc.toArray 52)) (.cells #[.string x.n] 9)))
  have b2 := HBb.out.blk.at_ 2 (sw2 _ _ _ _)
  have f2 := HBb.out.blk.free 2
  go_wp2_with (first
    | (refine wpl_load ⟨gn, on, none⟩ x.enc (by rw [Nd.enc_length HOKX.out]; exact aggNodeI) rfl _ rfl rfl (fun j u hu => by rw [Addr.add_lit]; exact HD.out _ HB3.out.ext j u hu) ?_)
    | (refine wpl_storeNewB aggNodeI HST.out rfl rfl _ _ rfl rfl rfl rfl ?_)
    | (refine wpl_cut1 (sz := 66) (A := some ⟨gn, on, none⟩) (n := n) (c := c) (by kernel_rfl) (by kernel_rfl) rfl _ rfl rfl hn2 ?_; rw [HSL.out]))
  have hgn : w3.heap.size ≠ g := by have := HB3.out.blk.lt; omega
  have hgs : w3.heap.size + 1 ≠ g := by have := HB3.out.blk.lt; omega
  have HB8 := Lib.hid (show Cx 68 w0 w (World.setCell (World.alloc (World.alloc w3 (.cells x.enc.toArray 52)) (.cells #[.string x.n] 9)) ⟨g, 2, none⟩ (.slice A2 R'.length c2)) g (swCs fr to (.slice A2 R'.length c2) vO) vO vO O from by have := HBb.out.set 2 (.slice A2 R'.length c2); rwa [sw_set2] at this)
  have HN8 := Lib.hid (show Blk (World.setCell (World.alloc (World.alloc w3 (.cells x.enc.toArray 52)) (.cells #[.string x.n] 9)) ⟨g, 2, none⟩ (.slice A2 R'.length c2)) w3.heap.size 52 x.enc.toArray from (HNa.out.alloc _).far hgn _)
  have HS8 := Lib.hid (show Blk (World.setCell (World.alloc (World.alloc w3 (.cells x.enc.toArray 52)) (.cells #[.string x.n] 9)) ⟨g, 2, none⟩ (.slice A2 R'.length c2)) (w3.heap.size + 1) 9 #[.string x.n] from (Blk.new' (g := w3.heap.size + 1) (w := World.alloc w3 (.cells x.enc.toArray 52)) (by simp) 9 #[.string x.n]).far hgs _)
  have HPL := Lib.hid (hpl.cx HC.out HB8.out)
  have HPH := Lib.hid (hph.cx HC.out HB8.out)
  clear d2 a2 c64 b2 f2 HBa HBb HNa HK3
  obtain ⟨nb, hnb⟩ : ∃ nb, w3.heap.size = nb := ⟨_, rfl⟩
  rw [hnb] at HN8 HS8 hgn hgs ⊢
  generalize (World.setCell (World.alloc (World.alloc w3 (.cells x.enc.toArray 52)) (.cells #[.string x.n] 9)) ⟨g, 2, none⟩ (.slice A2 R'.length c2)) = wb at HB8 HN8 HS8 HPL HPH ⊢
  clear HB3 hnb hpl hph
  have cs8 : ∀ W, Ext wb W → W.cell? ⟨nb + 1, 0, none⟩ = some (.string x.n) := fun W hW => (HS8.out.ext hW).at_ 0 rfl
  obtain rfl : vl = .pointer none := HPL.out
  obtain ⟨hb, rfl, hhb⟩ := HPH.out
  have ch8 : ∀ W, Ext wb W → W.cell? ⟨hb, 0, none⟩ = some (.string hi) := fun W hW => (hhb.ext hW).at_ 0 rfl
  clear hhb
  refine wp_region_held_drew (S := fun W => Ext wb W) (by kernel_rfl) (Ext.refl _).drew (fun hHeld => ?_)
  iterate 20
    refine tkD 0 (by simp only [List.size_toArray, List.length_cons, List.length_nil]; rfl) (by simp only [List.getElem?_toArray, List.getElem?_cons_zero, List.getElem?_cons_succ]; rfl) (by kernel_rfl) (by exact fun _ _ _ h => h) (by first | (exact Or.inl ⟨by rfl, by intro w hSw; (try dsimp only at hSw); go_simp; with_reducible rfl⟩) | (exact Or.inr ⟨by rfl, by rfl⟩)) (by assumption) ?_
    try simp only [Act.put, List.setIfInBounds_toArray, List.set_cons_zero, List.set_cons_succ]
  refine wpAnyH_done (by kernel_rfl) ?_ _
  have HC9 := Lib.hid (HB8.out.go hHeld)
  have HN9 := Lib.hid (HN8.out.ext hHeld)
  have HS9 := Lib.hid (HS8.out.ext hHeld)
  have HPL9 := Lib.hid (HPL.out.ext hHeld)
  have HPH9 := Lib.hid (HPH.out.ext hHeld)
  clear hHeld HB8 HN8 HS8 HPL HPH cs8
  go_wp2
  go_ret
  exact ⟨A2, _, c2, vO, _, by rw [HT]; rfl, HC9.out, fun h => by rw [HT] at h; cases h⟩
set_option maxHeartbeats 16000000 in
set_option maxRecDepth 100000 in
theorem look_high1 (fr to : ByteArray) (w0 : World) (S0 : Nat → Prop) (K : List Int) (hK : K32 K) (O : List En) (x : Nd) (R' : List Nd) (hokx : x.ok) (hex : entB x.n x.v = true) (hKe : K ≠ emptyL) (h1 : kN x = K) (n : Nat) (hn : n = R'.length + 1) (lo hi : ByteArray) (h2 : ltB lo x.n = true) (h3 : ltB x.n hi = false)
    (w : World) (g : Nat) (A : Option Addr) (c : Nat) (vO vl vh : Value) (hr : RdL tNd w0 S0 (.slice A n c) (x :: R')) (hC : Cx 68 w0 w w g (swCs fr to (.slice A n c) vO) vO vO O) (t9 : Sw) (hpl : PtrS w vl (some lo)) (hph : PtrS w vh (some hi)) (HT : t9.bad = true)
    :
    Calls Try.prog 35 #[.pointer (some ⟨g, 0, none⟩), .agg (numsA .u8 K), vl, vh] w fun e w' => ∃ A' n' c' vO' O', e = .returned (.bool (!t9.bad)) ∧
      Cx 68 w0 w w' g (swCs fr to (.slice A' n' c') vO') vO vO' O' ∧ (t9.bad = false → n' = t9.R.length ∧ O' = t9.O ∧ RdL tNd w0 S0 (.slice A' n' c') t9.R) := by
  have hq1 : Op.bytesLess x.n.toList lo.toList = false := by rw [ltB_eq]; exact ltB_asymm h2
  have hq2 : (x.n.toList == lo.toList) = false := by rw [beq_eq_false_iff_ne]; exact fun e => ltB_ne h2 (toList_inj e).symm
  have hq3 : Op.bytesLess x.n.toList hi.toList = false := by rw [ltB_eq]; exact h3
  clear h3
  have hcut := RdL.cutN (k := 1) hr (by simp [hn]) (by omega)
  rw [show n - 1 = R'.length by omega, show (x :: R').drop 1 = R' from rfl, show tNd.sz = 66 from rfl] at hcut
  obtain ⟨A', c', e9, hcap, hlen', hrd, hok9⟩ := id hr
  injection e9 with e91 e92 e93
  subst e91 e93
  obtain ⟨gn, on, rfl, hs0, hcx⟩ := hrd.elem hok9 0 (by simp)
  simp only [Nat.zero_mul, Nat.add_zero, List.getElem_cons_zero] at hcx
  have HD := Lib.hid (show ∀ W, Ext w0 W → ∀ j u, x.enc[j]? = some u → W.cell? ⟨gn, on + j, none⟩ = some u from fun W hW j u hu => hW.cell (hcx j u hu))
  have HOKX := Lib.hid hokx
  have HEX := Lib.hid hex
  have hn0 : ((n : Int) == 0) = false := by rw [beq_eq_false_iff_ne]; omega
  have hn1 : (0 : Int) < (n : Int) := by omega
  have hn2 : 1 ≤ n := by omega
  have hn3 : 0 < n := by omega
  obtain ⟨A2, hA2⟩ : ∃ A2, (if c = 1 then some (⟨gn, on, none⟩ : Addr) else (some (⟨gn, on, none⟩ : Addr)).map (·.add (1 * 66))) = A2 := ⟨_, rfl⟩
  obtain ⟨c2, hc2⟩ : ∃ c2, c - 1 = c2 := ⟨_, rfl⟩
  rw [hA2, hc2] at hcut
  have HSL := Lib.hid (show (Value.slice (if c = 1 then some (⟨gn, on, none⟩ : Addr) else (some (⟨gn, on, none⟩ : Addr)).map (·.add (1 * 66))) (n - 1) (c - 1)) = .slice A2 R'.length c2 by rw [hA2, hc2, show n - 1 = R'.length by omega])
  have HR2 := Lib.hid hcut
  have HST := Lib.hid (Nd.st hokx)
  have hneq : ∀ W, (binOp .neq 28 (.agg (numsA .u8 (kN x))) (.agg (numsA .u8 K))).run Try.prog W = .ok (.bool false) W := fun W => by
    have := run_neqKey (kN x) K (kN_ok x) hK W
    rw [decide_eq_true h1] at this
    exact this
  clear h1 hn hokx hex hcx hrd hok9 hs0 hcap hlen' e92 hcut hA2 hc2
  have hkl := hK.1
  have HC := Lib.hid hC
  have HR := Lib.hid hr
  have HK := Lib.hid hK
  have heql : ∀ W, (binOp .eql 28 (.agg (numsA .u8 K)) (.agg (numsA .u8 emptyL))).run Try.prog W = .ok (.bool false) W := fun W => by
    have := run_eqKey K emptyL HK.out emptyL_ok W
    rw [decide_eq_false hKe] at this
    exact this
  clear hC hr hK hKe
  go_enter Try.func35, Try.ntmps35
  go_wp2_with fail
  have HA := Lib.hid (HC.out.go (ext_alloc w (.cells (numsA .u8 K) 28)))
  have HKB := Lib.hid (Blk.new w 28 (numsA .u8 K))
  generalize w.alloc (.cells (numsA .u8 K) 28) = wa at HA HKB ⊢
  refine wp_region_held_drew (S := fun W => Ext wa W) (by kernel_rfl) (Ext.refl _).drew (fun hHeld => ?_)
  refine tkI 0 (v := (.agg (numsA .u8 K))) (by simp only [List.getElem?_toArray, List.getElem?_cons_zero, List.getElem?_cons_succ]; rfl) (by kernel_rfl) (by exact fun _ _ _ h => h) (by refine yields_loadB HKB.out aggKey (sizeN hkl) ?_ _ rfl rfl; rfl) (by assumption) ?_
  try simp only [Act.put, List.setIfInBounds_toArray, List.set_cons_zero, List.set_cons_succ]
  iterate 3
    refine tkD 0 (by simp only [List.size_toArray, List.length_cons, List.length_nil]; rfl) (by simp only [List.getElem?_toArray, List.getElem?_cons_zero, List.getElem?_cons_succ]; rfl) (by kernel_rfl) (by exact fun _ _ _ h => h) (by first | (exact Or.inl ⟨by rfl, by intro w hSw; (try dsimp only at hSw); go_simp; with_reducible rfl⟩) | (exact Or.inr ⟨by rfl, by rfl⟩)) (by assumption) ?_
    try simp only [Act.put, List.setIfInBounds_toArray, List.set_cons_zero, List.set_cons_succ]
  refine tkI 4 (v := (.agg (numsA .u8 emptyL))) (by simp only [List.getElem?_toArray, List.getElem?_cons_zero, List.getElem?_cons_succ]; rfl) (by kernel_rfl) (by exact fun _ _ _ h => h) (by refine yields_loadP (off := 3) HA.out.blk aggKey (sizeN emptyL_ok.1) (swE fr to _ _) ?_ _ rfl rfl; rfl) (by assumption) ?_
  try simp only [Act.put, List.setIfInBounds_toArray, List.set_cons_zero, List.set_cons_succ]
  refine tkI 5 (by simp only [List.getElem?_toArray, List.getElem?_cons_zero, List.getElem?_cons_succ]; rfl) (by kernel_rfl) (by exact fun _ _ _ h => h) (by first | (exact Or.inl ⟨by rfl, by intro w hSw; (try dsimp only at hSw); go_simp; with_reducible rfl⟩) | (exact Or.inr ⟨by rfl, by rfl⟩)) (by assumption) ?_
  try simp only [Act.put, List.setIfInBounds_toArray, List.set_cons_zero, List.set_cons_succ]
  refine wpAnyH_done (by kernel_rfl) ?_ _
  have HB1 := Lib.hid (HA.out.go hHeld)
  have HK2 := Lib.hid (HKB.out.ext hHeld)
  clear hHeld HA HKB
  generalize World.drew wa = w1 at HB1 HK2 ⊢
  have cd : ∀ W, Ext w1 W → W.cell? ⟨g, 2, none⟩ = some (.slice (some ⟨gn, on, none⟩) n c) := fun W hW => (HB1.out.blk.ext hW).at_ 2 (sw2 _ _ _ _)
  have hND := HD.out
  go_wp2_with fail
  refine wp_region_held_drew (S := fun W => Ext w1 W) (by kernel_rfl) (Ext.refl _).drew (fun hHeld => ?_)
  iterate 12
    refine tkD 0 (by simp only [List.size_toArray, List.length_cons, List.length_nil]; rfl) (by simp only [List.getElem?_toArray, List.getElem?_cons_zero, List.getElem?_cons_succ]; rfl) (by kernel_rfl) (by exact fun _ _ _ h => h) (by first | (exact Or.inl ⟨by rfl, by intro w hSw; (try dsimp only at hSw); go_simp; with_reducible rfl⟩) | (exact Or.inr ⟨by rfl, by rfl⟩)) (by assumption) ?_
    try simp only [Act.put, List.setIfInBounds_toArray, List.set_cons_zero, List.set_cons_succ]
  refine tkI 12 (v := (.agg x.enc.toArray)) (by simp only [List.getElem?_toArray, List.getElem?_cons_zero, List.getElem?_cons_succ]; rfl) (by kernel_rfl) (by exact fun _ _ _ h => h) (by refine yields_loadS gn on x.enc (by rw [Nd.enc_length HOKX.out]; exact aggNodeI) (fun W hW => hND W (HB1.out.ext.trans hW)) ?_ _ rfl rfl; rfl) (by assumption) ?_
  try simp only [Act.put, List.setIfInBounds_toArray, List.set_cons_zero, List.set_cons_succ]
  refine tkI 14 (v := (.agg (numsA .u8 K))) (by simp only [List.getElem?_toArray, List.getElem?_cons_zero, List.getElem?_cons_succ]; rfl) (by kernel_rfl) (by exact fun _ _ _ h => h) (by refine yields_loadB HK2.out aggKey (sizeN hkl) ?_ _ rfl rfl; rfl) (by assumption) ?_
  try simp only [Act.put, List.setIfInBounds_toArray, List.set_cons_zero, List.set_cons_succ]
  refine wpAnyH_ready (rs := [13]) (by kernel_rfl) (by simp) (AllReadyH.cons (o := ?oy15013) ?hy15013 (fun K hK => ?sy15013) AllReadyH.nil)
  case hy15013 => simp only [List.getElem?_toArray, List.getElem?_cons_zero, List.getElem?_cons_succ]; rfl
  go_simp
  refine (nodeKey_any x HOKX.out HEX.out _).mono ?_
  rintro e w3 ⟨rfl, hx⟩
  have hH2 := hHeld.trans hx
  refine hK.out _ _ hH2 (fun _ => ?_)
  clear hHeld hK K
  have hHeld := hH2
  clear hH2
  try simp only [Act.put, List.setIfInBounds_toArray, List.set_cons_zero, List.set_cons_succ]
  try rw [show hashL 5 (nodeL x) = kN x by rw [kN]]
  iterate 2
    refine tkD 0 (by simp only [List.size_toArray, List.length_cons, List.length_nil]; rfl) (by simp only [List.getElem?_toArray, List.getElem?_cons_zero, List.getElem?_cons_succ]; rfl) (by kernel_rfl) (by exact fun _ _ _ h => h) (by first | (exact Or.inl ⟨by rfl, by intro w hSw; (try dsimp only at hSw); go_simp; with_reducible rfl⟩) | (exact Or.inr ⟨by rfl, by rfl⟩)) (by assumption) ?_
    try simp only [Act.put, List.setIfInBounds_toArray, List.set_cons_zero, List.set_cons_succ]
  refine wpAnyH_done (by kernel_rfl) ?_ _
  have HB3 := Lib.hid (HB1.out.go hHeld)
  have HK3 := Lib.hid (HK2.out.ext hHeld)
  clear hHeld cd hND HB1 HK2
  have HBa := Lib.hid (HB3.out.go (ext_alloc w3 (.cells x.enc.toArray 52)))
  have HNa := Lib.hid (Blk.new w3 52 x.enc.toArray)
  have d2 := HB3.out.blk.at_ 2 (sw2 _ _ _ _)
  have a2 := HBa.out.blk.at_ 2 (sw2 _ _ _ _)
  have c64 := HNa.out.at_ 64 (Nd.at64 HOKX.out)
  have HBb := Lib.hid (HBa.out.go (ext_alloc (World.alloc w3 (.cells x.enc.toArray 52)) (.cells #[.string x.n] 9)))
  have b2 := HBb.out.blk.at_ 2 (sw2 _ _ _ _)
  have f2 := HBb.out.blk.free 2
  go_wp2_with (first
    | (refine wpl_load ⟨gn, on, none⟩ x.enc (by rw [Nd.enc_length HOKX.out]; exact aggNodeI) rfl _ rfl rfl (fun j u hu => by rw [Addr.add_lit]; exact HD.out _ HB3.out.ext j u hu) ?_)
    | (refine wpl_storeNewB aggNodeI HST.out rfl rfl _ _ rfl rfl rfl rfl ?_)
    | (refine wpl_cut1 (sz := 66) (A := some ⟨gn, on, none⟩) (n := n) (c := c) (by kernel_rfl) (by kernel_rfl) rfl _ rfl rfl hn2 ?_; rw [HSL.out]))
  have hgn : w3.heap.size ≠ g := by have := HB3.out.blk.lt; omega
  have hgs : w3.heap.size + 1 ≠ g := by have := HB3.out.blk.lt; omega
  have HB8 := Lib.hid (show Cx 68 w0 w (World.setCell (World.alloc (World.alloc w3 (.cells x.enc.toArray 52)) (.cells #[.string x.n] 9)) ⟨g, 2, none⟩ (.slice A2 R'.length c2)) g (swCs fr to (.slice A2 R'.length c2) vO) vO vO O from by have := HBb.out.set 2 (.slice A2 R'.length c2); rwa [sw_set2] at this)
  have HN8 := Lib.hid (show Blk (World.setCell (World.alloc (World.alloc w3 (.cells x.enc.toArray 52)) (.cells #[.string x.n] 9)) ⟨g, 2, none⟩ (.slice A2 R'.length c2)) w3.heap.size 52 x.enc.toArray from (HNa.out.alloc _).far hgn _)
  have HS8 := Lib.hid (show Blk (World.setCell (World.alloc (World.alloc w3 (.cells x.enc.toArray 52)) (.cells #[.string x.n] 9)) ⟨g, 2, none⟩ (.slice A2 R'.length c2)) (w3.heap.size + 1) 9 #[.string x.n] from (Blk.new' (g := w3.heap.size + 1) (w := World.alloc w3 (.cells x.enc.toArray 52)) (by simp) 9 #[.string x.n]).far hgs _)
  have HPL := Lib.hid (hpl.cx HC.out HB8.out)
  have HPH := Lib.hid (hph.cx HC.out HB8.out)
  clear d2 a2 c64 b2 f2 HBa HBb HNa HK3
  obtain ⟨nb, hnb⟩ : ∃ nb, w3.heap.size = nb := ⟨_, rfl⟩
  rw [hnb] at HN8 HS8 hgn hgs ⊢
  generalize (World.setCell (World.alloc (World.alloc w3 (.cells x.enc.toArray 52)) (.cells #[.string x.n] 9)) ⟨g, 2, none⟩ (.slice A2 R'.length c2)) = wb at HB8 HN8 HS8 HPL HPH ⊢
  clear HB3 hnb hpl hph
  have cs8 : ∀ W, Ext wb W → W.cell? ⟨nb + 1, 0, none⟩ = some (.string x.n) := fun W hW => (HS8.out.ext hW).at_ 0 rfl
  obtain ⟨lb, rfl, hlb⟩ := HPL.out
  have cl8 : ∀ W, Ext wb W → W.cell? ⟨lb, 0, none⟩ = some (.string lo) := fun W hW => (hlb.ext hW).at_ 0 rfl
  clear hlb
  obtain ⟨hb, rfl, hhb⟩ := HPH.out
  have ch8 : ∀ W, Ext wb W → W.cell? ⟨hb, 0, none⟩ = some (.string hi) := fun W hW => (hhb.ext hW).at_ 0 rfl
  clear hhb
  refine wp_region_held_drew (S := fun W => Ext wb W) (by kernel_rfl) (Ext.refl _).drew (fun hHeld => ?_)
  iterate 20
    refine tkD 0 (by simp only [List.size_toArray, List.length_cons, List.length_nil]; rfl) (by simp only [List.getElem?_toArray, List.getElem?_cons_zero, List.getElem?_cons_succ]; rfl) (by kernel_rfl) (by exact fun _ _ _ h => h) (by first | (exact Or.inl ⟨by rfl, by intro w hSw; (try dsimp only at hSw); go_simp; with_reducible rfl⟩) | (exact Or.inr ⟨by rfl, by rfl⟩)) (by assumption) ?_
    try simp only [Act.put, List.setIfInBounds_toArray, List.set_cons_zero, List.set_cons_succ]
  refine wpAnyH_done (by kernel_rfl) ?_ _
  have HC9 := Lib.hid (HB8.out.go hHeld)
  have HN9 := Lib.hid (HN8.out.ext hHeld)
  have HS9 := Lib.hid (HS8.out.ext hHeld)
  have HPL9 := Lib.hid (HPL.out.ext hHeld)
  have HPH9 := Lib.hid (HPH.out.ext hHeld)
  clear hHeld HB8 HN8 HS8 HPL HPH cs8
  go_wp2
  go_ret
  exact ⟨A2, _, c2, vO, _, by rw [HT]; rfl, HC9.out, fun h => by rw [HT] at h; cases h⟩
end Go.Proofs.Ytipeaoanhcjnjaa
