/- What the walk of the law FnExactCheckRangeOfMap needs, part 3 of 9. No condition. -/
import Derived.Test.YtipeaoanhcjnjaaPFnExactCheckRangeOfMap2
/- The reference's walk over nodes that tell a range, at a node. No condition. -/
namespace Go.Proofs.Ytipeaoanhcjnjaa
open Go.RowKit
set_option linter.unusedVariables false
set_option linter.unusedSimpArgs false

theorem trPut_yes {fr to : ByteArray} {x : Nd} {s : Sw} (h1 : ltB x.n fr = false) (h2 : ltB x.n to = true) : trPut fr to x s = ⟨s.R, s.O ++ [(x.n, x.v)], s.bad⟩ := by rw [trPut, h1, h2]; rfl
theorem trPut_no1 {fr to : ByteArray} {x : Nd} {s : Sw} (h1 : ltB x.n fr = true) : trPut fr to x s = s := by rw [trPut, h1]; rfl
theorem trPut_no2 {fr to : ByteArray} {x : Nd} {s : Sw} (h2 : ltB x.n to = false) : trPut fr to x s = s := by rw [trPut, h2]; cases ltB x.n fr <;> rfl

set_option maxHeartbeats 16000000 in
set_option maxRecDepth 100000 in
theorem tree_key (f : Nat) (ih : TreeC f) (fr to : ByteArray) (w0 : World) (S0 : Nat → Prop) (K : List Int) (lo hi : ByteArray) (b : Bool) (x : Nd) (R' : List Nd) (O : List En) (hlen : R'.length ≤ f) (h64 : O.length + (R'.length + 1) ≤ 64) (hokx : x.ok) (hex : entB x.n x.v = true) (hok : ∀ y ∈ R', y.ok ∧ entB y.n y.v = true) (hKe : K ≠ emptyL) (hK : K32 K) (h1 : kN x ≠ K)
    (w : World) (g : Nat) (A : Option Addr) (n c : Nat) (hn : n = R'.length + 1) (vO : Value) (hr : RdL tNd w0 S0 (.slice A n c) (x :: R')) (hC : Cx 62 w0 w w g #[.string fr, .string to, .slice A n c, vO, .bool false] vO vO O) (s9 : Sw) (hs9 : (⟨R', O, true⟩ : Sw) = s9) :
    Calls Try.prog 31 #[.pointer (some ⟨g, 0, none⟩), .agg (numsA .u8 K), .string lo, .string hi, .bool b] w fun e w' => ∃ A' c' vO', e = .returned (.tuple #[]) ∧ RdL tNd w0 S0 (.slice A' s9.R.length c') s9.R ∧
      Cx 62 w0 w w' g #[.string fr, .string to, .slice A' s9.R.length c', vO', .bool s9.bad] vO vO' s9.O := by
  subst hs9
  have HC := Lib.hid hC
  have HOKX := Lib.hid hokx
  have HEX := Lib.hid hex
  have HOK := Lib.hid hok
  have hkl := hK.1
  have HK := Lib.hid hK
  have heql : ∀ W, (binOp .eql 28 (.agg (numsA .u8 K)) (.agg (numsA .u8 emptyL))).run Try.prog W = .ok (.bool false) W := fun W => by
    have := run_eqKey K emptyL hK emptyL_ok W
    rw [decide_eq_false hKe] at this
    exact this
  obtain ⟨A', c', e9, hcap, hlen', hrd, hok9⟩ := id hr
  injection e9 with e91 e92 e93
  subst e91 e93
  obtain ⟨gn, on, rfl, hs0, hcx⟩ := hrd.elem hok9 0 (by simp)
  simp only [Nat.zero_mul, Nat.add_zero, List.getElem_cons_zero] at hcx
  have HD := Lib.hid (show ∀ W, Ext w0 W → ∀ j u, x.enc[j]? = some u → W.cell? ⟨gn, on + j, none⟩ = some u from fun W hW j u hu => hW.cell (hcx j u hu))
  have hcut := RdL.cutN (k := 1) hr (by simp [hn]) (by omega)
  rw [show n - 1 = R'.length by omega, show (x :: R').drop 1 = R' from rfl, show tNd.sz = 66 from rfl] at hcut
  obtain ⟨A2, hA2⟩ : ∃ A2, (if c = 1 then some (⟨gn, on, none⟩ : Addr) else (some (⟨gn, on, none⟩ : Addr)).map (·.add (1 * 66))) = A2 := ⟨_, rfl⟩
  obtain ⟨c2, hc2⟩ : ∃ c2, c - 1 = c2 := ⟨_, rfl⟩
  rw [hA2, hc2] at hcut
  have HSL := Lib.hid (show (Value.slice (if c = 1 then some (⟨gn, on, none⟩ : Addr) else (some (⟨gn, on, none⟩ : Addr)).map (·.add (1 * 66))) (n - 1) (c - 1)) = .slice A2 R'.length c2 by rw [hA2, hc2, show n - 1 = R'.length by omega])
  have HR2 := Lib.hid hcut
  have hn0 : ((n : Int) == 0) = false := by rw [beq_eq_false_iff_ne]; omega
  have hn1 : (0 : Int) < (n : Int) := by omega
  have hn2 : 1 ≤ n := by omega
  have HN := Lib.hid hn
  obtain ⟨m, hm⟩ : ∃ m, R'.length = m := ⟨_, rfl⟩
  have HM := Lib.hid hm
  have HST := Lib.hid (Nd.st hokx)
  have HGB := Lib.hid (show w0.heap.size ≤ g ∧ g < w.heap.size from ⟨hC.base, hC.lt⟩)
  have hneq : ∀ W, (binOp .neq 28 (.agg (numsA .u8 (kN x))) (.agg (numsA .u8 K))).run Try.prog W = .ok (.bool true) W := fun W => by
    have := run_neqKey (kN x) K (kN_ok x) HK.out W
    rw [decide_eq_false h1] at this
    exact this
  skip
  clear hr hokx hex hok hcx hrd hok9 hcut hA2 hc2 hs0 hcap hlen' e92 hn hC hm h1
  have c0 := HC.out.blk.at_ 0 rfl
  have c1 := HC.out.blk.at_ 1 rfl
  have c2 := HC.out.blk.at_ 2 rfl
  have c3 := HC.out.blk.at_ 3 rfl
  have c4 := HC.out.blk.at_ 4 rfl
  have f2 := HC.out.blk.free 2
  have f3 := HC.out.blk.free 3
  have f4 := HC.out.blk.free 4
  go_enter Try.func31, Try.ntmps31
  go_wp2_with fail
  have HA := Lib.hid (HC.out.go (ext_alloc w (.cells (numsA .u8 K) 28)))
  have HKB := Lib.hid (Blk.new w 28 (numsA .u8 K))
  clear c0 c1 c2 c3 c4 f2 f3 f4
  generalize w.alloc (.cells (numsA .u8 K) 28) = wa at HA HKB ⊢
  have cd : ∀ W, Ext wa W → W.cell? ⟨g, 4, none⟩ = some (.bool false) := fun W hW => (HA.out.blk.ext hW).at_ 4 rfl
  refine wp_region_held_drew (S := fun W => Ext wa W) (by kernel_rfl) (Ext.refl _).drew (fun hHeld => ?_)
  iterate 5
    refine tkD 0 (by simp only [List.size_toArray, List.length_cons, List.length_nil]; rfl) (by simp only [List.getElem?_toArray, List.getElem?_cons_zero, List.getElem?_cons_succ]; rfl) (by kernel_rfl) (by exact fun _ _ _ h => h) (by first | (exact Or.inl ⟨by rfl, by intro w hSw; (try dsimp only at hSw); go_simp; with_reducible rfl⟩) | (exact Or.inr ⟨by rfl, by rfl⟩)) (by assumption) ?_
    try simp only [Act.put, List.setIfInBounds_toArray, List.set_cons_zero, List.set_cons_succ]
  refine tkI 5 (v := (.agg (numsA .u8 K))) (by simp only [List.getElem?_toArray, List.getElem?_cons_zero, List.getElem?_cons_succ]; rfl) (by kernel_rfl) (by exact fun _ _ _ h => h) (by refine yields_loadB HKB.out aggKey (sizeN hkl) ?_ _ rfl rfl; rfl) (by assumption) ?_
  try simp only [Act.put, List.setIfInBounds_toArray, List.set_cons_zero, List.set_cons_succ]
  refine wpAnyH_ready (rs := [6]) (by kernel_rfl) (by simp) (AllReadyH.cons (o := ?oy76) ?hy76 (fun K hK => ?sy76) AllReadyH.nil)
  case hy76 => simp only [List.getElem?_toArray, List.getElem?_cons_zero, List.getElem?_cons_succ]; rfl
  go_simp
  refine (l04Empty_any _).mono ?_
  rintro e w9 ⟨rfl, hx⟩
  have hH2 := hHeld.trans hx
  refine hK.out _ _ hH2 (fun _ => ?_)
  clear hHeld hK K
  have hHeld := hH2
  clear hH2
  try simp only [Act.put, List.setIfInBounds_toArray, List.set_cons_zero, List.set_cons_succ]
  iterate 2
    refine tkD 0 (by simp only [List.size_toArray, List.length_cons, List.length_nil]; rfl) (by simp only [List.getElem?_toArray, List.getElem?_cons_zero, List.getElem?_cons_succ]; rfl) (by kernel_rfl) (by exact fun _ _ _ h => h) (by first | (exact Or.inl ⟨by rfl, by intro w hSw; (try dsimp only at hSw); go_simp; with_reducible rfl⟩) | (exact Or.inr ⟨by rfl, by rfl⟩)) (by assumption) ?_
    try simp only [Act.put, List.setIfInBounds_toArray, List.set_cons_zero, List.set_cons_succ]
  refine wpAnyH_done (by kernel_rfl) ?_ _
  have hAx := HA.out.go hHeld
  have HK2 := Lib.hid (HKB.out.ext hHeld)
  clear cd hHeld
  revert hAx HK2
  skip
  intro hAx HK2
  have HB1 := Lib.hid hAx
  clear hAx HA HKB
  have HBa := Lib.hid (HB1.out.go (ext_alloc w9 (.cells x.enc.toArray 52)))
  have HNa := Lib.hid (Blk.new w9 52 x.enc.toArray)
  have hgn : w9.heap.size ≠ g := by have := HB1.out.blk.lt; omega
  have HBb := Lib.hid (show Cx 62 w0 w ((World.alloc w9 (.cells x.enc.toArray 52)).setCell ⟨g, 2, none⟩ (.slice A2 R'.length c2)) g #[.string fr, .string to, .slice A2 R'.length c2, vO, .bool false] vO vO O from HBa.out.set 2 _)
  have HNb := Lib.hid (show Blk ((World.alloc w9 (.cells x.enc.toArray 52)).setCell ⟨g, 2, none⟩ (.slice A2 R'.length c2)) w9.heap.size 52 x.enc.toArray from HNa.out.far hgn _)
  have HKb := Lib.hid (show Blk ((World.alloc w9 (.cells x.enc.toArray 52)).setCell ⟨g, 2, none⟩ (.slice A2 R'.length c2)) w.heap.size 28 (numsA .u8 K) from (HK2.out.alloc _).far (by have := HGB.out; show w.heap.size ≠ g; omega) _)
  have d2 := HB1.out.blk.at_ 2 rfl
  have e2 := HBa.out.blk.at_ 2 rfl
  have f2 := HBa.out.blk.free 2
  have c64 := HNb.out.at_ 64 (Nd.at64 HOKX.out)
  go_wp2_with (first
    | (refine wpl_load ⟨gn, on, none⟩ x.enc (by rw [Nd.enc_length HOKX.out]; exact aggNodeI) rfl _ rfl rfl (fun j u hu => by rw [Addr.add_lit]; exact HD.out _ HB1.out.ext j u hu) ?_)
    | (refine wpl_storeNewB aggNodeI HST.out rfl rfl _ _ rfl rfl rfl rfl ?_)
    | (refine wpl_cut1 (sz := 66) (A := some ⟨gn, on, none⟩) (n := n) (c := c) (by kernel_rfl) (by kernel_rfl) rfl _ rfl rfl hn2 ?_; rw [HSL.out]))
  obtain ⟨nb, hnb⟩ : ∃ nb, w9.heap.size = nb := ⟨_, rfl⟩
  rw [hnb] at HNb hgn ⊢
  generalize (World.alloc w9 (.cells x.enc.toArray 52)).setCell ⟨g, 2, none⟩ (.slice A2 R'.length c2) = wb at HBb HNb HKb ⊢
  clear d2 e2 f2 c64 HBa HNa hnb HB1 HK2
  refine wp_region_held_drew (S := fun W => Ext wb W) (by kernel_rfl) (Ext.refl _).drew (fun hHeld => ?_)
  refine tkI 1 (v := (.agg (numsA .u8 K))) (by simp only [List.getElem?_toArray, List.getElem?_cons_zero, List.getElem?_cons_succ]; rfl) (by kernel_rfl) (by exact fun _ _ _ h => h) (by refine yields_loadB HKb.out aggKey (sizeN hkl) ?_ _ rfl rfl; rfl) (by assumption) ?_
  try simp only [Act.put, List.setIfInBounds_toArray, List.set_cons_zero, List.set_cons_succ]
  refine wpAnyH_ready (rs := [0]) (by kernel_rfl) (by simp) (AllReadyH.cons (o := ?oy110) ?hy110 (fun K hK => ?sy110) AllReadyH.nil)
  case hy110 => simp only [List.getElem?_toArray, List.getElem?_cons_zero, List.getElem?_cons_succ]; rfl
  go_simp
  refine (l04NodeKey_any x HOKX.out HEX.out nb _ (HNb.out.ext hHeld)).mono ?_
  rintro e w7 ⟨rfl, hx⟩
  have hH2 := hHeld.trans hx
  refine hK.out _ _ hH2 (fun _ => ?_)
  clear hHeld hK K
  have hHeld := hH2
  clear hH2
  try simp only [Act.put, List.setIfInBounds_toArray, List.set_cons_zero, List.set_cons_succ]
  try rw [show hashL 5 (nodeL x) = kN x by rw [kN]]
  iterate 14
    refine tkD 0 (by simp only [List.size_toArray, List.length_cons, List.length_nil]; rfl) (by simp only [List.getElem?_toArray, List.getElem?_cons_zero, List.getElem?_cons_succ]; rfl) (by kernel_rfl) (by exact fun _ _ _ h => h) (by first | (exact Or.inl ⟨by rfl, by intro w hSw; (try dsimp only at hSw); go_simp; with_reducible rfl⟩) | (exact Or.inr ⟨by rfl, by rfl⟩)) (by assumption) ?_
    try simp only [Act.put, List.setIfInBounds_toArray, List.set_cons_zero, List.set_cons_succ]
  refine wpAnyH_done (by kernel_rfl) ?_ _
  have HC7 := Lib.hid (HBb.out.go hHeld)
  have HN7 := Lib.hid (HNb.out.ext hHeld)
  clear hHeld HBb HNb HKb
  have g4 := HC7.out.blk.at_ 4 rfl
  have h4 := HC7.out.blk.free 4
  go_wp2
  refine bodyPost_ret (results_none rfl _ _ _) rfl ?_
  exact ⟨A2, c2, vO, rfl, HR2.out, HC7.out.set 4 (.bool true)⟩
set_option maxHeartbeats 16000000 in
set_option maxRecDepth 100000 in
theorem tree_low1 (f : Nat) (ih : TreeC f) (fr to : ByteArray) (w0 : World) (S0 : Nat → Prop) (K : List Int) (lo hi : ByteArray) (b : Bool) (x : Nd) (R' : List Nd) (O : List En) (hlen : R'.length ≤ f) (h64 : O.length + (R'.length + 1) ≤ 64) (hokx : x.ok) (hex : entB x.n x.v = true) (hok : ∀ y ∈ R', y.ok ∧ entB y.n y.v = true) (hKe : K ≠ emptyL) (hK : K32 K) (h1 : kN x = K) (h2 : ltB x.n lo = true)
    (w : World) (g : Nat) (A : Option Addr) (n c : Nat) (hn : n = R'.length + 1) (vO : Value) (hr : RdL tNd w0 S0 (.slice A n c) (x :: R')) (hC : Cx 62 w0 w w g #[.string fr, .string to, .slice A n c, vO, .bool false] vO vO O) (s9 : Sw) (hs9 : (⟨R', O, true⟩ : Sw) = s9) :
    Calls Try.prog 31 #[.pointer (some ⟨g, 0, none⟩), .agg (numsA .u8 K), .string lo, .string hi, .bool b] w fun e w' => ∃ A' c' vO', e = .returned (.tuple #[]) ∧ RdL tNd w0 S0 (.slice A' s9.R.length c') s9.R ∧
      Cx 62 w0 w w' g #[.string fr, .string to, .slice A' s9.R.length c', vO', .bool s9.bad] vO vO' s9.O := by
  subst hs9
  have HC := Lib.hid hC
  have HOKX := Lib.hid hokx
  have HEX := Lib.hid hex
  have HOK := Lib.hid hok
  have hkl := hK.1
  have HK := Lib.hid hK
  have heql : ∀ W, (binOp .eql 28 (.agg (numsA .u8 K)) (.agg (numsA .u8 emptyL))).run Try.prog W = .ok (.bool false) W := fun W => by
    have := run_eqKey K emptyL hK emptyL_ok W
    rw [decide_eq_false hKe] at this
    exact this
  obtain ⟨A', c', e9, hcap, hlen', hrd, hok9⟩ := id hr
  injection e9 with e91 e92 e93
  subst e91 e93
  obtain ⟨gn, on, rfl, hs0, hcx⟩ := hrd.elem hok9 0 (by simp)
  simp only [Nat.zero_mul, Nat.add_zero, List.getElem_cons_zero] at hcx
  have HD := Lib.hid (show ∀ W, Ext w0 W → ∀ j u, x.enc[j]? = some u → W.cell? ⟨gn, on + j, none⟩ = some u from fun W hW j u hu => hW.cell (hcx j u hu))
  have hcut := RdL.cutN (k := 1) hr (by simp [hn]) (by omega)
  rw [show n - 1 = R'.length by omega, show (x :: R').drop 1 = R' from rfl, show tNd.sz = 66 from rfl] at hcut
  obtain ⟨A2, hA2⟩ : ∃ A2, (if c = 1 then some (⟨gn, on, none⟩ : Addr) else (some (⟨gn, on, none⟩ : Addr)).map (·.add (1 * 66))) = A2 := ⟨_, rfl⟩
  obtain ⟨c2, hc2⟩ : ∃ c2, c - 1 = c2 := ⟨_, rfl⟩
  rw [hA2, hc2] at hcut
  have HSL := Lib.hid (show (Value.slice (if c = 1 then some (⟨gn, on, none⟩ : Addr) else (some (⟨gn, on, none⟩ : Addr)).map (·.add (1 * 66))) (n - 1) (c - 1)) = .slice A2 R'.length c2 by rw [hA2, hc2, show n - 1 = R'.length by omega])
  have HR2 := Lib.hid hcut
  have hn0 : ((n : Int) == 0) = false := by rw [beq_eq_false_iff_ne]; omega
  have hn1 : (0 : Int) < (n : Int) := by omega
  have hn2 : 1 ≤ n := by omega
  have HN := Lib.hid hn
  obtain ⟨m, hm⟩ : ∃ m, R'.length = m := ⟨_, rfl⟩
  have HM := Lib.hid hm
  have HST := Lib.hid (Nd.st hokx)
  have HGB := Lib.hid (show w0.heap.size ≤ g ∧ g < w.heap.size from ⟨hC.base, hC.lt⟩)
  have hneq : ∀ W, (binOp .neq 28 (.agg (numsA .u8 (kN x))) (.agg (numsA .u8 K))).run Try.prog W = .ok (.bool false) W := fun W => by
    have := run_neqKey (kN x) K (kN_ok x) HK.out W
    rw [decide_eq_true h1] at this
    exact this
  have hq1 : Op.bytesLess x.n.toList lo.toList = true := by rw [ltB_eq]; exact h2
  clear hr hokx hex hok hcx hrd hok9 hcut hA2 hc2 hs0 hcap hlen' e92 hn hC hm h1
  have c0 := HC.out.blk.at_ 0 rfl
  have c1 := HC.out.blk.at_ 1 rfl
  have c2 := HC.out.blk.at_ 2 rfl
  have c3 := HC.out.blk.at_ 3 rfl
  have c4 := HC.out.blk.at_ 4 rfl
  have f2 := HC.out.blk.free 2
  have f3 := HC.out.blk.free 3
  have f4 := HC.out.blk.free 4
  go_enter Try.func31, Try.ntmps31
  go_wp2_with fail
  have HA := Lib.hid (HC.out.go (ext_alloc w (.cells (numsA .u8 K) 28)))
  have HKB := Lib.hid (Blk.new w 28 (numsA .u8 K))
  clear c0 c1 c2 c3 c4 f2 f3 f4
  generalize w.alloc (.cells (numsA .u8 K) 28) = wa at HA HKB ⊢
  have cd : ∀ W, Ext wa W → W.cell? ⟨g, 4, none⟩ = some (.bool false) := fun W hW => (HA.out.blk.ext hW).at_ 4 rfl
  refine wp_region_held_drew (S := fun W => Ext wa W) (by kernel_rfl) (Ext.refl _).drew (fun hHeld => ?_)
  iterate 5
    refine tkD 0 (by simp only [List.size_toArray, List.length_cons, List.length_nil]; rfl) (by simp only [List.getElem?_toArray, List.getElem?_cons_zero, List.getElem?_cons_succ]; rfl) (by kernel_rfl) (by exact fun _ _ _ h => h) (by first | (exact Or.inl ⟨by rfl, by intro w hSw; (try dsimp only at hSw); go_simp; with_reducible rfl⟩) | (exact Or.inr ⟨by rfl, by rfl⟩)) (by assumption) ?_
    try simp only [Act.put, List.setIfInBounds_toArray, List.set_cons_zero, List.set_cons_succ]
  refine tkI 5 (v := (.agg (numsA .u8 K))) (by simp only [List.getElem?_toArray, List.getElem?_cons_zero, List.getElem?_cons_succ]; rfl) (by kernel_rfl) (by exact fun _ _ _ h => h) (by refine yields_loadB HKB.out aggKey (sizeN hkl) ?_ _ rfl rfl; rfl) (by assumption) ?_
  try simp only [Act.put, List.setIfInBounds_toArray, List.set_cons_zero, List.set_cons_succ]
  refine wpAnyH_ready (rs := [6]) (by kernel_rfl) (by simp) (AllReadyH.cons (o := ?oy326) ?hy326 (fun K hK => ?sy326) AllReadyH.nil)
  case hy326 => simp only [List.getElem?_toArray, List.getElem?_cons_zero, List.getElem?_cons_succ]; rfl
  go_simp
  refine (l04Empty_any _).mono ?_
  rintro e w9 ⟨rfl, hx⟩
  have hH2 := hHeld.trans hx
  refine hK.out _ _ hH2 (fun _ => ?_)
  clear hHeld hK K
  have hHeld := hH2
  clear hH2
  try simp only [Act.put, List.setIfInBounds_toArray, List.set_cons_zero, List.set_cons_succ]
  iterate 2
    refine tkD 0 (by simp only [List.size_toArray, List.length_cons, List.length_nil]; rfl) (by simp only [List.getElem?_toArray, List.getElem?_cons_zero, List.getElem?_cons_succ]; rfl) (by kernel_rfl) (by exact fun _ _ _ h => h) (by first | (exact Or.inl ⟨by rfl, by intro w hSw; (try dsimp only at hSw); go_simp; with_reducible rfl⟩) | (exact Or.inr ⟨by rfl, by rfl⟩)) (by assumption) ?_
    try simp only [Act.put, List.setIfInBounds_toArray, List.set_cons_zero, List.set_cons_succ]
  refine wpAnyH_done (by kernel_rfl) ?_ _
  have hAx := HA.out.go hHeld
  have HK2 := Lib.hid (HKB.out.ext hHeld)
  clear cd hHeld
  revert hAx HK2
  skip
  intro hAx HK2
  have HB1 := Lib.hid hAx
  clear hAx HA HKB
  have HBa := Lib.hid (HB1.out.go (ext_alloc w9 (.cells x.enc.toArray 52)))
  have HNa := Lib.hid (Blk.new w9 52 x.enc.toArray)
  have hgn : w9.heap.size ≠ g := by have := HB1.out.blk.lt; omega
  have HBb := Lib.hid (show Cx 62 w0 w ((World.alloc w9 (.cells x.enc.toArray 52)).setCell ⟨g, 2, none⟩ (.slice A2 R'.length c2)) g #[.string fr, .string to, .slice A2 R'.length c2, vO, .bool false] vO vO O from HBa.out.set 2 _)
  have HNb := Lib.hid (show Blk ((World.alloc w9 (.cells x.enc.toArray 52)).setCell ⟨g, 2, none⟩ (.slice A2 R'.length c2)) w9.heap.size 52 x.enc.toArray from HNa.out.far hgn _)
  have HKb := Lib.hid (show Blk ((World.alloc w9 (.cells x.enc.toArray 52)).setCell ⟨g, 2, none⟩ (.slice A2 R'.length c2)) w.heap.size 28 (numsA .u8 K) from (HK2.out.alloc _).far (by have := HGB.out; show w.heap.size ≠ g; omega) _)
  have d2 := HB1.out.blk.at_ 2 rfl
  have e2 := HBa.out.blk.at_ 2 rfl
  have f2 := HBa.out.blk.free 2
  have c64 := HNb.out.at_ 64 (Nd.at64 HOKX.out)
  go_wp2_with (first
    | (refine wpl_load ⟨gn, on, none⟩ x.enc (by rw [Nd.enc_length HOKX.out]; exact aggNodeI) rfl _ rfl rfl (fun j u hu => by rw [Addr.add_lit]; exact HD.out _ HB1.out.ext j u hu) ?_)
    | (refine wpl_storeNewB aggNodeI HST.out rfl rfl _ _ rfl rfl rfl rfl ?_)
    | (refine wpl_cut1 (sz := 66) (A := some ⟨gn, on, none⟩) (n := n) (c := c) (by kernel_rfl) (by kernel_rfl) rfl _ rfl rfl hn2 ?_; rw [HSL.out]))
  obtain ⟨nb, hnb⟩ : ∃ nb, w9.heap.size = nb := ⟨_, rfl⟩
  rw [hnb] at HNb hgn ⊢
  generalize (World.alloc w9 (.cells x.enc.toArray 52)).setCell ⟨g, 2, none⟩ (.slice A2 R'.length c2) = wb at HBb HNb HKb ⊢
  clear d2 e2 f2 c64 HBa HNa hnb HB1 HK2
  refine wp_region_held_drew (S := fun W => Ext wb W) (by kernel_rfl) (Ext.refl _).drew (fun hHeld => ?_)
  refine tkI 1 (v := (.agg (numsA .u8 K))) (by simp only [List.getElem?_toArray, List.getElem?_cons_zero, List.getElem?_cons_succ]; rfl) (by kernel_rfl) (by exact fun _ _ _ h => h) (by refine yields_loadB HKb.out aggKey (sizeN hkl) ?_ _ rfl rfl; rfl) (by assumption) ?_
  try simp only [Act.put, List.setIfInBounds_toArray, List.set_cons_zero, List.set_cons_succ]
  refine wpAnyH_ready (rs := [0]) (by kernel_rfl) (by simp) (AllReadyH.cons (o := ?oy360) ?hy360 (fun K hK => ?sy360) AllReadyH.nil)
  case hy360 => simp only [List.getElem?_toArray, List.getElem?_cons_zero, List.getElem?_cons_succ]; rfl
  go_simp
  refine (l04NodeKey_any x HOKX.out HEX.out nb _ (HNb.out.ext hHeld)).mono ?_
  rintro e w7 ⟨rfl, hx⟩
  have hH2 := hHeld.trans hx
  refine hK.out _ _ hH2 (fun _ => ?_)
  clear hHeld hK K
  have hHeld := hH2
  clear hH2
  try simp only [Act.put, List.setIfInBounds_toArray, List.set_cons_zero, List.set_cons_succ]
  try rw [show hashL 5 (nodeL x) = kN x by rw [kN]]
  iterate 14
    refine tkD 0 (by simp only [List.size_toArray, List.length_cons, List.length_nil]; rfl) (by simp only [List.getElem?_toArray, List.getElem?_cons_zero, List.getElem?_cons_succ]; rfl) (by kernel_rfl) (by exact fun _ _ _ h => h) (by first | (exact Or.inl ⟨by rfl, by intro w hSw; (try dsimp only at hSw); go_simp; with_reducible rfl⟩) | (exact Or.inr ⟨by rfl, by rfl⟩)) (by assumption) ?_
    try simp only [Act.put, List.setIfInBounds_toArray, List.set_cons_zero, List.set_cons_succ]
  refine wpAnyH_done (by kernel_rfl) ?_ _
  have HC7 := Lib.hid (HBb.out.go hHeld)
  have HN7 := Lib.hid (HNb.out.ext hHeld)
  clear hHeld HBb HNb HKb
  have g4 := HC7.out.blk.at_ 4 rfl
  have h4 := HC7.out.blk.free 4
  go_wp2
  refine bodyPost_ret (results_none rfl _ _ _) rfl ?_
  exact ⟨A2, c2, vO, rfl, HR2.out, HC7.out.set 4 (.bool true)⟩
set_option maxHeartbeats 16000000 in
set_option maxRecDepth 100000 in
theorem tree_low2 (f : Nat) (ih : TreeC f) (fr to : ByteArray) (w0 : World) (S0 : Nat → Prop) (K : List Int) (lo hi : ByteArray) (b : Bool) (x : Nd) (R' : List Nd) (O : List En) (hlen : R'.length ≤ f) (h64 : O.length + (R'.length + 1) ≤ 64) (hokx : x.ok) (hex : entB x.n x.v = true) (hok : ∀ y ∈ R', y.ok ∧ entB y.n y.v = true) (hKe : K ≠ emptyL) (hK : K32 K) (h1 : kN x = K) (h2 : x.n = lo)
    (w : World) (g : Nat) (A : Option Addr) (n c : Nat) (hn : n = R'.length + 1) (vO : Value) (hr : RdL tNd w0 S0 (.slice A n c) (x :: R')) (hC : Cx 62 w0 w w g #[.string fr, .string to, .slice A n c, vO, .bool false] vO vO O) (s9 : Sw) (hs9 : (⟨R', O, true⟩ : Sw) = s9) :
    Calls Try.prog 31 #[.pointer (some ⟨g, 0, none⟩), .agg (numsA .u8 K), .string lo, .string hi, .bool b] w fun e w' => ∃ A' c' vO', e = .returned (.tuple #[]) ∧ RdL tNd w0 S0 (.slice A' s9.R.length c') s9.R ∧
      Cx 62 w0 w w' g #[.string fr, .string to, .slice A' s9.R.length c', vO', .bool s9.bad] vO vO' s9.O := by
  subst hs9
  have HC := Lib.hid hC
  have HOKX := Lib.hid hokx
  have HEX := Lib.hid hex
  have HOK := Lib.hid hok
  have hkl := hK.1
  have HK := Lib.hid hK
  have heql : ∀ W, (binOp .eql 28 (.agg (numsA .u8 K)) (.agg (numsA .u8 emptyL))).run Try.prog W = .ok (.bool false) W := fun W => by
    have := run_eqKey K emptyL hK emptyL_ok W
    rw [decide_eq_false hKe] at this
    exact this
  obtain ⟨A', c', e9, hcap, hlen', hrd, hok9⟩ := id hr
  injection e9 with e91 e92 e93
  subst e91 e93
  obtain ⟨gn, on, rfl, hs0, hcx⟩ := hrd.elem hok9 0 (by simp)
  simp only [Nat.zero_mul, Nat.add_zero, List.getElem_cons_zero] at hcx
  have HD := Lib.hid (show ∀ W, Ext w0 W → ∀ j u, x.enc[j]? = some u → W.cell? ⟨gn, on + j, none⟩ = some u from fun W hW j u hu => hW.cell (hcx j u hu))
  have hcut := RdL.cutN (k := 1) hr (by simp [hn]) (by omega)
  rw [show n - 1 = R'.length by omega, show (x :: R').drop 1 = R' from rfl, show tNd.sz = 66 from rfl] at hcut
  obtain ⟨A2, hA2⟩ : ∃ A2, (if c = 1 then some (⟨gn, on, none⟩ : Addr) else (some (⟨gn, on, none⟩ : Addr)).map (·.add (1 * 66))) = A2 := ⟨_, rfl⟩
  obtain ⟨c2, hc2⟩ : ∃ c2, c - 1 = c2 := ⟨_, rfl⟩
  rw [hA2, hc2] at hcut
  have HSL := Lib.hid (show (Value.slice (if c = 1 then some (⟨gn, on, none⟩ : Addr) else (some (⟨gn, on, none⟩ : Addr)).map (·.add (1 * 66))) (n - 1) (c - 1)) = .slice A2 R'.length c2 by rw [hA2, hc2, show n - 1 = R'.length by omega])
  have HR2 := Lib.hid hcut
  have hn0 : ((n : Int) == 0) = false := by rw [beq_eq_false_iff_ne]; omega
  have hn1 : (0 : Int) < (n : Int) := by omega
  have hn2 : 1 ≤ n := by omega
  have HN := Lib.hid hn
  obtain ⟨m, hm⟩ : ∃ m, R'.length = m := ⟨_, rfl⟩
  have HM := Lib.hid hm
  have HST := Lib.hid (Nd.st hokx)
  have HGB := Lib.hid (show w0.heap.size ≤ g ∧ g < w.heap.size from ⟨hC.base, hC.lt⟩)
  have hneq : ∀ W, (binOp .neq 28 (.agg (numsA .u8 (kN x))) (.agg (numsA .u8 K))).run Try.prog W = .ok (.bool false) W := fun W => by
    have := run_neqKey (kN x) K (kN_ok x) HK.out W
    rw [decide_eq_true h1] at this
    exact this
  have hq1 : Op.bytesLess x.n.toList lo.toList = false := by rw [ltB_eq]; exact (by rw [h2]; exact ltB_irrefl _)
  have hq2 : (x.n.toList == lo.toList) = true := by rw [h2]; simp
  clear h2
  clear hr hokx hex hok hcx hrd hok9 hcut hA2 hc2 hs0 hcap hlen' e92 hn hC hm h1
  have c0 := HC.out.blk.at_ 0 rfl
  have c1 := HC.out.blk.at_ 1 rfl
  have c2 := HC.out.blk.at_ 2 rfl
  have c3 := HC.out.blk.at_ 3 rfl
  have c4 := HC.out.blk.at_ 4 rfl
  have f2 := HC.out.blk.free 2
  have f3 := HC.out.blk.free 3
  have f4 := HC.out.blk.free 4
  go_enter Try.func31, Try.ntmps31
  go_wp2_with fail
  have HA := Lib.hid (HC.out.go (ext_alloc w (.cells (numsA .u8 K) 28)))
  have HKB := Lib.hid (Blk.new w 28 (numsA .u8 K))
  clear c0 c1 c2 c3 c4 f2 f3 f4
  generalize w.alloc (.cells (numsA .u8 K) 28) = wa at HA HKB ⊢
  have cd : ∀ W, Ext wa W → W.cell? ⟨g, 4, none⟩ = some (.bool false) := fun W hW => (HA.out.blk.ext hW).at_ 4 rfl
  refine wp_region_held_drew (S := fun W => Ext wa W) (by kernel_rfl) (Ext.refl _).drew (fun hHeld => ?_)
  iterate 5
    refine tkD 0 (by simp only [List.size_toArray, List.length_cons, List.length_nil]; rfl) (by simp only [List.getElem?_toArray, List.getElem?_cons_zero, List.getElem?_cons_succ]; rfl) (by kernel_rfl) (by exact fun _ _ _ h => h) (by first | (exact Or.inl ⟨by rfl, by intro w hSw; (try dsimp only at hSw); go_simp; with_reducible rfl⟩) | (exact Or.inr ⟨by rfl, by rfl⟩)) (by assumption) ?_
    try simp only [Act.put, List.setIfInBounds_toArray, List.set_cons_zero, List.set_cons_succ]
  refine tkI 5 (v := (.agg (numsA .u8 K))) (by simp only [List.getElem?_toArray, List.getElem?_cons_zero, List.getElem?_cons_succ]; rfl) (by kernel_rfl) (by exact fun _ _ _ h => h) (by refine yields_loadB HKB.out aggKey (sizeN hkl) ?_ _ rfl rfl; rfl) (by assumption) ?_
  try simp only [Act.put, List.setIfInBounds_toArray, List.set_cons_zero, List.set_cons_succ]
  refine wpAnyH_ready (rs := [6]) (by kernel_rfl) (by simp) (AllReadyH.cons (o := ?oy576) ?hy576 (fun K hK => ?sy576) AllReadyH.nil)
  case hy576 => simp only [List.getElem?_toArray, List.getElem?_cons_zero, List.getElem?_cons_succ]; rfl
  go_simp
  refine (l04Empty_any _).mono ?_
  rintro e w9 ⟨rfl, hx⟩
  have hH2 := hHeld.trans hx
  refine hK.out _ _ hH2 (fun _ => ?_)
  clear hHeld hK K
  have hHeld := hH2
  clear hH2
  try simp only [Act.put, List.setIfInBounds_toArray, List.set_cons_zero, List.set_cons_succ]
  iterate 2
    refine tkD 0 (by simp only [List.size_toArray, List.length_cons, List.length_nil]; rfl) (by simp only [List.getElem?_toArray, List.getElem?_cons_zero, List.getElem?_cons_succ]; rfl) (by kernel_rfl) (by exact fun _ _ _ h => h) (by first | (exact Or.inl ⟨by rfl, by intro w hSw; (try dsimp only at hSw); go_simp; with_reducible rfl⟩) | (exact Or.inr ⟨by rfl, by rfl⟩)) (by assumption) ?_
    try simp only [Act.put, List.setIfInBounds_toArray, List.set_cons_zero, List.set_cons_succ]
  refine wpAnyH_done (by kernel_rfl) ?_ _
  have hAx := HA.out.go hHeld
  have HK2 := Lib.hid (HKB.out.ext hHeld)
  clear cd hHeld
  revert hAx HK2
  skip
  intro hAx HK2
  have HB1 := Lib.hid hAx
  clear hAx HA HKB
  have HBa := Lib.hid (HB1.out.go (ext_alloc w9 (.cells x.enc.toArray 52)))
  have HNa := Lib.hid (Blk.new w9 52 x.enc.toArray)
  have hgn : w9.heap.size ≠ g := by have := HB1.out.blk.lt; omega
  have HBb := Lib.hid (show Cx 62 w0 w ((World.alloc w9 (.cells x.enc.toArray 52)).setCell ⟨g, 2, none⟩ (.slice A2 R'.length c2)) g #[.string fr, .string to, .slice A2 R'.length c2, vO, .bool false] vO vO O from HBa.out.set 2 _)
  have HNb := Lib.hid (show Blk ((World.alloc w9 (.cells x.enc.toArray 52)).setCell ⟨g, 2, none⟩ (.slice A2 R'.length c2)) w9.heap.size 52 x.enc.toArray from HNa.out.far hgn _)
  have HKb := Lib.hid (show Blk ((World.alloc w9 (.cells x.enc.toArray 52)).setCell ⟨g, 2, none⟩ (.slice A2 R'.length c2)) w.heap.size 28 (numsA .u8 K) from (HK2.out.alloc _).far (by have := HGB.out; show w.heap.size ≠ g; omega) _)
  have d2 := HB1.out.blk.at_ 2 rfl
  have e2 := HBa.out.blk.at_ 2 rfl
  have f2 := HBa.out.blk.free 2
  have c64 := HNb.out.at_ 64 (Nd.at64 HOKX.out)
  go_wp2_with (first
    | (refine wpl_load ⟨gn, on, none⟩ x.enc (by rw [Nd.enc_length HOKX.out]; exact aggNodeI) rfl _ rfl rfl (fun j u hu => by rw [Addr.add_lit]; exact HD.out _ HB1.out.ext j u hu) ?_)
    | (refine wpl_storeNewB aggNodeI HST.out rfl rfl _ _ rfl rfl rfl rfl ?_)
    | (refine wpl_cut1 (sz := 66) (A := some ⟨gn, on, none⟩) (n := n) (c := c) (by kernel_rfl) (by kernel_rfl) rfl _ rfl rfl hn2 ?_; rw [HSL.out]))
  obtain ⟨nb, hnb⟩ : ∃ nb, w9.heap.size = nb := ⟨_, rfl⟩
  rw [hnb] at HNb hgn ⊢
  generalize (World.alloc w9 (.cells x.enc.toArray 52)).setCell ⟨g, 2, none⟩ (.slice A2 R'.length c2) = wb at HBb HNb HKb ⊢
  clear d2 e2 f2 c64 HBa HNa hnb HB1 HK2
  refine wp_region_held_drew (S := fun W => Ext wb W) (by kernel_rfl) (Ext.refl _).drew (fun hHeld => ?_)
  refine tkI 1 (v := (.agg (numsA .u8 K))) (by simp only [List.getElem?_toArray, List.getElem?_cons_zero, List.getElem?_cons_succ]; rfl) (by kernel_rfl) (by exact fun _ _ _ h => h) (by refine yields_loadB HKb.out aggKey (sizeN hkl) ?_ _ rfl rfl; rfl) (by assumption) ?_
  try simp only [Act.put, List.setIfInBounds_toArray, List.set_cons_zero, List.set_cons_succ]
  refine wpAnyH_ready (rs := [0]) (by kernel_rfl) (by simp) (AllReadyH.cons (o := ?oy610) ?hy610 (fun K hK => ?sy610) AllReadyH.nil)
  case hy610 => simp only [List.getElem?_toArray, List.getElem?_cons_zero, List.getElem?_cons_succ]; rfl
  go_simp
  refine (l04NodeKey_any x HOKX.out HEX.out nb _ (HNb.out.ext hHeld)).mono ?_
  rintro e w7 ⟨rfl, hx⟩
  have hH2 := hHeld.trans hx
  refine hK.out _ _ hH2 (fun _ => ?_)
  clear hHeld hK K
  have hHeld := hH2
  clear hH2
  try simp only [Act.put, List.setIfInBounds_toArray, List.set_cons_zero, List.set_cons_succ]
  try rw [show hashL 5 (nodeL x) = kN x by rw [kN]]
  iterate 14
    refine tkD 0 (by simp only [List.size_toArray, List.length_cons, List.length_nil]; rfl) (by simp only [List.getElem?_toArray, List.getElem?_cons_zero, List.getElem?_cons_succ]; rfl) (by kernel_rfl) (by exact fun _ _ _ h => h) (by first | (exact Or.inl ⟨by rfl, by intro w hSw; (try dsimp only at hSw); go_simp; with_reducible rfl⟩) | (exact Or.inr ⟨by rfl, by rfl⟩)) (by assumption) ?_
    try simp only [Act.put, List.setIfInBounds_toArray, List.set_cons_zero, List.set_cons_succ]
  refine wpAnyH_done (by kernel_rfl) ?_ _
  have HC7 := Lib.hid (HBb.out.go hHeld)
  have HN7 := Lib.hid (HNb.out.ext hHeld)
  clear hHeld HBb HNb HKb
  have g4 := HC7.out.blk.at_ 4 rfl
  have h4 := HC7.out.blk.free 4
  go_wp2
  refine bodyPost_ret (results_none rfl _ _ _) rfl ?_
  exact ⟨A2, c2, vO, rfl, HR2.out, HC7.out.set 4 (.bool true)⟩
set_option maxHeartbeats 16000000 in
set_option maxRecDepth 100000 in
theorem tree_high (f : Nat) (ih : TreeC f) (fr to : ByteArray) (w0 : World) (S0 : Nat → Prop) (K : List Int) (lo hi : ByteArray) (b : Bool) (x : Nd) (R' : List Nd) (O : List En) (hlen : R'.length ≤ f) (h64 : O.length + (R'.length + 1) ≤ 64) (hokx : x.ok) (hex : entB x.n x.v = true) (hok : ∀ y ∈ R', y.ok ∧ entB y.n y.v = true) (hKe : K ≠ emptyL) (hK : K32 K) (h1 : kN x = K) (h2 : ltB lo x.n = true) (hb : b = true) (h3 : ltB x.n hi = false)
    (w : World) (g : Nat) (A : Option Addr) (n c : Nat) (hn : n = R'.length + 1) (vO : Value) (hr : RdL tNd w0 S0 (.slice A n c) (x :: R')) (hC : Cx 62 w0 w w g #[.string fr, .string to, .slice A n c, vO, .bool false] vO vO O) (s9 : Sw) (hs9 : (⟨R', O, true⟩ : Sw) = s9) :
    Calls Try.prog 31 #[.pointer (some ⟨g, 0, none⟩), .agg (numsA .u8 K), .string lo, .string hi, .bool b] w fun e w' => ∃ A' c' vO', e = .returned (.tuple #[]) ∧ RdL tNd w0 S0 (.slice A' s9.R.length c') s9.R ∧
      Cx 62 w0 w w' g #[.string fr, .string to, .slice A' s9.R.length c', vO', .bool s9.bad] vO vO' s9.O := by
  subst hs9
  have HC := Lib.hid hC
  have HOKX := Lib.hid hokx
  have HEX := Lib.hid hex
  have HOK := Lib.hid hok
  have hkl := hK.1
  have HK := Lib.hid hK
  have heql : ∀ W, (binOp .eql 28 (.agg (numsA .u8 K)) (.agg (numsA .u8 emptyL))).run Try.prog W = .ok (.bool false) W := fun W => by
    have := run_eqKey K emptyL hK emptyL_ok W
    rw [decide_eq_false hKe] at this
    exact this
  obtain ⟨A', c', e9, hcap, hlen', hrd, hok9⟩ := id hr
  injection e9 with e91 e92 e93
  subst e91 e93
  obtain ⟨gn, on, rfl, hs0, hcx⟩ := hrd.elem hok9 0 (by simp)
  simp only [Nat.zero_mul, Nat.add_zero, List.getElem_cons_zero] at hcx
  have HD := Lib.hid (show ∀ W, Ext w0 W → ∀ j u, x.enc[j]? = some u → W.cell? ⟨gn, on + j, none⟩ = some u from fun W hW j u hu => hW.cell (hcx j u hu))
  have hcut := RdL.cutN (k := 1) hr (by simp [hn]) (by omega)
  rw [show n - 1 = R'.length by omega, show (x :: R').drop 1 = R' from rfl, show tNd.sz = 66 from rfl] at hcut
  obtain ⟨A2, hA2⟩ : ∃ A2, (if c = 1 then some (⟨gn, on, none⟩ : Addr) else (some (⟨gn, on, none⟩ : Addr)).map (·.add (1 * 66))) = A2 := ⟨_, rfl⟩
  obtain ⟨c2, hc2⟩ : ∃ c2, c - 1 = c2 := ⟨_, rfl⟩
  rw [hA2, hc2] at hcut
  have HSL := Lib.hid (show (Value.slice (if c = 1 then some (⟨gn, on, none⟩ : Addr) else (some (⟨gn, on, none⟩ : Addr)).map (·.add (1 * 66))) (n - 1) (c - 1)) = .slice A2 R'.length c2 by rw [hA2, hc2, show n - 1 = R'.length by omega])
  have HR2 := Lib.hid hcut
  have hn0 : ((n : Int) == 0) = false := by rw [beq_eq_false_iff_ne]; omega
  have hn1 : (0 : Int) < (n : Int) := by omega
  have hn2 : 1 ≤ n := by omega
  have HN := Lib.hid hn
  obtain ⟨m, hm⟩ : ∃ m, R'.length = m := ⟨_, rfl⟩
  have HM := Lib.hid hm
  have HST := Lib.hid (Nd.st hokx)
  have HGB := Lib.hid (show w0.heap.size ≤ g ∧ g < w.heap.size from ⟨hC.base, hC.lt⟩)
  have hneq : ∀ W, (binOp .neq 28 (.agg (numsA .u8 (kN x))) (.agg (numsA .u8 K))).run Try.prog W = .ok (.bool false) W := fun W => by
    have := run_neqKey (kN x) K (kN_ok x) HK.out W
    rw [decide_eq_true h1] at this
    exact this
  subst hb
  have hq1 : Op.bytesLess x.n.toList lo.toList = false := by rw [ltB_eq]; exact ltB_asymm h2
  have hq2 : (x.n.toList == lo.toList) = false := by rw [beq_eq_false_iff_ne]; exact fun e => ltB_ne h2 (toList_inj e).symm
  have hq3 : Op.bytesLess x.n.toList hi.toList = false := by rw [ltB_eq]; exact h3
  clear hr hokx hex hok hcx hrd hok9 hcut hA2 hc2 hs0 hcap hlen' e92 hn hC hm h1
  have c0 := HC.out.blk.at_ 0 rfl
  have c1 := HC.out.blk.at_ 1 rfl
  have c2 := HC.out.blk.at_ 2 rfl
  have c3 := HC.out.blk.at_ 3 rfl
  have c4 := HC.out.blk.at_ 4 rfl
  have f2 := HC.out.blk.free 2
  have f3 := HC.out.blk.free 3
  have f4 := HC.out.blk.free 4
  go_enter Try.func31, Try.ntmps31
  go_wp2_with fail
  have HA := Lib.hid (HC.out.go (ext_alloc w (.cells (numsA .u8 K) 28)))
  have HKB := Lib.hid (Blk.new w 28 (numsA .u8 K))
  clear c0 c1 c2 c3 c4 f2 f3 f4
  generalize w.alloc (.cells (numsA .u8 K) 28) = wa at HA HKB ⊢
  have cd : ∀ W, Ext wa W → W.cell? ⟨g, 4, none⟩ = some (.bool false) := fun W hW => (HA.out.blk.ext hW).at_ 4 rfl
  refine wp_region_held_drew (S := fun W => Ext wa W) (by kernel_rfl) (Ext.refl _).drew (fun hHeld => ?_)
  iterate 5
    refine tkD 0 (by simp only [List.size_toArray, List.length_cons, List.length_nil]; rfl) (by simp only [List.getElem?_toArray, List.getElem?_cons_zero, List.getElem?_cons_succ]; rfl) (by kernel_rfl) (by exact fun _ _ _ h => h) (by first | (exact Or.inl ⟨by rfl, by intro w hSw; (try dsimp only at hSw); go_simp; with_reducible rfl⟩) | (exact Or.inr ⟨by rfl, by rfl⟩)) (by assumption) ?_
    try simp only [Act.put, List.setIfInBounds_toArray, List.set_cons_zero, List.set_cons_succ]
  refine tkI 5 (v := (.agg (numsA .u8 K))) (by simp only [List.getElem?_toArray, List.getElem?_cons_zero, List.getElem?_cons_succ]; rfl) (by kernel_rfl) (by exact fun _ _ _ h => h) (by refine yields_loadB HKB.out aggKey (sizeN hkl) ?_ _ rfl rfl; rfl) (by assumption) ?_
  try simp only [Act.put, List.setIfInBounds_toArray, List.set_cons_zero, List.set_cons_succ]
  refine wpAnyH_ready (rs := [6]) (by kernel_rfl) (by simp) (AllReadyH.cons (o := ?oy826) ?hy826 (fun K hK => ?sy826) AllReadyH.nil)
  case hy826 => simp only [List.getElem?_toArray, List.getElem?_cons_zero, List.getElem?_cons_succ]; rfl
  go_simp
  refine (l04Empty_any _).mono ?_
  rintro e w9 ⟨rfl, hx⟩
  have hH2 := hHeld.trans hx
  refine hK.out _ _ hH2 (fun _ => ?_)
  clear hHeld hK K
  have hHeld := hH2
  clear hH2
  try simp only [Act.put, List.setIfInBounds_toArray, List.set_cons_zero, List.set_cons_succ]
  iterate 2
    refine tkD 0 (by simp only [List.size_toArray, List.length_cons, List.length_nil]; rfl) (by simp only [List.getElem?_toArray, List.getElem?_cons_zero, List.getElem?_cons_succ]; rfl) (by kernel_rfl) (by exact fun _ _ _ h => h) (by first | (exact Or.inl ⟨by rfl, by intro w hSw; (try dsimp only at hSw); go_simp; with_reducible rfl⟩) | (exact Or.inr ⟨by rfl, by rfl⟩)) (by assumption) ?_
    try simp only [Act.put, List.setIfInBounds_toArray, List.set_cons_zero, List.set_cons_succ]
  refine wpAnyH_done (by kernel_rfl) ?_ _
  have hAx := HA.out.go hHeld
  have HK2 := Lib.hid (HKB.out.ext hHeld)
  clear cd hHeld
  revert hAx HK2
  skip
  intro hAx HK2
  have HB1 := Lib.hid hAx
  clear hAx HA HKB
  have HBa := Lib.hid (HB1.out.go (ext_alloc w9 (.cells x.enc.toArray 52)))
  have HNa := Lib.hid (Blk.new w9 52 x.enc.toArray)
  have hgn : w9.heap.size ≠ g := by have := HB1.out.blk.lt; omega
  have HBb := Lib.hid (show Cx 62 w0 w ((World.alloc w9 (.cells x.enc.toArray 52)).setCell ⟨g, 2, none⟩ (.slice A2 R'.length c2)) g #[.string fr, .string to, .slice A2 R'.length c2, vO, .bool false] vO vO O from HBa.out.set 2 _)
  have HNb := Lib.hid (show Blk ((World.alloc w9 (.cells x.enc.toArray 52)).setCell ⟨g, 2, none⟩ (.slice A2 R'.length c2)) w9.heap.size 52 x.enc.toArray from HNa.out.far hgn _)
  have HKb := Lib.hid (show Blk ((World.alloc w9 (.cells x.enc.toArray 52)).setCell ⟨g, 2, none⟩ (.slice A2 R'.length c2)) w.heap.size 28 (numsA .u8 K) from (HK2.out.alloc _).far (by have := HGB.out; show w.heap.size ≠ g; omega) _)
  have d2 := HB1.out.blk.at_ 2 rfl
  have e2 := HBa.out.blk.at_ 2 rfl
  have f2 := HBa.out.blk.free 2
  have c64 := HNb.out.at_ 64 (Nd.at64 HOKX.out)
  go_wp2_with (first
    | (refine wpl_load ⟨gn, on, none⟩ x.enc (by rw [Nd.enc_length HOKX.out]; exact aggNodeI) rfl _ rfl rfl (fun j u hu => by rw [Addr.add_lit]; exact HD.out _ HB1.out.ext j u hu) ?_)
    | (refine wpl_storeNewB aggNodeI HST.out rfl rfl _ _ rfl rfl rfl rfl ?_)
    | (refine wpl_cut1 (sz := 66) (A := some ⟨gn, on, none⟩) (n := n) (c := c) (by kernel_rfl) (by kernel_rfl) rfl _ rfl rfl hn2 ?_; rw [HSL.out]))
  obtain ⟨nb, hnb⟩ : ∃ nb, w9.heap.size = nb := ⟨_, rfl⟩
  rw [hnb] at HNb hgn ⊢
  generalize (World.alloc w9 (.cells x.enc.toArray 52)).setCell ⟨g, 2, none⟩ (.slice A2 R'.length c2) = wb at HBb HNb HKb ⊢
  clear d2 e2 f2 c64 HBa HNa hnb HB1 HK2
  refine wp_region_held_drew (S := fun W => Ext wb W) (by kernel_rfl) (Ext.refl _).drew (fun hHeld => ?_)
  refine tkI 1 (v := (.agg (numsA .u8 K))) (by simp only [List.getElem?_toArray, List.getElem?_cons_zero, List.getElem?_cons_succ]; rfl) (by kernel_rfl) (by exact fun _ _ _ h => h) (by refine yields_loadB HKb.out aggKey (sizeN hkl) ?_ _ rfl rfl; rfl) (by assumption) ?_
  try simp only [Act.put, List.setIfInBounds_toArray, List.set_cons_zero, List.set_cons_succ]
  refine wpAnyH_ready (rs := [0]) (by kernel_rfl) (by simp) (AllReadyH.cons (o := ?oy860) ?hy860 (fun K hK => ?sy860) AllReadyH.nil)
  case hy860 => simp only [List.getElem?_toArray, List.getElem?_cons_zero, List.getElem?_cons_succ]; rfl
  go_simp
  refine (l04NodeKey_any x HOKX.out HEX.out nb _ (HNb.out.ext hHeld)).mono ?_
  rintro e w7 ⟨rfl, hx⟩
  have hH2 := hHeld.trans hx
  refine hK.out _ _ hH2 (fun _ => ?_)
  clear hHeld hK K
  have hHeld := hH2
  clear hH2
  try simp only [Act.put, List.setIfInBounds_toArray, List.set_cons_zero, List.set_cons_succ]
  try rw [show hashL 5 (nodeL x) = kN x by rw [kN]]
  iterate 14
    refine tkD 0 (by simp only [List.size_toArray, List.length_cons, List.length_nil]; rfl) (by simp only [List.getElem?_toArray, List.getElem?_cons_zero, List.getElem?_cons_succ]; rfl) (by kernel_rfl) (by exact fun _ _ _ h => h) (by first | (exact Or.inl ⟨by rfl, by intro w hSw; (try dsimp only at hSw); go_simp; with_reducible rfl⟩) | (exact Or.inr ⟨by rfl, by rfl⟩)) (by assumption) ?_
    try simp only [Act.put, List.setIfInBounds_toArray, List.set_cons_zero, List.set_cons_succ]
  refine wpAnyH_done (by kernel_rfl) ?_ _
  have HC7 := Lib.hid (HBb.out.go hHeld)
  have HN7 := Lib.hid (HNb.out.ext hHeld)
  clear hHeld HBb HNb HKb
  have g4 := HC7.out.blk.at_ 4 rfl
  have h4 := HC7.out.blk.free 4
  go_wp2
  refine bodyPost_ret (results_none rfl _ _ _) rfl ?_
  exact ⟨A2, c2, vO, rfl, HR2.out, HC7.out.set 4 (.bool true)⟩
end Go.Proofs.Ytipeaoanhcjnjaa
/- The reference's walk over nodes that tell a range, at a node. No condition. -/
namespace Go.Proofs.Ytipeaoanhcjnjaa
open Go.RowKit
set_option linter.unusedVariables false
set_option linter.unusedSimpArgs false


set_option maxHeartbeats 16000000 in
set_option maxRecDepth 100000 in
theorem tree_b_mid_in (f : Nat) (ih : TreeC f) (fr to : ByteArray) (w0 : World) (S0 : Nat → Prop) (K : List Int) (lo hi : ByteArray) (b : Bool) (x : Nd) (R' : List Nd) (O : List En) (hlen : R'.length ≤ f) (h64 : O.length + (R'.length + 1) ≤ 64) (hokx : x.ok) (hex : entB x.n x.v = true) (hok : ∀ y ∈ R', y.ok ∧ entB y.n y.v = true) (hKe : K ≠ emptyL) (hK : K32 K) (h1 : kN x = K) (h2 : ltB lo x.n = true) (hb : b = true) (h3 : ltB x.n hi = true) (h4 : ltB fr x.n = true) (h6 : ltB x.n to = true) (s1 : Sw) (hs1 : tr fr to f x.l lo x.n true ⟨R', O, false⟩ = s1) (hle : SwLe s1 ⟨R', O, false⟩)
    (w : World) (g : Nat) (A : Option Addr) (n c : Nat) (hn : n = R'.length + 1) (vO : Value) (hr : RdL tNd w0 S0 (.slice A n c) (x :: R')) (hC : Cx 62 w0 w w g #[.string fr, .string to, .slice A n c, vO, .bool false] vO vO O) (s9 : Sw) (hs9 : tr fr to f x.r x.n hi b (⟨s1.R, s1.O ++ [(x.n, x.v)], s1.bad⟩ : Sw) = s9) :
    Calls Try.prog 31 #[.pointer (some ⟨g, 0, none⟩), .agg (numsA .u8 K), .string lo, .string hi, .bool b] w fun e w' => ∃ A' c' vO', e = .returned (.tuple #[]) ∧ RdL tNd w0 S0 (.slice A' s9.R.length c') s9.R ∧
      Cx 62 w0 w w' g #[.string fr, .string to, .slice A' s9.R.length c', vO', .bool s9.bad] vO vO' s9.O := by
  have HXE := Lib.hid (show tEnt.ok (x.n, x.v) from hokx.2.2)
  have HC := Lib.hid hC
  have HOKX := Lib.hid hokx
  have HEX := Lib.hid hex
  have HOK := Lib.hid hok
  have hkl := hK.1
  have HK := Lib.hid hK
  have heql : ∀ W, (binOp .eql 28 (.agg (numsA .u8 K)) (.agg (numsA .u8 emptyL))).run Try.prog W = .ok (.bool false) W := fun W => by
    have := run_eqKey K emptyL hK emptyL_ok W
    rw [decide_eq_false hKe] at this
    exact this
  obtain ⟨A', c', e9, hcap, hlen', hrd, hok9⟩ := id hr
  injection e9 with e91 e92 e93
  subst e91 e93
  obtain ⟨gn, on, rfl, hs0, hcx⟩ := hrd.elem hok9 0 (by simp)
  simp only [Nat.zero_mul, Nat.add_zero, List.getElem_cons_zero] at hcx
  have HD := Lib.hid (show ∀ W, Ext w0 W → ∀ j u, x.enc[j]? = some u → W.cell? ⟨gn, on + j, none⟩ = some u from fun W hW j u hu => hW.cell (hcx j u hu))
  have hcut := RdL.cutN (k := 1) hr (by simp [hn]) (by omega)
  rw [show n - 1 = R'.length by omega, show (x :: R').drop 1 = R' from rfl, show tNd.sz = 66 from rfl] at hcut
  obtain ⟨A2, hA2⟩ : ∃ A2, (if c = 1 then some (⟨gn, on, none⟩ : Addr) else (some (⟨gn, on, none⟩ : Addr)).map (·.add (1 * 66))) = A2 := ⟨_, rfl⟩
  obtain ⟨c2, hc2⟩ : ∃ c2, c - 1 = c2 := ⟨_, rfl⟩
  rw [hA2, hc2] at hcut
  have HSL := Lib.hid (show (Value.slice (if c = 1 then some (⟨gn, on, none⟩ : Addr) else (some (⟨gn, on, none⟩ : Addr)).map (·.add (1 * 66))) (n - 1) (c - 1)) = .slice A2 R'.length c2 by rw [hA2, hc2, show n - 1 = R'.length by omega])
  have HR2 := Lib.hid hcut
  have hn0 : ((n : Int) == 0) = false := by rw [beq_eq_false_iff_ne]; omega
  have hn1 : (0 : Int) < (n : Int) := by omega
  have hn2 : 1 ≤ n := by omega
  have HN := Lib.hid hn
  obtain ⟨m, hm⟩ : ∃ m, R'.length = m := ⟨_, rfl⟩
  have HM := Lib.hid hm
  have HST := Lib.hid (Nd.st hokx)
  have HGB := Lib.hid (show w0.heap.size ≤ g ∧ g < w.heap.size from ⟨hC.base, hC.lt⟩)
  have hneq : ∀ W, (binOp .neq 28 (.agg (numsA .u8 (kN x))) (.agg (numsA .u8 K))).run Try.prog W = .ok (.bool false) W := fun W => by
    have := run_neqKey (kN x) K (kN_ok x) HK.out W
    rw [decide_eq_true h1] at this
    exact this
  subst hb
  have hq1 : Op.bytesLess x.n.toList lo.toList = false := by rw [ltB_eq]; exact ltB_asymm h2
  have hq2 : (x.n.toList == lo.toList) = false := by rw [beq_eq_false_iff_ne]; exact fun e => ltB_ne h2 (toList_inj e).symm
  have hq3 : Op.bytesLess x.n.toList hi.toList = true := by rw [ltB_eq]; exact h3
  have hq4 : Op.bytesLess fr.toList x.n.toList = true := by rw [ltB_eq]; exact h4
  have hq5 : Op.bytesLess x.n.toList fr.toList = false := by rw [ltB_eq]; exact ltB_asymm h4
  have hq6 : Op.bytesLess x.n.toList to.toList = true := by rw [ltB_eq]; exact h6
  have hq7 : (x.n.toList == fr.toList) = false := by rw [beq_eq_false_iff_ne]; exact fun e => ltB_ne h4 (toList_inj e).symm
  clear hr hokx hex hok hcx hrd hok9 hcut hA2 hc2 hs0 hcap hlen' e92 hn hC hm h1
  have c0 := HC.out.blk.at_ 0 rfl
  have c1 := HC.out.blk.at_ 1 rfl
  have c2 := HC.out.blk.at_ 2 rfl
  have c3 := HC.out.blk.at_ 3 rfl
  have c4 := HC.out.blk.at_ 4 rfl
  have f2 := HC.out.blk.free 2
  have f3 := HC.out.blk.free 3
  have f4 := HC.out.blk.free 4
  go_enter Try.func31, Try.ntmps31
  go_wp2_with fail
  have HA := Lib.hid (HC.out.go (ext_alloc w (.cells (numsA .u8 K) 28)))
  have HKB := Lib.hid (Blk.new w 28 (numsA .u8 K))
  clear c0 c1 c2 c3 c4 f2 f3 f4
  generalize w.alloc (.cells (numsA .u8 K) 28) = wa at HA HKB ⊢
  have cd : ∀ W, Ext wa W → W.cell? ⟨g, 4, none⟩ = some (.bool false) := fun W hW => (HA.out.blk.ext hW).at_ 4 rfl
  refine wp_region_held_drew (S := fun W => Ext wa W) (by kernel_rfl) (Ext.refl _).drew (fun hHeld => ?_)
  iterate 5
    refine tkD 0 (by simp only [List.size_toArray, List.length_cons, List.length_nil]; rfl) (by simp only [List.getElem?_toArray, List.getElem?_cons_zero, List.getElem?_cons_succ]; rfl) (by kernel_rfl) (by exact fun _ _ _ h => h) (by first | (exact Or.inl ⟨by rfl, by intro w hSw; (try dsimp only at hSw); go_simp; with_reducible rfl⟩) | (exact Or.inr ⟨by rfl, by rfl⟩)) (by assumption) ?_
    try simp only [Act.put, List.setIfInBounds_toArray, List.set_cons_zero, List.set_cons_succ]
  refine tkI 5 (v := (.agg (numsA .u8 K))) (by simp only [List.getElem?_toArray, List.getElem?_cons_zero, List.getElem?_cons_succ]; rfl) (by kernel_rfl) (by exact fun _ _ _ h => h) (by refine yields_loadB HKB.out aggKey (sizeN hkl) ?_ _ rfl rfl; rfl) (by assumption) ?_
  try simp only [Act.put, List.setIfInBounds_toArray, List.set_cons_zero, List.set_cons_succ]
  refine wpAnyH_ready (rs := [6]) (by kernel_rfl) (by simp) (AllReadyH.cons (o := ?oy1076) ?hy1076 (fun K hK => ?sy1076) AllReadyH.nil)
  case hy1076 => simp only [List.getElem?_toArray, List.getElem?_cons_zero, List.getElem?_cons_succ]; rfl
  go_simp
  refine (l04Empty_any _).mono ?_
  rintro e w9 ⟨rfl, hx⟩
  have hH2 := hHeld.trans hx
  refine hK.out _ _ hH2 (fun _ => ?_)
  clear hHeld hK K
  have hHeld := hH2
  clear hH2
  try simp only [Act.put, List.setIfInBounds_toArray, List.set_cons_zero, List.set_cons_succ]
  iterate 2
    refine tkD 0 (by simp only [List.size_toArray, List.length_cons, List.length_nil]; rfl) (by simp only [List.getElem?_toArray, List.getElem?_cons_zero, List.getElem?_cons_succ]; rfl) (by kernel_rfl) (by exact fun _ _ _ h => h) (by first | (exact Or.inl ⟨by rfl, by intro w hSw; (try dsimp only at hSw); go_simp; with_reducible rfl⟩) | (exact Or.inr ⟨by rfl, by rfl⟩)) (by assumption) ?_
    try simp only [Act.put, List.setIfInBounds_toArray, List.set_cons_zero, List.set_cons_succ]
  refine wpAnyH_done (by kernel_rfl) ?_ _
  have hAx := HA.out.go hHeld
  have HK2 := Lib.hid (HKB.out.ext hHeld)
  clear cd hHeld
  revert hAx HK2
  skip
  intro hAx HK2
  have HB1 := Lib.hid hAx
  clear hAx HA HKB
  have HBa := Lib.hid (HB1.out.go (ext_alloc w9 (.cells x.enc.toArray 52)))
  have HNa := Lib.hid (Blk.new w9 52 x.enc.toArray)
  have hgn : w9.heap.size ≠ g := by have := HB1.out.blk.lt; omega
  have HBb := Lib.hid (show Cx 62 w0 w ((World.alloc w9 (.cells x.enc.toArray 52)).setCell ⟨g, 2, none⟩ (.slice A2 R'.length c2)) g #[.string fr, .string to, .slice A2 R'.length c2, vO, .bool false] vO vO O from HBa.out.set 2 _)
  have HNb := Lib.hid (show Blk ((World.alloc w9 (.cells x.enc.toArray 52)).setCell ⟨g, 2, none⟩ (.slice A2 R'.length c2)) w9.heap.size 52 x.enc.toArray from HNa.out.far hgn _)
  have HKb := Lib.hid (show Blk ((World.alloc w9 (.cells x.enc.toArray 52)).setCell ⟨g, 2, none⟩ (.slice A2 R'.length c2)) w.heap.size 28 (numsA .u8 K) from (HK2.out.alloc _).far (by have := HGB.out; show w.heap.size ≠ g; omega) _)
  have d2 := HB1.out.blk.at_ 2 rfl
  have e2 := HBa.out.blk.at_ 2 rfl
  have f2 := HBa.out.blk.free 2
  have c64 := HNb.out.at_ 64 (Nd.at64 HOKX.out)
  go_wp2_with (first
    | (refine wpl_load ⟨gn, on, none⟩ x.enc (by rw [Nd.enc_length HOKX.out]; exact aggNodeI) rfl _ rfl rfl (fun j u hu => by rw [Addr.add_lit]; exact HD.out _ HB1.out.ext j u hu) ?_)
    | (refine wpl_storeNewB aggNodeI HST.out rfl rfl _ _ rfl rfl rfl rfl ?_)
    | (refine wpl_cut1 (sz := 66) (A := some ⟨gn, on, none⟩) (n := n) (c := c) (by kernel_rfl) (by kernel_rfl) rfl _ rfl rfl hn2 ?_; rw [HSL.out]))
  obtain ⟨nb, hnb⟩ : ∃ nb, w9.heap.size = nb := ⟨_, rfl⟩
  rw [hnb] at HNb hgn ⊢
  generalize (World.alloc w9 (.cells x.enc.toArray 52)).setCell ⟨g, 2, none⟩ (.slice A2 R'.length c2) = wb at HBb HNb HKb ⊢
  clear d2 e2 f2 c64 HBa HNa hnb HB1 HK2
  refine wp_region_held_drew (S := fun W => Ext wb W) (by kernel_rfl) (Ext.refl _).drew (fun hHeld => ?_)
  refine tkI 1 (v := (.agg (numsA .u8 K))) (by simp only [List.getElem?_toArray, List.getElem?_cons_zero, List.getElem?_cons_succ]; rfl) (by kernel_rfl) (by exact fun _ _ _ h => h) (by refine yields_loadB HKb.out aggKey (sizeN hkl) ?_ _ rfl rfl; rfl) (by assumption) ?_
  try simp only [Act.put, List.setIfInBounds_toArray, List.set_cons_zero, List.set_cons_succ]
  refine wpAnyH_ready (rs := [0]) (by kernel_rfl) (by simp) (AllReadyH.cons (o := ?oy1110) ?hy1110 (fun K hK => ?sy1110) AllReadyH.nil)
  case hy1110 => simp only [List.getElem?_toArray, List.getElem?_cons_zero, List.getElem?_cons_succ]; rfl
  go_simp
  refine (l04NodeKey_any x HOKX.out HEX.out nb _ (HNb.out.ext hHeld)).mono ?_
  rintro e w7 ⟨rfl, hx⟩
  have hH2 := hHeld.trans hx
  refine hK.out _ _ hH2 (fun _ => ?_)
  clear hHeld hK K
  have hHeld := hH2
  clear hH2
  try simp only [Act.put, List.setIfInBounds_toArray, List.set_cons_zero, List.set_cons_succ]
  try rw [show hashL 5 (nodeL x) = kN x by rw [kN]]
  iterate 14
    refine tkD 0 (by simp only [List.size_toArray, List.length_cons, List.length_nil]; rfl) (by simp only [List.getElem?_toArray, List.getElem?_cons_zero, List.getElem?_cons_succ]; rfl) (by kernel_rfl) (by exact fun _ _ _ h => h) (by first | (exact Or.inl ⟨by rfl, by intro w hSw; (try dsimp only at hSw); go_simp; with_reducible rfl⟩) | (exact Or.inr ⟨by rfl, by rfl⟩)) (by assumption) ?_
    try simp only [Act.put, List.setIfInBounds_toArray, List.set_cons_zero, List.set_cons_succ]
  refine wpAnyH_done (by kernel_rfl) ?_ _
  have HC7 := Lib.hid (HBb.out.go hHeld)
  have HN7 := Lib.hid (HNb.out.ext hHeld)
  clear hHeld HBb HNb HKb
  have a0 := HC7.out.blk.at_ 0 rfl
  have a1 := HC7.out.blk.at_ 1 rfl
  have hl := HOKX.out.1.1
  go_wp2_with (refine wpl_loadP (off := 0) (sub := numsA .u8 x.l) HN7.out aggKey (sizeN hl) (Nd.left HOKX.out) rfl _ rfl rfl ?_)
  refine (ih fr to w0 S0 x.l lo x.n true ⟨R', O, false⟩ hlen (by show O.length + R'.length ≤ 64; omega) HOK.out HOKX.out.1 w7 g A2 c2 vO HR2.out HC7.out.again).mono ?_
  rintro e w8 ⟨A3, c3, v3, rfl, hr3, hc3⟩
  rw [hs1] at hr3 hc3
  have HN8 := Lib.hid (HN7.out.cx HC7.out hc3 hgn (by decide))
  have HC8 := Lib.hid (HC7.out.call hc3)
  have HR3 := Lib.hid hr3
  clear hr3 hc3 a0 a1 HC7 HN7
  have a0 := HC8.out.blk.at_ 0 rfl
  have a1 := HC8.out.blk.at_ 1 rfl
  go_wp2_with fail
  refine wp_region_held_drew (S := fun W => Ext w0 W ∧ Blk W nb 52 x.enc.toArray) (by kernel_rfl) ⟨HC8.out.ext.drew, HN8.out⟩ (fun hHeld => ?_)
  have HCd := Lib.hid (HC8.out.go (Ext.refl _).drew)
  generalize World.drew w8 = wd at hHeld HCd ⊢
  clear a0 a1
  iterate 4
    refine tkD 0 (by simp only [List.size_toArray, List.length_cons, List.length_nil]; rfl) (by simp only [List.getElem?_toArray, List.getElem?_cons_zero, List.getElem?_cons_succ]; rfl) (by kernel_rfl) (by exact fun _ _ _ h => h) (by first | (exact Or.inl ⟨by rfl, by intro w hSw; (try dsimp only at hSw); go_simp; with_reducible rfl⟩) | (exact Or.inr ⟨by rfl, by rfl⟩)) (by assumption) ?_
    try simp only [Act.put, List.setIfInBounds_toArray, List.set_cons_zero, List.set_cons_succ]
  refine tkI 5 (by simp only [List.getElem?_toArray, List.getElem?_cons_zero, List.getElem?_cons_succ]; rfl) (by kernel_rfl) (by exact fun _ _ _ h => h) (by first | (exact Or.inl ⟨by rfl, by intro w hSw; (try dsimp only at hSw); go_simp; with_reducible rfl⟩) | (exact Or.inr ⟨by rfl, by rfl⟩)) (by assumption) ?_
  try simp only [Act.put, List.setIfInBounds_toArray, List.set_cons_zero, List.set_cons_succ]
  refine tkI 6 (v := (.agg #[.string x.n, .string x.v])) (by simp only [List.getElem?_toArray, List.getElem?_cons_zero, List.getElem?_cons_succ]; rfl) (by kernel_rfl) (by exact fun _ _ _ h => h) (by refine yields_loadS nb 64 [.string x.n, .string x.v] aggEntryI (fun W hW j u hu => hW.2.at_ (64 + j) (Nd.ent HOKX.out j u (by simpa using hu))) ?_ _ rfl rfl; rfl) (by assumption) ?_
  try simp only [Act.put, List.setIfInBounds_toArray, List.set_cons_zero, List.set_cons_succ]
  refine wpAnyH_ready (rs := [4, 7]) (by kernel_rfl) (by simp) (AllReadyH.cons (o := ?oy1324) ?hy1324 (fun K hK => ?sy1324) (AllReadyH.cons (o := ?oy1327) ?hy1327 (fun K hK => ?sy1327) AllReadyH.nil))
  case hy1324 => simp only [List.getElem?_toArray, List.getElem?_cons_zero, List.getElem?_cons_succ]; rfl
  case hy1327 => simp only [List.getElem?_toArray, List.getElem?_cons_zero, List.getElem?_cons_succ]; rfl
  case sy1324 =>
    have s3 := HCd.out.blk.at_ 3 rfl
    go_simp
    refine hK.out _ _ hHeld (fun _ => ?_)
    clear hK K s3
    try simp only [Act.put, List.setIfInBounds_toArray, List.set_cons_zero, List.set_cons_succ]
    refine wpAnyH_ready (rs := [7]) (by kernel_rfl) (by simp) (AllReadyH.cons (o := ?oy1337) ?hy1337 (fun K hK => ?sy1337) AllReadyH.nil)
    case hy1337 => simp only [List.getElem?_toArray, List.getElem?_cons_zero, List.getElem?_cons_succ]; rfl
    go_simp
    have hH2 : Ext w0 (wd.alloc (.cells #[.string x.n, .string x.v] 50)) ∧ Blk (wd.alloc (.cells #[.string x.n, .string x.v] 50)) nb 52 x.enc.toArray := ⟨hHeld.1.alloc _, hHeld.2.alloc _⟩
    refine hK.out _ _ hH2 (fun _ => ?_)
    clear hK K hHeld
    have hHeld := hH2
    clear hH2
    try simp only [Act.put, List.setIfInBounds_toArray, List.set_cons_zero, List.set_cons_succ]
    have HCe := Lib.hid (HCd.out.go (ext_alloc wd (.cells #[.string x.n, .string x.v] 50)))
    refine wpAnyH_ready (rs := [8]) (by kernel_rfl) (by simp) (AllReadyH.cons (o := ?oy1348) ?hy1348 (fun K hK => ?sy1348) AllReadyH.nil)
    case hy1348 => simp only [List.getElem?_toArray, List.getElem?_cons_zero, List.getElem?_cons_succ]; rfl
    refine stp_append rowEnt rfl _ _ rfl (v := v3) rfl HCe.out.own _ _ rfl (A := some ⟨wd.heap.size, 0, none⟩) (ys := [(x.n, x.v)]) rfl (rd_ent wd (x.n, x.v) _) (by intro y hy; obtain rfl := List.mem_singleton.1 hy; exact HXE.out) (by have := hle.o; simp only [List.length_singleton] at *; omega) HCe.out.ext.size ?_
    intro v4 w4 ho1 hg1 hat1
    obtain ⟨B4, m4, k4, rfl⟩ := ho1.shape3
    have HN4 := Lib.hid (hHeld.2.cx HCe.out (HCe.out.again.app ho1 hg1 hat1) hgn (by decide))
    have HC4 := Lib.hid (HCe.out.app ho1 hg1 hat1)
    have hH2 : Ext w0 w4 ∧ Blk w4 nb 52 x.enc.toArray := ⟨HC4.out.ext, HN4.out⟩
    refine hK.out _ _ hH2 (fun _ => ?_)
    clear hK K ho1 hg1 hat1 hHeld
    have hHeld := hH2
    clear hH2
    try simp only [Act.put, List.setIfInBounds_toArray, List.set_cons_zero, List.set_cons_succ]
    refine tkI 9 (by simp only [List.getElem?_toArray, List.getElem?_cons_zero, List.getElem?_cons_succ]; rfl) (by kernel_rfl) (by exact fun _ _ _ h => h) (by first | (exact Or.inl ⟨by rfl, by intro w hSw; (try dsimp only at hSw); go_simp; with_reducible rfl⟩) | (exact Or.inr ⟨by rfl, by rfl⟩)) (by assumption) ?_
    try simp only [Act.put, List.setIfInBounds_toArray, List.set_cons_zero, List.set_cons_succ]
    refine tkI 10 (by simp only [List.getElem?_toArray, List.getElem?_cons_zero, List.getElem?_cons_succ]; rfl) (by kernel_rfl) (by exact fun _ _ _ h => h) (by first | (exact Or.inl ⟨by rfl, by intro w hSw; (try dsimp only at hSw); go_simp; with_reducible rfl⟩) | (exact Or.inr ⟨by rfl, by rfl⟩)) (by assumption) ?_
    try simp only [Act.put, List.setIfInBounds_toArray, List.set_cons_zero, List.set_cons_succ]
    refine wpAnyH_ready (rs := [11]) (by kernel_rfl) (by simp) (AllReadyH.cons (o := ?oy13711) ?hy13711 (fun K hK => ?sy13711) AllReadyH.nil)
    case hy13711 => simp only [List.getElem?_toArray, List.getElem?_cons_zero, List.getElem?_cons_succ]; rfl
    have s3 := HC4.out.blk.at_ 3 rfl
    have t3 := HC4.out.blk.free 3
    go_simp
    have HC5 := Lib.hid (show Cx 62 w0 w (w4.setCell ⟨g, 3, none⟩ (.slice B4 m4 k4)) g #[.string fr, .string to, .slice A3 s1.R.length c3, .slice B4 m4 k4, .bool s1.bad] vO (.slice B4 m4 k4) (s1.O ++ [(x.n, x.v)]) from HC4.out.set 3 _)
    have HN5 := Lib.hid (HN4.out.far (p := ⟨g, 3, none⟩) hgn (.slice B4 m4 k4))
    have hH2 : Ext w0 (w4.setCell ⟨g, 3, none⟩ (.slice B4 m4 k4)) ∧ Blk (w4.setCell ⟨g, 3, none⟩ (.slice B4 m4 k4)) nb 52 x.enc.toArray := ⟨HC5.out.ext, HN5.out⟩
    refine hK.out _ _ hH2 (fun _ => ?_)
    clear hK K hHeld hH2 s3 t3
    try simp only [Act.put, List.setIfInBounds_toArray, List.set_cons_zero, List.set_cons_succ]
    refine wpAnyH_done (by kernel_rfl) ?_ _
    generalize w4.setCell ⟨g, 3, none⟩ (.slice B4 m4 k4) = w5 at HC5 HN5 ⊢
    clear HC4 HN4
    have a0 := HC5.out.blk.at_ 0 rfl
    have a1 := HC5.out.blk.at_ 1 rfl
    have hrk := HOKX.out.2.1.1
    go_wp2_with (refine wpl_loadP (off := 32) (sub := numsA .u8 x.r) HN5.out aggKey (sizeN hrk) (Nd.right HOKX.out) rfl _ rfl rfl ?_)
    refine (ih fr to w0 S0 x.r x.n hi true ⟨s1.R, (s1.O ++ [(x.n, x.v)]), s1.bad⟩ (by have := hle.r; have := hlen; first | exact hlen | (show s1.R.length ≤ f; exact Nat.le_trans hle.r hlen)) (by have := hle.o; have := hle.r; simp only [List.length_append, List.length_singleton] at *; omega) (fun y hy => HOK.out y (hle.m y hy)) HOKX.out.2.1 _ g A3 c3 (.slice B4 m4 k4) HR3.out HC5.out.again).mono ?_
    rintro e w11 ⟨A9, c9, v9, rfl, hr9, hc9⟩
    rw [hs9] at hr9 hc9
    have HC11 := Lib.hid (HC5.out.call hc9)
    have HR9 := Lib.hid hr9
    clear hr9 hc9
    go_wp2
    first | (refine bodyPost_ret (results_none rfl _ _ _) rfl ?_) | (refine bodyPost_end (results_none rfl _ _ _) rfl ?_)
    exact ⟨A9, c9, v9, rfl, HR9.out, HC11.out⟩
  case sy1327 =>
    go_simp
    have hH2 : Ext w0 (wd.alloc (.cells #[.string x.n, .string x.v] 50)) ∧ Blk (wd.alloc (.cells #[.string x.n, .string x.v] 50)) nb 52 x.enc.toArray := ⟨hHeld.1.alloc _, hHeld.2.alloc _⟩
    refine hK.out _ _ hH2 (fun _ => ?_)
    clear hK K hHeld
    have hHeld := hH2
    clear hH2
    try simp only [Act.put, List.setIfInBounds_toArray, List.set_cons_zero, List.set_cons_succ]
    have HCe := Lib.hid (HCd.out.go (ext_alloc wd (.cells #[.string x.n, .string x.v] 50)))
    refine wpAnyH_ready (rs := [4]) (by kernel_rfl) (by simp) (AllReadyH.cons (o := ?oy1384) ?hy1384 (fun K hK => ?sy1384) AllReadyH.nil)
    case hy1384 => simp only [List.getElem?_toArray, List.getElem?_cons_zero, List.getElem?_cons_succ]; rfl
    have s3 := HCe.out.blk.at_ 3 rfl
    go_simp
    refine hK.out _ _ hHeld (fun _ => ?_)
    clear hK K s3
    try simp only [Act.put, List.setIfInBounds_toArray, List.set_cons_zero, List.set_cons_succ]
    refine wpAnyH_ready (rs := [8]) (by kernel_rfl) (by simp) (AllReadyH.cons (o := ?oy1398) ?hy1398 (fun K hK => ?sy1398) AllReadyH.nil)
    case hy1398 => simp only [List.getElem?_toArray, List.getElem?_cons_zero, List.getElem?_cons_succ]; rfl
    refine stp_append rowEnt rfl _ _ rfl (v := v3) rfl HCe.out.own _ _ rfl (A := some ⟨wd.heap.size, 0, none⟩) (ys := [(x.n, x.v)]) rfl (rd_ent wd (x.n, x.v) _) (by intro y hy; obtain rfl := List.mem_singleton.1 hy; exact HXE.out) (by have := hle.o; simp only [List.length_singleton] at *; omega) HCe.out.ext.size ?_
    intro v4 w4 ho1 hg1 hat1
    obtain ⟨B4, m4, k4, rfl⟩ := ho1.shape3
    have HN4 := Lib.hid (hHeld.2.cx HCe.out (HCe.out.again.app ho1 hg1 hat1) hgn (by decide))
    have HC4 := Lib.hid (HCe.out.app ho1 hg1 hat1)
    have hH2 : Ext w0 w4 ∧ Blk w4 nb 52 x.enc.toArray := ⟨HC4.out.ext, HN4.out⟩
    refine hK.out _ _ hH2 (fun _ => ?_)
    clear hK K ho1 hg1 hat1 hHeld
    have hHeld := hH2
    clear hH2
    try simp only [Act.put, List.setIfInBounds_toArray, List.set_cons_zero, List.set_cons_succ]
    refine tkI 9 (by simp only [List.getElem?_toArray, List.getElem?_cons_zero, List.getElem?_cons_succ]; rfl) (by kernel_rfl) (by exact fun _ _ _ h => h) (by first | (exact Or.inl ⟨by rfl, by intro w hSw; (try dsimp only at hSw); go_simp; with_reducible rfl⟩) | (exact Or.inr ⟨by rfl, by rfl⟩)) (by assumption) ?_
    try simp only [Act.put, List.setIfInBounds_toArray, List.set_cons_zero, List.set_cons_succ]
    refine tkI 10 (by simp only [List.getElem?_toArray, List.getElem?_cons_zero, List.getElem?_cons_succ]; rfl) (by kernel_rfl) (by exact fun _ _ _ h => h) (by first | (exact Or.inl ⟨by rfl, by intro w hSw; (try dsimp only at hSw); go_simp; with_reducible rfl⟩) | (exact Or.inr ⟨by rfl, by rfl⟩)) (by assumption) ?_
    try simp only [Act.put, List.setIfInBounds_toArray, List.set_cons_zero, List.set_cons_succ]
    refine wpAnyH_ready (rs := [11]) (by kernel_rfl) (by simp) (AllReadyH.cons (o := ?oy14211) ?hy14211 (fun K hK => ?sy14211) AllReadyH.nil)
    case hy14211 => simp only [List.getElem?_toArray, List.getElem?_cons_zero, List.getElem?_cons_succ]; rfl
    have s3 := HC4.out.blk.at_ 3 rfl
    have t3 := HC4.out.blk.free 3
    go_simp
    have HC5 := Lib.hid (show Cx 62 w0 w (w4.setCell ⟨g, 3, none⟩ (.slice B4 m4 k4)) g #[.string fr, .string to, .slice A3 s1.R.length c3, .slice B4 m4 k4, .bool s1.bad] vO (.slice B4 m4 k4) (s1.O ++ [(x.n, x.v)]) from HC4.out.set 3 _)
    have HN5 := Lib.hid (HN4.out.far (p := ⟨g, 3, none⟩) hgn (.slice B4 m4 k4))
    have hH2 : Ext w0 (w4.setCell ⟨g, 3, none⟩ (.slice B4 m4 k4)) ∧ Blk (w4.setCell ⟨g, 3, none⟩ (.slice B4 m4 k4)) nb 52 x.enc.toArray := ⟨HC5.out.ext, HN5.out⟩
    refine hK.out _ _ hH2 (fun _ => ?_)
    clear hK K hHeld hH2 s3 t3
    try simp only [Act.put, List.setIfInBounds_toArray, List.set_cons_zero, List.set_cons_succ]
    refine wpAnyH_done (by kernel_rfl) ?_ _
    generalize w4.setCell ⟨g, 3, none⟩ (.slice B4 m4 k4) = w5 at HC5 HN5 ⊢
    clear HC4 HN4
    have a0 := HC5.out.blk.at_ 0 rfl
    have a1 := HC5.out.blk.at_ 1 rfl
    have hrk := HOKX.out.2.1.1
    go_wp2_with (refine wpl_loadP (off := 32) (sub := numsA .u8 x.r) HN5.out aggKey (sizeN hrk) (Nd.right HOKX.out) rfl _ rfl rfl ?_)
    refine (ih fr to w0 S0 x.r x.n hi true ⟨s1.R, (s1.O ++ [(x.n, x.v)]), s1.bad⟩ (by have := hle.r; have := hlen; first | exact hlen | (show s1.R.length ≤ f; exact Nat.le_trans hle.r hlen)) (by have := hle.o; have := hle.r; simp only [List.length_append, List.length_singleton] at *; omega) (fun y hy => HOK.out y (hle.m y hy)) HOKX.out.2.1 _ g A3 c3 (.slice B4 m4 k4) HR3.out HC5.out.again).mono ?_
    rintro e w11 ⟨A9, c9, v9, rfl, hr9, hc9⟩
    rw [hs9] at hr9 hc9
    have HC11 := Lib.hid (HC5.out.call hc9)
    have HR9 := Lib.hid hr9
    clear hr9 hc9
    go_wp2
    first | (refine bodyPost_ret (results_none rfl _ _ _) rfl ?_) | (refine bodyPost_end (results_none rfl _ _ _) rfl ?_)
    exact ⟨A9, c9, v9, rfl, HR9.out, HC11.out⟩
set_option maxHeartbeats 16000000 in
set_option maxRecDepth 100000 in
theorem tree_b_mid_out (f : Nat) (ih : TreeC f) (fr to : ByteArray) (w0 : World) (S0 : Nat → Prop) (K : List Int) (lo hi : ByteArray) (b : Bool) (x : Nd) (R' : List Nd) (O : List En) (hlen : R'.length ≤ f) (h64 : O.length + (R'.length + 1) ≤ 64) (hokx : x.ok) (hex : entB x.n x.v = true) (hok : ∀ y ∈ R', y.ok ∧ entB y.n y.v = true) (hKe : K ≠ emptyL) (hK : K32 K) (h1 : kN x = K) (h2 : ltB lo x.n = true) (hb : b = true) (h3 : ltB x.n hi = true) (h4 : ltB fr x.n = true) (h6 : ltB x.n to = false) (s1 : Sw) (hs1 : tr fr to f x.l lo x.n true ⟨R', O, false⟩ = s1) (hle : SwLe s1 ⟨R', O, false⟩)
    (w : World) (g : Nat) (A : Option Addr) (n c : Nat) (hn : n = R'.length + 1) (vO : Value) (hr : RdL tNd w0 S0 (.slice A n c) (x :: R')) (hC : Cx 62 w0 w w g #[.string fr, .string to, .slice A n c, vO, .bool false] vO vO O) (s9 : Sw) (hs9 : (⟨s1.R, s1.O, s1.bad⟩ : Sw) = s9) :
    Calls Try.prog 31 #[.pointer (some ⟨g, 0, none⟩), .agg (numsA .u8 K), .string lo, .string hi, .bool b] w fun e w' => ∃ A' c' vO', e = .returned (.tuple #[]) ∧ RdL tNd w0 S0 (.slice A' s9.R.length c') s9.R ∧
      Cx 62 w0 w w' g #[.string fr, .string to, .slice A' s9.R.length c', vO', .bool s9.bad] vO vO' s9.O := by
  have HXE := Lib.hid (show tEnt.ok (x.n, x.v) from hokx.2.2)
  subst hs9
  have HC := Lib.hid hC
  have HOKX := Lib.hid hokx
  have HEX := Lib.hid hex
  have HOK := Lib.hid hok
  have hkl := hK.1
  have HK := Lib.hid hK
  have heql : ∀ W, (binOp .eql 28 (.agg (numsA .u8 K)) (.agg (numsA .u8 emptyL))).run Try.prog W = .ok (.bool false) W := fun W => by
    have := run_eqKey K emptyL hK emptyL_ok W
    rw [decide_eq_false hKe] at this
    exact this
  obtain ⟨A', c', e9, hcap, hlen', hrd, hok9⟩ := id hr
  injection e9 with e91 e92 e93
  subst e91 e93
  obtain ⟨gn, on, rfl, hs0, hcx⟩ := hrd.elem hok9 0 (by simp)
  simp only [Nat.zero_mul, Nat.add_zero, List.getElem_cons_zero] at hcx
  have HD := Lib.hid (show ∀ W, Ext w0 W → ∀ j u, x.enc[j]? = some u → W.cell? ⟨gn, on + j, none⟩ = some u from fun W hW j u hu => hW.cell (hcx j u hu))
  have hcut := RdL.cutN (k := 1) hr (by simp [hn]) (by omega)
  rw [show n - 1 = R'.length by omega, show (x :: R').drop 1 = R' from rfl, show tNd.sz = 66 from rfl] at hcut
  obtain ⟨A2, hA2⟩ : ∃ A2, (if c = 1 then some (⟨gn, on, none⟩ : Addr) else (some (⟨gn, on, none⟩ : Addr)).map (·.add (1 * 66))) = A2 := ⟨_, rfl⟩
  obtain ⟨c2, hc2⟩ : ∃ c2, c - 1 = c2 := ⟨_, rfl⟩
  rw [hA2, hc2] at hcut
  have HSL := Lib.hid (show (Value.slice (if c = 1 then some (⟨gn, on, none⟩ : Addr) else (some (⟨gn, on, none⟩ : Addr)).map (·.add (1 * 66))) (n - 1) (c - 1)) = .slice A2 R'.length c2 by rw [hA2, hc2, show n - 1 = R'.length by omega])
  have HR2 := Lib.hid hcut
  have hn0 : ((n : Int) == 0) = false := by rw [beq_eq_false_iff_ne]; omega
  have hn1 : (0 : Int) < (n : Int) := by omega
  have hn2 : 1 ≤ n := by omega
  have HN := Lib.hid hn
  obtain ⟨m, hm⟩ : ∃ m, R'.length = m := ⟨_, rfl⟩
  have HM := Lib.hid hm
  have HST := Lib.hid (Nd.st hokx)
  have HGB := Lib.hid (show w0.heap.size ≤ g ∧ g < w.heap.size from ⟨hC.base, hC.lt⟩)
  have hneq : ∀ W, (binOp .neq 28 (.agg (numsA .u8 (kN x))) (.agg (numsA .u8 K))).run Try.prog W = .ok (.bool false) W := fun W => by
    have := run_neqKey (kN x) K (kN_ok x) HK.out W
    rw [decide_eq_true h1] at this
    exact this
  subst hb
  have hq1 : Op.bytesLess x.n.toList lo.toList = false := by rw [ltB_eq]; exact ltB_asymm h2
  have hq2 : (x.n.toList == lo.toList) = false := by rw [beq_eq_false_iff_ne]; exact fun e => ltB_ne h2 (toList_inj e).symm
  have hq3 : Op.bytesLess x.n.toList hi.toList = true := by rw [ltB_eq]; exact h3
  have hq4 : Op.bytesLess fr.toList x.n.toList = true := by rw [ltB_eq]; exact h4
  have hq5 : Op.bytesLess x.n.toList fr.toList = false := by rw [ltB_eq]; exact ltB_asymm h4
  have hq6 : Op.bytesLess x.n.toList to.toList = false := by rw [ltB_eq]; exact h6
  have hq7 : (x.n.toList == fr.toList) = false := by rw [beq_eq_false_iff_ne]; exact fun e => ltB_ne h4 (toList_inj e).symm
  clear hr hokx hex hok hcx hrd hok9 hcut hA2 hc2 hs0 hcap hlen' e92 hn hC hm h1
  have c0 := HC.out.blk.at_ 0 rfl
  have c1 := HC.out.blk.at_ 1 rfl
  have c2 := HC.out.blk.at_ 2 rfl
  have c3 := HC.out.blk.at_ 3 rfl
  have c4 := HC.out.blk.at_ 4 rfl
  have f2 := HC.out.blk.free 2
  have f3 := HC.out.blk.free 3
  have f4 := HC.out.blk.free 4
  go_enter Try.func31, Try.ntmps31
  go_wp2_with fail
  have HA := Lib.hid (HC.out.go (ext_alloc w (.cells (numsA .u8 K) 28)))
  have HKB := Lib.hid (Blk.new w 28 (numsA .u8 K))
  clear c0 c1 c2 c3 c4 f2 f3 f4
  generalize w.alloc (.cells (numsA .u8 K) 28) = wa at HA HKB ⊢
  have cd : ∀ W, Ext wa W → W.cell? ⟨g, 4, none⟩ = some (.bool false) := fun W hW => (HA.out.blk.ext hW).at_ 4 rfl
  refine wp_region_held_drew (S := fun W => Ext wa W) (by kernel_rfl) (Ext.refl _).drew (fun hHeld => ?_)
  iterate 5
    refine tkD 0 (by simp only [List.size_toArray, List.length_cons, List.length_nil]; rfl) (by simp only [List.getElem?_toArray, List.getElem?_cons_zero, List.getElem?_cons_succ]; rfl) (by kernel_rfl) (by exact fun _ _ _ h => h) (by first | (exact Or.inl ⟨by rfl, by intro w hSw; (try dsimp only at hSw); go_simp; with_reducible rfl⟩) | (exact Or.inr ⟨by rfl, by rfl⟩)) (by assumption) ?_
    try simp only [Act.put, List.setIfInBounds_toArray, List.set_cons_zero, List.set_cons_succ]
  refine tkI 5 (v := (.agg (numsA .u8 K))) (by simp only [List.getElem?_toArray, List.getElem?_cons_zero, List.getElem?_cons_succ]; rfl) (by kernel_rfl) (by exact fun _ _ _ h => h) (by refine yields_loadB HKB.out aggKey (sizeN hkl) ?_ _ rfl rfl; rfl) (by assumption) ?_
  try simp only [Act.put, List.setIfInBounds_toArray, List.set_cons_zero, List.set_cons_succ]
  refine wpAnyH_ready (rs := [6]) (by kernel_rfl) (by simp) (AllReadyH.cons (o := ?oy1496) ?hy1496 (fun K hK => ?sy1496) AllReadyH.nil)
  case hy1496 => simp only [List.getElem?_toArray, List.getElem?_cons_zero, List.getElem?_cons_succ]; rfl
  go_simp
  refine (l04Empty_any _).mono ?_
  rintro e w9 ⟨rfl, hx⟩
  have hH2 := hHeld.trans hx
  refine hK.out _ _ hH2 (fun _ => ?_)
  clear hHeld hK K
  have hHeld := hH2
  clear hH2
  try simp only [Act.put, List.setIfInBounds_toArray, List.set_cons_zero, List.set_cons_succ]
  iterate 2
    refine tkD 0 (by simp only [List.size_toArray, List.length_cons, List.length_nil]; rfl) (by simp only [List.getElem?_toArray, List.getElem?_cons_zero, List.getElem?_cons_succ]; rfl) (by kernel_rfl) (by exact fun _ _ _ h => h) (by first | (exact Or.inl ⟨by rfl, by intro w hSw; (try dsimp only at hSw); go_simp; with_reducible rfl⟩) | (exact Or.inr ⟨by rfl, by rfl⟩)) (by assumption) ?_
    try simp only [Act.put, List.setIfInBounds_toArray, List.set_cons_zero, List.set_cons_succ]
  refine wpAnyH_done (by kernel_rfl) ?_ _
  have hAx := HA.out.go hHeld
  have HK2 := Lib.hid (HKB.out.ext hHeld)
  clear cd hHeld
  revert hAx HK2
  skip
  intro hAx HK2
  have HB1 := Lib.hid hAx
  clear hAx HA HKB
  have HBa := Lib.hid (HB1.out.go (ext_alloc w9 (.cells x.enc.toArray 52)))
  have HNa := Lib.hid (Blk.new w9 52 x.enc.toArray)
  have hgn : w9.heap.size ≠ g := by have := HB1.out.blk.lt; omega
  have HBb := Lib.hid (show Cx 62 w0 w ((World.alloc w9 (.cells x.enc.toArray 52)).setCell ⟨g, 2, none⟩ (.slice A2 R'.length c2)) g #[.string fr, .string to, .slice A2 R'.length c2, vO, .bool false] vO vO O from HBa.out.set 2 _)
  have HNb := Lib.hid (show Blk ((World.alloc w9 (.cells x.enc.toArray 52)).setCell ⟨g, 2, none⟩ (.slice A2 R'.length c2)) w9.heap.size 52 x.enc.toArray from HNa.out.far hgn _)
  have HKb := Lib.hid (show Blk ((World.alloc w9 (.cells x.enc.toArray 52)).setCell ⟨g, 2, none⟩ (.slice A2 R'.length c2)) w.heap.size 28 (numsA .u8 K) from (HK2.out.alloc _).far (by have := HGB.out; show w.heap.size ≠ g; omega) _)
  have d2 := HB1.out.blk.at_ 2 rfl
  have e2 := HBa.out.blk.at_ 2 rfl
  have f2 := HBa.out.blk.free 2
  have c64 := HNb.out.at_ 64 (Nd.at64 HOKX.out)
  go_wp2_with (first
    | (refine wpl_load ⟨gn, on, none⟩ x.enc (by rw [Nd.enc_length HOKX.out]; exact aggNodeI) rfl _ rfl rfl (fun j u hu => by rw [Addr.add_lit]; exact HD.out _ HB1.out.ext j u hu) ?_)
    | (refine wpl_storeNewB aggNodeI HST.out rfl rfl _ _ rfl rfl rfl rfl ?_)
    | (refine wpl_cut1 (sz := 66) (A := some ⟨gn, on, none⟩) (n := n) (c := c) (by kernel_rfl) (by kernel_rfl) rfl _ rfl rfl hn2 ?_; rw [HSL.out]))
  obtain ⟨nb, hnb⟩ : ∃ nb, w9.heap.size = nb := ⟨_, rfl⟩
  rw [hnb] at HNb hgn ⊢
  generalize (World.alloc w9 (.cells x.enc.toArray 52)).setCell ⟨g, 2, none⟩ (.slice A2 R'.length c2) = wb at HBb HNb HKb ⊢
  clear d2 e2 f2 c64 HBa HNa hnb HB1 HK2
  refine wp_region_held_drew (S := fun W => Ext wb W) (by kernel_rfl) (Ext.refl _).drew (fun hHeld => ?_)
  refine tkI 1 (v := (.agg (numsA .u8 K))) (by simp only [List.getElem?_toArray, List.getElem?_cons_zero, List.getElem?_cons_succ]; rfl) (by kernel_rfl) (by exact fun _ _ _ h => h) (by refine yields_loadB HKb.out aggKey (sizeN hkl) ?_ _ rfl rfl; rfl) (by assumption) ?_
  try simp only [Act.put, List.setIfInBounds_toArray, List.set_cons_zero, List.set_cons_succ]
  refine wpAnyH_ready (rs := [0]) (by kernel_rfl) (by simp) (AllReadyH.cons (o := ?oy1530) ?hy1530 (fun K hK => ?sy1530) AllReadyH.nil)
  case hy1530 => simp only [List.getElem?_toArray, List.getElem?_cons_zero, List.getElem?_cons_succ]; rfl
  go_simp
  refine (l04NodeKey_any x HOKX.out HEX.out nb _ (HNb.out.ext hHeld)).mono ?_
  rintro e w7 ⟨rfl, hx⟩
  have hH2 := hHeld.trans hx
  refine hK.out _ _ hH2 (fun _ => ?_)
  clear hHeld hK K
  have hHeld := hH2
  clear hH2
  try simp only [Act.put, List.setIfInBounds_toArray, List.set_cons_zero, List.set_cons_succ]
  try rw [show hashL 5 (nodeL x) = kN x by rw [kN]]
  iterate 14
    refine tkD 0 (by simp only [List.size_toArray, List.length_cons, List.length_nil]; rfl) (by simp only [List.getElem?_toArray, List.getElem?_cons_zero, List.getElem?_cons_succ]; rfl) (by kernel_rfl) (by exact fun _ _ _ h => h) (by first | (exact Or.inl ⟨by rfl, by intro w hSw; (try dsimp only at hSw); go_simp; with_reducible rfl⟩) | (exact Or.inr ⟨by rfl, by rfl⟩)) (by assumption) ?_
    try simp only [Act.put, List.setIfInBounds_toArray, List.set_cons_zero, List.set_cons_succ]
  refine wpAnyH_done (by kernel_rfl) ?_ _
  have HC7 := Lib.hid (HBb.out.go hHeld)
  have HN7 := Lib.hid (HNb.out.ext hHeld)
  clear hHeld HBb HNb HKb
  have a0 := HC7.out.blk.at_ 0 rfl
  have a1 := HC7.out.blk.at_ 1 rfl
  have hl := HOKX.out.1.1
  go_wp2_with (refine wpl_loadP (off := 0) (sub := numsA .u8 x.l) HN7.out aggKey (sizeN hl) (Nd.left HOKX.out) rfl _ rfl rfl ?_)
  refine (ih fr to w0 S0 x.l lo x.n true ⟨R', O, false⟩ hlen (by show O.length + R'.length ≤ 64; omega) HOK.out HOKX.out.1 w7 g A2 c2 vO HR2.out HC7.out.again).mono ?_
  rintro e w8 ⟨A3, c3, v3, rfl, hr3, hc3⟩
  rw [hs1] at hr3 hc3
  have HN8 := Lib.hid (HN7.out.cx HC7.out hc3 hgn (by decide))
  have HC8 := Lib.hid (HC7.out.call hc3)
  have HR3 := Lib.hid hr3
  clear hr3 hc3 a0 a1 HC7 HN7
  have a0 := HC8.out.blk.at_ 0 rfl
  have a1 := HC8.out.blk.at_ 1 rfl
  go_wp2
  first | (refine bodyPost_ret (results_none rfl _ _ _) rfl ?_) | (refine bodyPost_end (results_none rfl _ _ _) rfl ?_)
  exact ⟨A3, c3, v3, rfl, HR3.out, HC8.out⟩
set_option maxHeartbeats 16000000 in
set_option maxRecDepth 100000 in
theorem tree_b_eq_in (f : Nat) (ih : TreeC f) (fr to : ByteArray) (w0 : World) (S0 : Nat → Prop) (K : List Int) (lo hi : ByteArray) (b : Bool) (x : Nd) (R' : List Nd) (O : List En) (hlen : R'.length ≤ f) (h64 : O.length + (R'.length + 1) ≤ 64) (hokx : x.ok) (hex : entB x.n x.v = true) (hok : ∀ y ∈ R', y.ok ∧ entB y.n y.v = true) (hKe : K ≠ emptyL) (hK : K32 K) (h1 : kN x = K) (h2 : ltB lo x.n = true) (hb : b = true) (h3 : ltB x.n hi = true) (h4 : ltB fr x.n = false) (h5 : ltB x.n fr = false) (h6 : ltB x.n to = true) (s1 : Sw) (hs1 : (⟨R', O, false⟩ : Sw) = s1) (hle : SwLe s1 ⟨R', O, false⟩)
    (w : World) (g : Nat) (A : Option Addr) (n c : Nat) (hn : n = R'.length + 1) (vO : Value) (hr : RdL tNd w0 S0 (.slice A n c) (x :: R')) (hC : Cx 62 w0 w w g #[.string fr, .string to, .slice A n c, vO, .bool false] vO vO O) (s9 : Sw) (hs9 : tr fr to f x.r x.n hi b (⟨R', O ++ [(x.n, x.v)], false⟩ : Sw) = s9) :
    Calls Try.prog 31 #[.pointer (some ⟨g, 0, none⟩), .agg (numsA .u8 K), .string lo, .string hi, .bool b] w fun e w' => ∃ A' c' vO', e = .returned (.tuple #[]) ∧ RdL tNd w0 S0 (.slice A' s9.R.length c') s9.R ∧
      Cx 62 w0 w w' g #[.string fr, .string to, .slice A' s9.R.length c', vO', .bool s9.bad] vO vO' s9.O := by
  have HXE := Lib.hid (show tEnt.ok (x.n, x.v) from hokx.2.2)
  subst hs1
  have HC := Lib.hid hC
  have HOKX := Lib.hid hokx
  have HEX := Lib.hid hex
  have HOK := Lib.hid hok
  have hkl := hK.1
  have HK := Lib.hid hK
  have heql : ∀ W, (binOp .eql 28 (.agg (numsA .u8 K)) (.agg (numsA .u8 emptyL))).run Try.prog W = .ok (.bool false) W := fun W => by
    have := run_eqKey K emptyL hK emptyL_ok W
    rw [decide_eq_false hKe] at this
    exact this
  obtain ⟨A', c', e9, hcap, hlen', hrd, hok9⟩ := id hr
  injection e9 with e91 e92 e93
  subst e91 e93
  obtain ⟨gn, on, rfl, hs0, hcx⟩ := hrd.elem hok9 0 (by simp)
  simp only [Nat.zero_mul, Nat.add_zero, List.getElem_cons_zero] at hcx
  have HD := Lib.hid (show ∀ W, Ext w0 W → ∀ j u, x.enc[j]? = some u → W.cell? ⟨gn, on + j, none⟩ = some u from fun W hW j u hu => hW.cell (hcx j u hu))
  have hcut := RdL.cutN (k := 1) hr (by simp [hn]) (by omega)
  rw [show n - 1 = R'.length by omega, show (x :: R').drop 1 = R' from rfl, show tNd.sz = 66 from rfl] at hcut
  obtain ⟨A2, hA2⟩ : ∃ A2, (if c = 1 then some (⟨gn, on, none⟩ : Addr) else (some (⟨gn, on, none⟩ : Addr)).map (·.add (1 * 66))) = A2 := ⟨_, rfl⟩
  obtain ⟨c2, hc2⟩ : ∃ c2, c - 1 = c2 := ⟨_, rfl⟩
  rw [hA2, hc2] at hcut
  have HSL := Lib.hid (show (Value.slice (if c = 1 then some (⟨gn, on, none⟩ : Addr) else (some (⟨gn, on, none⟩ : Addr)).map (·.add (1 * 66))) (n - 1) (c - 1)) = .slice A2 R'.length c2 by rw [hA2, hc2, show n - 1 = R'.length by omega])
  have HR2 := Lib.hid hcut
  have hn0 : ((n : Int) == 0) = false := by rw [beq_eq_false_iff_ne]; omega
  have hn1 : (0 : Int) < (n : Int) := by omega
  have hn2 : 1 ≤ n := by omega
  have HN := Lib.hid hn
  obtain ⟨m, hm⟩ : ∃ m, R'.length = m := ⟨_, rfl⟩
  have HM := Lib.hid hm
  have HST := Lib.hid (Nd.st hokx)
  have HGB := Lib.hid (show w0.heap.size ≤ g ∧ g < w.heap.size from ⟨hC.base, hC.lt⟩)
  have hneq : ∀ W, (binOp .neq 28 (.agg (numsA .u8 (kN x))) (.agg (numsA .u8 K))).run Try.prog W = .ok (.bool false) W := fun W => by
    have := run_neqKey (kN x) K (kN_ok x) HK.out W
    rw [decide_eq_true h1] at this
    exact this
  subst hb
  have hq1 : Op.bytesLess x.n.toList lo.toList = false := by rw [ltB_eq]; exact ltB_asymm h2
  have hq2 : (x.n.toList == lo.toList) = false := by rw [beq_eq_false_iff_ne]; exact fun e => ltB_ne h2 (toList_inj e).symm
  have hq3 : Op.bytesLess x.n.toList hi.toList = true := by rw [ltB_eq]; exact h3
  have hq4 : Op.bytesLess fr.toList x.n.toList = false := by rw [ltB_eq]; exact h4
  have hq5 : Op.bytesLess x.n.toList fr.toList = false := by rw [ltB_eq]; exact h5
  have hq6 : Op.bytesLess x.n.toList to.toList = true := by rw [ltB_eq]; exact h6
  have hq7 : (x.n.toList == fr.toList) = true := by rw [ltB_total h5 h4]; simp
  clear hr hokx hex hok hcx hrd hok9 hcut hA2 hc2 hs0 hcap hlen' e92 hn hC hm h1
  have c0 := HC.out.blk.at_ 0 rfl
  have c1 := HC.out.blk.at_ 1 rfl
  have c2 := HC.out.blk.at_ 2 rfl
  have c3 := HC.out.blk.at_ 3 rfl
  have c4 := HC.out.blk.at_ 4 rfl
  have f2 := HC.out.blk.free 2
  have f3 := HC.out.blk.free 3
  have f4 := HC.out.blk.free 4
  go_enter Try.func31, Try.ntmps31
  go_wp2_with fail
  have HA := Lib.hid (HC.out.go (ext_alloc w (.cells (numsA .u8 K) 28)))
  have HKB := Lib.hid (Blk.new w 28 (numsA .u8 K))
  clear c0 c1 c2 c3 c4 f2 f3 f4
  generalize w.alloc (.cells (numsA .u8 K) 28) = wa at HA HKB ⊢
  have cd : ∀ W, Ext wa W → W.cell? ⟨g, 4, none⟩ = some (.bool false) := fun W hW => (HA.out.blk.ext hW).at_ 4 rfl
  refine wp_region_held_drew (S := fun W => Ext wa W) (by kernel_rfl) (Ext.refl _).drew (fun hHeld => ?_)
  iterate 5
    refine tkD 0 (by simp only [List.size_toArray, List.length_cons, List.length_nil]; rfl) (by simp only [List.getElem?_toArray, List.getElem?_cons_zero, List.getElem?_cons_succ]; rfl) (by kernel_rfl) (by exact fun _ _ _ h => h) (by first | (exact Or.inl ⟨by rfl, by intro w hSw; (try dsimp only at hSw); go_simp; with_reducible rfl⟩) | (exact Or.inr ⟨by rfl, by rfl⟩)) (by assumption) ?_
    try simp only [Act.put, List.setIfInBounds_toArray, List.set_cons_zero, List.set_cons_succ]
  refine tkI 5 (v := (.agg (numsA .u8 K))) (by simp only [List.getElem?_toArray, List.getElem?_cons_zero, List.getElem?_cons_succ]; rfl) (by kernel_rfl) (by exact fun _ _ _ h => h) (by refine yields_loadB HKB.out aggKey (sizeN hkl) ?_ _ rfl rfl; rfl) (by assumption) ?_
  try simp only [Act.put, List.setIfInBounds_toArray, List.set_cons_zero, List.set_cons_succ]
  refine wpAnyH_ready (rs := [6]) (by kernel_rfl) (by simp) (AllReadyH.cons (o := ?oy1746) ?hy1746 (fun K hK => ?sy1746) AllReadyH.nil)
  case hy1746 => simp only [List.getElem?_toArray, List.getElem?_cons_zero, List.getElem?_cons_succ]; rfl
  go_simp
  refine (l04Empty_any _).mono ?_
  rintro e w9 ⟨rfl, hx⟩
  have hH2 := hHeld.trans hx
  refine hK.out _ _ hH2 (fun _ => ?_)
  clear hHeld hK K
  have hHeld := hH2
  clear hH2
  try simp only [Act.put, List.setIfInBounds_toArray, List.set_cons_zero, List.set_cons_succ]
  iterate 2
    refine tkD 0 (by simp only [List.size_toArray, List.length_cons, List.length_nil]; rfl) (by simp only [List.getElem?_toArray, List.getElem?_cons_zero, List.getElem?_cons_succ]; rfl) (by kernel_rfl) (by exact fun _ _ _ h => h) (by first | (exact Or.inl ⟨by rfl, by intro w hSw; (try dsimp only at hSw); go_simp; with_reducible rfl⟩) | (exact Or.inr ⟨by rfl, by rfl⟩)) (by assumption) ?_
    try simp only [Act.put, List.setIfInBounds_toArray, List.set_cons_zero, List.set_cons_succ]
  refine wpAnyH_done (by kernel_rfl) ?_ _
  have hAx := HA.out.go hHeld
  have HK2 := Lib.hid (HKB.out.ext hHeld)
  clear cd hHeld
  revert hAx HK2
  skip
  intro hAx HK2
  have HB1 := Lib.hid hAx
  clear hAx HA HKB
  have HBa := Lib.hid (HB1.out.go (ext_alloc w9 (.cells x.enc.toArray 52)))
  have HNa := Lib.hid (Blk.new w9 52 x.enc.toArray)
  have hgn : w9.heap.size ≠ g := by have := HB1.out.blk.lt; omega
  have HBb := Lib.hid (show Cx 62 w0 w ((World.alloc w9 (.cells x.enc.toArray 52)).setCell ⟨g, 2, none⟩ (.slice A2 R'.length c2)) g #[.string fr, .string to, .slice A2 R'.length c2, vO, .bool false] vO vO O from HBa.out.set 2 _)
  have HNb := Lib.hid (show Blk ((World.alloc w9 (.cells x.enc.toArray 52)).setCell ⟨g, 2, none⟩ (.slice A2 R'.length c2)) w9.heap.size 52 x.enc.toArray from HNa.out.far hgn _)
  have HKb := Lib.hid (show Blk ((World.alloc w9 (.cells x.enc.toArray 52)).setCell ⟨g, 2, none⟩ (.slice A2 R'.length c2)) w.heap.size 28 (numsA .u8 K) from (HK2.out.alloc _).far (by have := HGB.out; show w.heap.size ≠ g; omega) _)
  have d2 := HB1.out.blk.at_ 2 rfl
  have e2 := HBa.out.blk.at_ 2 rfl
  have f2 := HBa.out.blk.free 2
  have c64 := HNb.out.at_ 64 (Nd.at64 HOKX.out)
  go_wp2_with (first
    | (refine wpl_load ⟨gn, on, none⟩ x.enc (by rw [Nd.enc_length HOKX.out]; exact aggNodeI) rfl _ rfl rfl (fun j u hu => by rw [Addr.add_lit]; exact HD.out _ HB1.out.ext j u hu) ?_)
    | (refine wpl_storeNewB aggNodeI HST.out rfl rfl _ _ rfl rfl rfl rfl ?_)
    | (refine wpl_cut1 (sz := 66) (A := some ⟨gn, on, none⟩) (n := n) (c := c) (by kernel_rfl) (by kernel_rfl) rfl _ rfl rfl hn2 ?_; rw [HSL.out]))
  obtain ⟨nb, hnb⟩ : ∃ nb, w9.heap.size = nb := ⟨_, rfl⟩
  rw [hnb] at HNb hgn ⊢
  generalize (World.alloc w9 (.cells x.enc.toArray 52)).setCell ⟨g, 2, none⟩ (.slice A2 R'.length c2) = wb at HBb HNb HKb ⊢
  clear d2 e2 f2 c64 HBa HNa hnb HB1 HK2
  refine wp_region_held_drew (S := fun W => Ext wb W) (by kernel_rfl) (Ext.refl _).drew (fun hHeld => ?_)
  refine tkI 1 (v := (.agg (numsA .u8 K))) (by simp only [List.getElem?_toArray, List.getElem?_cons_zero, List.getElem?_cons_succ]; rfl) (by kernel_rfl) (by exact fun _ _ _ h => h) (by refine yields_loadB HKb.out aggKey (sizeN hkl) ?_ _ rfl rfl; rfl) (by assumption) ?_
  try simp only [Act.put, List.setIfInBounds_toArray, List.set_cons_zero, List.set_cons_succ]
  refine wpAnyH_ready (rs := [0]) (by kernel_rfl) (by simp) (AllReadyH.cons (o := ?oy1780) ?hy1780 (fun K hK => ?sy1780) AllReadyH.nil)
  case hy1780 => simp only [List.getElem?_toArray, List.getElem?_cons_zero, List.getElem?_cons_succ]; rfl
  go_simp
  refine (l04NodeKey_any x HOKX.out HEX.out nb _ (HNb.out.ext hHeld)).mono ?_
  rintro e w7 ⟨rfl, hx⟩
  have hH2 := hHeld.trans hx
  refine hK.out _ _ hH2 (fun _ => ?_)
  clear hHeld hK K
  have hHeld := hH2
  clear hH2
  try simp only [Act.put, List.setIfInBounds_toArray, List.set_cons_zero, List.set_cons_succ]
  try rw [show hashL 5 (nodeL x) = kN x by rw [kN]]
  iterate 14
    refine tkD 0 (by simp only [List.size_toArray, List.length_cons, List.length_nil]; rfl) (by simp only [List.getElem?_toArray, List.getElem?_cons_zero, List.getElem?_cons_succ]; rfl) (by kernel_rfl) (by exact fun _ _ _ h => h) (by first | (exact Or.inl ⟨by rfl, by intro w hSw; (try dsimp only at hSw); go_simp; with_reducible rfl⟩) | (exact Or.inr ⟨by rfl, by rfl⟩)) (by assumption) ?_
    try simp only [Act.put, List.setIfInBounds_toArray, List.set_cons_zero, List.set_cons_succ]
  refine wpAnyH_done (by kernel_rfl) ?_ _
  have HC7 := Lib.hid (HBb.out.go hHeld)
  have HN7 := Lib.hid (HNb.out.ext hHeld)
  clear hHeld HBb HNb HKb
  have a0 := HC7.out.blk.at_ 0 rfl
  have a1 := HC7.out.blk.at_ 1 rfl
  go_wp2_with fail
  refine wp_region_held_drew (S := fun W => Ext w0 W ∧ Blk W nb 52 x.enc.toArray) (by kernel_rfl) ⟨HC7.out.ext.drew, HN7.out⟩ (fun hHeld => ?_)
  have HCd := Lib.hid (HC7.out.go (Ext.refl _).drew)
  generalize World.drew w7 = wd at hHeld HCd ⊢
  clear a0 a1
  iterate 4
    refine tkD 0 (by simp only [List.size_toArray, List.length_cons, List.length_nil]; rfl) (by simp only [List.getElem?_toArray, List.getElem?_cons_zero, List.getElem?_cons_succ]; rfl) (by kernel_rfl) (by exact fun _ _ _ h => h) (by first | (exact Or.inl ⟨by rfl, by intro w hSw; (try dsimp only at hSw); go_simp; with_reducible rfl⟩) | (exact Or.inr ⟨by rfl, by rfl⟩)) (by assumption) ?_
    try simp only [Act.put, List.setIfInBounds_toArray, List.set_cons_zero, List.set_cons_succ]
  refine tkI 5 (by simp only [List.getElem?_toArray, List.getElem?_cons_zero, List.getElem?_cons_succ]; rfl) (by kernel_rfl) (by exact fun _ _ _ h => h) (by first | (exact Or.inl ⟨by rfl, by intro w hSw; (try dsimp only at hSw); go_simp; with_reducible rfl⟩) | (exact Or.inr ⟨by rfl, by rfl⟩)) (by assumption) ?_
  try simp only [Act.put, List.setIfInBounds_toArray, List.set_cons_zero, List.set_cons_succ]
  refine tkI 6 (v := (.agg #[.string x.n, .string x.v])) (by simp only [List.getElem?_toArray, List.getElem?_cons_zero, List.getElem?_cons_succ]; rfl) (by kernel_rfl) (by exact fun _ _ _ h => h) (by refine yields_loadS nb 64 [.string x.n, .string x.v] aggEntryI (fun W hW j u hu => hW.2.at_ (64 + j) (Nd.ent HOKX.out j u (by simpa using hu))) ?_ _ rfl rfl; rfl) (by assumption) ?_
  try simp only [Act.put, List.setIfInBounds_toArray, List.set_cons_zero, List.set_cons_succ]
  refine wpAnyH_ready (rs := [4, 7]) (by kernel_rfl) (by simp) (AllReadyH.cons (o := ?oy1994) ?hy1994 (fun K hK => ?sy1994) (AllReadyH.cons (o := ?oy1997) ?hy1997 (fun K hK => ?sy1997) AllReadyH.nil))
  case hy1994 => simp only [List.getElem?_toArray, List.getElem?_cons_zero, List.getElem?_cons_succ]; rfl
  case hy1997 => simp only [List.getElem?_toArray, List.getElem?_cons_zero, List.getElem?_cons_succ]; rfl
  case sy1994 =>
    have s3 := HCd.out.blk.at_ 3 rfl
    go_simp
    refine hK.out _ _ hHeld (fun _ => ?_)
    clear hK K s3
    try simp only [Act.put, List.setIfInBounds_toArray, List.set_cons_zero, List.set_cons_succ]
    refine wpAnyH_ready (rs := [7]) (by kernel_rfl) (by simp) (AllReadyH.cons (o := ?oy2007) ?hy2007 (fun K hK => ?sy2007) AllReadyH.nil)
    case hy2007 => simp only [List.getElem?_toArray, List.getElem?_cons_zero, List.getElem?_cons_succ]; rfl
    go_simp
    have hH2 : Ext w0 (wd.alloc (.cells #[.string x.n, .string x.v] 50)) ∧ Blk (wd.alloc (.cells #[.string x.n, .string x.v] 50)) nb 52 x.enc.toArray := ⟨hHeld.1.alloc _, hHeld.2.alloc _⟩
    refine hK.out _ _ hH2 (fun _ => ?_)
    clear hK K hHeld
    have hHeld := hH2
    clear hH2
    try simp only [Act.put, List.setIfInBounds_toArray, List.set_cons_zero, List.set_cons_succ]
    have HCe := Lib.hid (HCd.out.go (ext_alloc wd (.cells #[.string x.n, .string x.v] 50)))
    refine wpAnyH_ready (rs := [8]) (by kernel_rfl) (by simp) (AllReadyH.cons (o := ?oy2018) ?hy2018 (fun K hK => ?sy2018) AllReadyH.nil)
    case hy2018 => simp only [List.getElem?_toArray, List.getElem?_cons_zero, List.getElem?_cons_succ]; rfl
    refine stp_append rowEnt rfl _ _ rfl (v := vO) rfl HCe.out.own _ _ rfl (A := some ⟨wd.heap.size, 0, none⟩) (ys := [(x.n, x.v)]) rfl (rd_ent wd (x.n, x.v) _) (by intro y hy; obtain rfl := List.mem_singleton.1 hy; exact HXE.out) (by have := hle.o; simp only [List.length_singleton] at *; omega) HCe.out.ext.size ?_
    intro v4 w4 ho1 hg1 hat1
    obtain ⟨B4, m4, k4, rfl⟩ := ho1.shape3
    have HN4 := Lib.hid (hHeld.2.cx HCe.out (HCe.out.again.app ho1 hg1 hat1) hgn (by decide))
    have HC4 := Lib.hid (HCe.out.app ho1 hg1 hat1)
    have hH2 : Ext w0 w4 ∧ Blk w4 nb 52 x.enc.toArray := ⟨HC4.out.ext, HN4.out⟩
    refine hK.out _ _ hH2 (fun _ => ?_)
    clear hK K ho1 hg1 hat1 hHeld
    have hHeld := hH2
    clear hH2
    try simp only [Act.put, List.setIfInBounds_toArray, List.set_cons_zero, List.set_cons_succ]
    refine tkI 9 (by simp only [List.getElem?_toArray, List.getElem?_cons_zero, List.getElem?_cons_succ]; rfl) (by kernel_rfl) (by exact fun _ _ _ h => h) (by first | (exact Or.inl ⟨by rfl, by intro w hSw; (try dsimp only at hSw); go_simp; with_reducible rfl⟩) | (exact Or.inr ⟨by rfl, by rfl⟩)) (by assumption) ?_
    try simp only [Act.put, List.setIfInBounds_toArray, List.set_cons_zero, List.set_cons_succ]
    refine tkI 10 (by simp only [List.getElem?_toArray, List.getElem?_cons_zero, List.getElem?_cons_succ]; rfl) (by kernel_rfl) (by exact fun _ _ _ h => h) (by first | (exact Or.inl ⟨by rfl, by intro w hSw; (try dsimp only at hSw); go_simp; with_reducible rfl⟩) | (exact Or.inr ⟨by rfl, by rfl⟩)) (by assumption) ?_
    try simp only [Act.put, List.setIfInBounds_toArray, List.set_cons_zero, List.set_cons_succ]
    refine wpAnyH_ready (rs := [11]) (by kernel_rfl) (by simp) (AllReadyH.cons (o := ?oy20411) ?hy20411 (fun K hK => ?sy20411) AllReadyH.nil)
    case hy20411 => simp only [List.getElem?_toArray, List.getElem?_cons_zero, List.getElem?_cons_succ]; rfl
    have s3 := HC4.out.blk.at_ 3 rfl
    have t3 := HC4.out.blk.free 3
    go_simp
    have HC5 := Lib.hid (show Cx 62 w0 w (w4.setCell ⟨g, 3, none⟩ (.slice B4 m4 k4)) g #[.string fr, .string to, .slice A2 R'.length c2, .slice B4 m4 k4, .bool false] vO (.slice B4 m4 k4) (O ++ [(x.n, x.v)]) from HC4.out.set 3 _)
    have HN5 := Lib.hid (HN4.out.far (p := ⟨g, 3, none⟩) hgn (.slice B4 m4 k4))
    have hH2 : Ext w0 (w4.setCell ⟨g, 3, none⟩ (.slice B4 m4 k4)) ∧ Blk (w4.setCell ⟨g, 3, none⟩ (.slice B4 m4 k4)) nb 52 x.enc.toArray := ⟨HC5.out.ext, HN5.out⟩
    refine hK.out _ _ hH2 (fun _ => ?_)
    clear hK K hHeld hH2 s3 t3
    try simp only [Act.put, List.setIfInBounds_toArray, List.set_cons_zero, List.set_cons_succ]
    refine wpAnyH_done (by kernel_rfl) ?_ _
    generalize w4.setCell ⟨g, 3, none⟩ (.slice B4 m4 k4) = w5 at HC5 HN5 ⊢
    clear HC4 HN4
    have a0 := HC5.out.blk.at_ 0 rfl
    have a1 := HC5.out.blk.at_ 1 rfl
    have hrk := HOKX.out.2.1.1
    go_wp2_with (refine wpl_loadP (off := 32) (sub := numsA .u8 x.r) HN5.out aggKey (sizeN hrk) (Nd.right HOKX.out) rfl _ rfl rfl ?_)
    refine (ih fr to w0 S0 x.r x.n hi true ⟨R', (O ++ [(x.n, x.v)]), false⟩ (by have := hle.r; have := hlen; first | exact hlen | (show s1.R.length ≤ f; exact Nat.le_trans hle.r hlen)) (by have := hle.o; have := hle.r; simp only [List.length_append, List.length_singleton] at *; omega) (fun y hy => HOK.out y (hle.m y hy)) HOKX.out.2.1 _ g A2 c2 (.slice B4 m4 k4) HR2.out HC5.out.again).mono ?_
    rintro e w11 ⟨A9, c9, v9, rfl, hr9, hc9⟩
    rw [hs9] at hr9 hc9
    have HC11 := Lib.hid (HC5.out.call hc9)
    have HR9 := Lib.hid hr9
    clear hr9 hc9
    go_wp2
    first | (refine bodyPost_ret (results_none rfl _ _ _) rfl ?_) | (refine bodyPost_end (results_none rfl _ _ _) rfl ?_)
    exact ⟨A9, c9, v9, rfl, HR9.out, HC11.out⟩
  case sy1997 =>
    go_simp
    have hH2 : Ext w0 (wd.alloc (.cells #[.string x.n, .string x.v] 50)) ∧ Blk (wd.alloc (.cells #[.string x.n, .string x.v] 50)) nb 52 x.enc.toArray := ⟨hHeld.1.alloc _, hHeld.2.alloc _⟩
    refine hK.out _ _ hH2 (fun _ => ?_)
    clear hK K hHeld
    have hHeld := hH2
    clear hH2
    try simp only [Act.put, List.setIfInBounds_toArray, List.set_cons_zero, List.set_cons_succ]
    have HCe := Lib.hid (HCd.out.go (ext_alloc wd (.cells #[.string x.n, .string x.v] 50)))
    refine wpAnyH_ready (rs := [4]) (by kernel_rfl) (by simp) (AllReadyH.cons (o := ?oy2054) ?hy2054 (fun K hK => ?sy2054) AllReadyH.nil)
    case hy2054 => simp only [List.getElem?_toArray, List.getElem?_cons_zero, List.getElem?_cons_succ]; rfl
    have s3 := HCe.out.blk.at_ 3 rfl
    go_simp
    refine hK.out _ _ hHeld (fun _ => ?_)
    clear hK K s3
    try simp only [Act.put, List.setIfInBounds_toArray, List.set_cons_zero, List.set_cons_succ]
    refine wpAnyH_ready (rs := [8]) (by kernel_rfl) (by simp) (AllReadyH.cons (o := ?oy2068) ?hy2068 (fun K hK => ?sy2068) AllReadyH.nil)
    case hy2068 => simp only [List.getElem?_toArray, List.getElem?_cons_zero, List.getElem?_cons_succ]; rfl
    refine stp_append rowEnt rfl _ _ rfl (v := vO) rfl HCe.out.own _ _ rfl (A := some ⟨wd.heap.size, 0, none⟩) (ys := [(x.n, x.v)]) rfl (rd_ent wd (x.n, x.v) _) (by intro y hy; obtain rfl := List.mem_singleton.1 hy; exact HXE.out) (by have := hle.o; simp only [List.length_singleton] at *; omega) HCe.out.ext.size ?_
    intro v4 w4 ho1 hg1 hat1
    obtain ⟨B4, m4, k4, rfl⟩ := ho1.shape3
    have HN4 := Lib.hid (hHeld.2.cx HCe.out (HCe.out.again.app ho1 hg1 hat1) hgn (by decide))
    have HC4 := Lib.hid (HCe.out.app ho1 hg1 hat1)
    have hH2 : Ext w0 w4 ∧ Blk w4 nb 52 x.enc.toArray := ⟨HC4.out.ext, HN4.out⟩
    refine hK.out _ _ hH2 (fun _ => ?_)
    clear hK K ho1 hg1 hat1 hHeld
    have hHeld := hH2
    clear hH2
    try simp only [Act.put, List.setIfInBounds_toArray, List.set_cons_zero, List.set_cons_succ]
    refine tkI 9 (by simp only [List.getElem?_toArray, List.getElem?_cons_zero, List.getElem?_cons_succ]; rfl) (by kernel_rfl) (by exact fun _ _ _ h => h) (by first | (exact Or.inl ⟨by rfl, by intro w hSw; (try dsimp only at hSw); go_simp; with_reducible rfl⟩) | (exact Or.inr ⟨by rfl, by rfl⟩)) (by assumption) ?_
    try simp only [Act.put, List.setIfInBounds_toArray, List.set_cons_zero, List.set_cons_succ]
    refine tkI 10 (by simp only [List.getElem?_toArray, List.getElem?_cons_zero, List.getElem?_cons_succ]; rfl) (by kernel_rfl) (by exact fun _ _ _ h => h) (by first | (exact Or.inl ⟨by rfl, by intro w hSw; (try dsimp only at hSw); go_simp; with_reducible rfl⟩) | (exact Or.inr ⟨by rfl, by rfl⟩)) (by assumption) ?_
    try simp only [Act.put, List.setIfInBounds_toArray, List.set_cons_zero, List.set_cons_succ]
    refine wpAnyH_ready (rs := [11]) (by kernel_rfl) (by simp) (AllReadyH.cons (o := ?oy20911) ?hy20911 (fun K hK => ?sy20911) AllReadyH.nil)
    case hy20911 => simp only [List.getElem?_toArray, List.getElem?_cons_zero, List.getElem?_cons_succ]; rfl
    have s3 := HC4.out.blk.at_ 3 rfl
    have t3 := HC4.out.blk.free 3
    go_simp
    have HC5 := Lib.hid (show Cx 62 w0 w (w4.setCell ⟨g, 3, none⟩ (.slice B4 m4 k4)) g #[.string fr, .string to, .slice A2 R'.length c2, .slice B4 m4 k4, .bool false] vO (.slice B4 m4 k4) (O ++ [(x.n, x.v)]) from HC4.out.set 3 _)
    have HN5 := Lib.hid (HN4.out.far (p := ⟨g, 3, none⟩) hgn (.slice B4 m4 k4))
    have hH2 : Ext w0 (w4.setCell ⟨g, 3, none⟩ (.slice B4 m4 k4)) ∧ Blk (w4.setCell ⟨g, 3, none⟩ (.slice B4 m4 k4)) nb 52 x.enc.toArray := ⟨HC5.out.ext, HN5.out⟩
    refine hK.out _ _ hH2 (fun _ => ?_)
    clear hK K hHeld hH2 s3 t3
    try simp only [Act.put, List.setIfInBounds_toArray, List.set_cons_zero, List.set_cons_succ]
    refine wpAnyH_done (by kernel_rfl) ?_ _
    generalize w4.setCell ⟨g, 3, none⟩ (.slice B4 m4 k4) = w5 at HC5 HN5 ⊢
    clear HC4 HN4
    have a0 := HC5.out.blk.at_ 0 rfl
    have a1 := HC5.out.blk.at_ 1 rfl
    have hrk := HOKX.out.2.1.1
    go_wp2_with (refine wpl_loadP (off := 32) (sub := numsA .u8 x.r) HN5.out aggKey (sizeN hrk) (Nd.right HOKX.out) rfl _ rfl rfl ?_)
    refine (ih fr to w0 S0 x.r x.n hi true ⟨R', (O ++ [(x.n, x.v)]), false⟩ (by have := hle.r; have := hlen; first | exact hlen | (show s1.R.length ≤ f; exact Nat.le_trans hle.r hlen)) (by have := hle.o; have := hle.r; simp only [List.length_append, List.length_singleton] at *; omega) (fun y hy => HOK.out y (hle.m y hy)) HOKX.out.2.1 _ g A2 c2 (.slice B4 m4 k4) HR2.out HC5.out.again).mono ?_
    rintro e w11 ⟨A9, c9, v9, rfl, hr9, hc9⟩
    rw [hs9] at hr9 hc9
    have HC11 := Lib.hid (HC5.out.call hc9)
    have HR9 := Lib.hid hr9
    clear hr9 hc9
    go_wp2
    first | (refine bodyPost_ret (results_none rfl _ _ _) rfl ?_) | (refine bodyPost_end (results_none rfl _ _ _) rfl ?_)
    exact ⟨A9, c9, v9, rfl, HR9.out, HC11.out⟩
set_option maxHeartbeats 16000000 in
set_option maxRecDepth 100000 in
theorem tree_b_eq_out (f : Nat) (ih : TreeC f) (fr to : ByteArray) (w0 : World) (S0 : Nat → Prop) (K : List Int) (lo hi : ByteArray) (b : Bool) (x : Nd) (R' : List Nd) (O : List En) (hlen : R'.length ≤ f) (h64 : O.length + (R'.length + 1) ≤ 64) (hokx : x.ok) (hex : entB x.n x.v = true) (hok : ∀ y ∈ R', y.ok ∧ entB y.n y.v = true) (hKe : K ≠ emptyL) (hK : K32 K) (h1 : kN x = K) (h2 : ltB lo x.n = true) (hb : b = true) (h3 : ltB x.n hi = true) (h4 : ltB fr x.n = false) (h5 : ltB x.n fr = false) (h6 : ltB x.n to = false) (s1 : Sw) (hs1 : (⟨R', O, false⟩ : Sw) = s1) (hle : SwLe s1 ⟨R', O, false⟩)
    (w : World) (g : Nat) (A : Option Addr) (n c : Nat) (hn : n = R'.length + 1) (vO : Value) (hr : RdL tNd w0 S0 (.slice A n c) (x :: R')) (hC : Cx 62 w0 w w g #[.string fr, .string to, .slice A n c, vO, .bool false] vO vO O) (s9 : Sw) (hs9 : (⟨R', O, false⟩ : Sw) = s9) :
    Calls Try.prog 31 #[.pointer (some ⟨g, 0, none⟩), .agg (numsA .u8 K), .string lo, .string hi, .bool b] w fun e w' => ∃ A' c' vO', e = .returned (.tuple #[]) ∧ RdL tNd w0 S0 (.slice A' s9.R.length c') s9.R ∧
      Cx 62 w0 w w' g #[.string fr, .string to, .slice A' s9.R.length c', vO', .bool s9.bad] vO vO' s9.O := by
  have HXE := Lib.hid (show tEnt.ok (x.n, x.v) from hokx.2.2)
  subst hs9
  subst hs1
  have HC := Lib.hid hC
  have HOKX := Lib.hid hokx
  have HEX := Lib.hid hex
  have HOK := Lib.hid hok
  have hkl := hK.1
  have HK := Lib.hid hK
  have heql : ∀ W, (binOp .eql 28 (.agg (numsA .u8 K)) (.agg (numsA .u8 emptyL))).run Try.prog W = .ok (.bool false) W := fun W => by
    have := run_eqKey K emptyL hK emptyL_ok W
    rw [decide_eq_false hKe] at this
    exact this
  obtain ⟨A', c', e9, hcap, hlen', hrd, hok9⟩ := id hr
  injection e9 with e91 e92 e93
  subst e91 e93
  obtain ⟨gn, on, rfl, hs0, hcx⟩ := hrd.elem hok9 0 (by simp)
  simp only [Nat.zero_mul, Nat.add_zero, List.getElem_cons_zero] at hcx
  have HD := Lib.hid (show ∀ W, Ext w0 W → ∀ j u, x.enc[j]? = some u → W.cell? ⟨gn, on + j, none⟩ = some u from fun W hW j u hu => hW.cell (hcx j u hu))
  have hcut := RdL.cutN (k := 1) hr (by simp [hn]) (by omega)
  rw [show n - 1 = R'.length by omega, show (x :: R').drop 1 = R' from rfl, show tNd.sz = 66 from rfl] at hcut
  obtain ⟨A2, hA2⟩ : ∃ A2, (if c = 1 then some (⟨gn, on, none⟩ : Addr) else (some (⟨gn, on, none⟩ : Addr)).map (·.add (1 * 66))) = A2 := ⟨_, rfl⟩
  obtain ⟨c2, hc2⟩ : ∃ c2, c - 1 = c2 := ⟨_, rfl⟩
  rw [hA2, hc2] at hcut
  have HSL := Lib.hid (show (Value.slice (if c = 1 then some (⟨gn, on, none⟩ : Addr) else (some (⟨gn, on, none⟩ : Addr)).map (·.add (1 * 66))) (n - 1) (c - 1)) = .slice A2 R'.length c2 by rw [hA2, hc2, show n - 1 = R'.length by omega])
  have HR2 := Lib.hid hcut
  have hn0 : ((n : Int) == 0) = false := by rw [beq_eq_false_iff_ne]; omega
  have hn1 : (0 : Int) < (n : Int) := by omega
  have hn2 : 1 ≤ n := by omega
  have HN := Lib.hid hn
  obtain ⟨m, hm⟩ : ∃ m, R'.length = m := ⟨_, rfl⟩
  have HM := Lib.hid hm
  have HST := Lib.hid (Nd.st hokx)
  have HGB := Lib.hid (show w0.heap.size ≤ g ∧ g < w.heap.size from ⟨hC.base, hC.lt⟩)
  have hneq : ∀ W, (binOp .neq 28 (.agg (numsA .u8 (kN x))) (.agg (numsA .u8 K))).run Try.prog W = .ok (.bool false) W := fun W => by
    have := run_neqKey (kN x) K (kN_ok x) HK.out W
    rw [decide_eq_true h1] at this
    exact this
  subst hb
  have hq1 : Op.bytesLess x.n.toList lo.toList = false := by rw [ltB_eq]; exact ltB_asymm h2
  have hq2 : (x.n.toList == lo.toList) = false := by rw [beq_eq_false_iff_ne]; exact fun e => ltB_ne h2 (toList_inj e).symm
  have hq3 : Op.bytesLess x.n.toList hi.toList = true := by rw [ltB_eq]; exact h3
  have hq4 : Op.bytesLess fr.toList x.n.toList = false := by rw [ltB_eq]; exact h4
  have hq5 : Op.bytesLess x.n.toList fr.toList = false := by rw [ltB_eq]; exact h5
  have hq6 : Op.bytesLess x.n.toList to.toList = false := by rw [ltB_eq]; exact h6
  have hq7 : (x.n.toList == fr.toList) = true := by rw [ltB_total h5 h4]; simp
  clear hr hokx hex hok hcx hrd hok9 hcut hA2 hc2 hs0 hcap hlen' e92 hn hC hm h1
  have c0 := HC.out.blk.at_ 0 rfl
  have c1 := HC.out.blk.at_ 1 rfl
  have c2 := HC.out.blk.at_ 2 rfl
  have c3 := HC.out.blk.at_ 3 rfl
  have c4 := HC.out.blk.at_ 4 rfl
  have f2 := HC.out.blk.free 2
  have f3 := HC.out.blk.free 3
  have f4 := HC.out.blk.free 4
  go_enter Try.func31, Try.ntmps31
  go_wp2_with fail
  have HA := Lib.hid (HC.out.go (ext_alloc w (.cells (numsA .u8 K) 28)))
  have HKB := Lib.hid (Blk.new w 28 (numsA .u8 K))
  clear c0 c1 c2 c3 c4 f2 f3 f4
  generalize w.alloc (.cells (numsA .u8 K) 28) = wa at HA HKB ⊢
  have cd : ∀ W, Ext wa W → W.cell? ⟨g, 4, none⟩ = some (.bool false) := fun W hW => (HA.out.blk.ext hW).at_ 4 rfl
  refine wp_region_held_drew (S := fun W => Ext wa W) (by kernel_rfl) (Ext.refl _).drew (fun hHeld => ?_)
  iterate 5
    refine tkD 0 (by simp only [List.size_toArray, List.length_cons, List.length_nil]; rfl) (by simp only [List.getElem?_toArray, List.getElem?_cons_zero, List.getElem?_cons_succ]; rfl) (by kernel_rfl) (by exact fun _ _ _ h => h) (by first | (exact Or.inl ⟨by rfl, by intro w hSw; (try dsimp only at hSw); go_simp; with_reducible rfl⟩) | (exact Or.inr ⟨by rfl, by rfl⟩)) (by assumption) ?_
    try simp only [Act.put, List.setIfInBounds_toArray, List.set_cons_zero, List.set_cons_succ]
  refine tkI 5 (v := (.agg (numsA .u8 K))) (by simp only [List.getElem?_toArray, List.getElem?_cons_zero, List.getElem?_cons_succ]; rfl) (by kernel_rfl) (by exact fun _ _ _ h => h) (by refine yields_loadB HKB.out aggKey (sizeN hkl) ?_ _ rfl rfl; rfl) (by assumption) ?_
  try simp only [Act.put, List.setIfInBounds_toArray, List.set_cons_zero, List.set_cons_succ]
  refine wpAnyH_ready (rs := [6]) (by kernel_rfl) (by simp) (AllReadyH.cons (o := ?oy2166) ?hy2166 (fun K hK => ?sy2166) AllReadyH.nil)
  case hy2166 => simp only [List.getElem?_toArray, List.getElem?_cons_zero, List.getElem?_cons_succ]; rfl
  go_simp
  refine (l04Empty_any _).mono ?_
  rintro e w9 ⟨rfl, hx⟩
  have hH2 := hHeld.trans hx
  refine hK.out _ _ hH2 (fun _ => ?_)
  clear hHeld hK K
  have hHeld := hH2
  clear hH2
  try simp only [Act.put, List.setIfInBounds_toArray, List.set_cons_zero, List.set_cons_succ]
  iterate 2
    refine tkD 0 (by simp only [List.size_toArray, List.length_cons, List.length_nil]; rfl) (by simp only [List.getElem?_toArray, List.getElem?_cons_zero, List.getElem?_cons_succ]; rfl) (by kernel_rfl) (by exact fun _ _ _ h => h) (by first | (exact Or.inl ⟨by rfl, by intro w hSw; (try dsimp only at hSw); go_simp; with_reducible rfl⟩) | (exact Or.inr ⟨by rfl, by rfl⟩)) (by assumption) ?_
    try simp only [Act.put, List.setIfInBounds_toArray, List.set_cons_zero, List.set_cons_succ]
  refine wpAnyH_done (by kernel_rfl) ?_ _
  have hAx := HA.out.go hHeld
  have HK2 := Lib.hid (HKB.out.ext hHeld)
  clear cd hHeld
  revert hAx HK2
  skip
  intro hAx HK2
  have HB1 := Lib.hid hAx
  clear hAx HA HKB
  have HBa := Lib.hid (HB1.out.go (ext_alloc w9 (.cells x.enc.toArray 52)))
  have HNa := Lib.hid (Blk.new w9 52 x.enc.toArray)
  have hgn : w9.heap.size ≠ g := by have := HB1.out.blk.lt; omega
  have HBb := Lib.hid (show Cx 62 w0 w ((World.alloc w9 (.cells x.enc.toArray 52)).setCell ⟨g, 2, none⟩ (.slice A2 R'.length c2)) g #[.string fr, .string to, .slice A2 R'.length c2, vO, .bool false] vO vO O from HBa.out.set 2 _)
  have HNb := Lib.hid (show Blk ((World.alloc w9 (.cells x.enc.toArray 52)).setCell ⟨g, 2, none⟩ (.slice A2 R'.length c2)) w9.heap.size 52 x.enc.toArray from HNa.out.far hgn _)
  have HKb := Lib.hid (show Blk ((World.alloc w9 (.cells x.enc.toArray 52)).setCell ⟨g, 2, none⟩ (.slice A2 R'.length c2)) w.heap.size 28 (numsA .u8 K) from (HK2.out.alloc _).far (by have := HGB.out; show w.heap.size ≠ g; omega) _)
  have d2 := HB1.out.blk.at_ 2 rfl
  have e2 := HBa.out.blk.at_ 2 rfl
  have f2 := HBa.out.blk.free 2
  have c64 := HNb.out.at_ 64 (Nd.at64 HOKX.out)
  go_wp2_with (first
    | (refine wpl_load ⟨gn, on, none⟩ x.enc (by rw [Nd.enc_length HOKX.out]; exact aggNodeI) rfl _ rfl rfl (fun j u hu => by rw [Addr.add_lit]; exact HD.out _ HB1.out.ext j u hu) ?_)
    | (refine wpl_storeNewB aggNodeI HST.out rfl rfl _ _ rfl rfl rfl rfl ?_)
    | (refine wpl_cut1 (sz := 66) (A := some ⟨gn, on, none⟩) (n := n) (c := c) (by kernel_rfl) (by kernel_rfl) rfl _ rfl rfl hn2 ?_; rw [HSL.out]))
  obtain ⟨nb, hnb⟩ : ∃ nb, w9.heap.size = nb := ⟨_, rfl⟩
  rw [hnb] at HNb hgn ⊢
  generalize (World.alloc w9 (.cells x.enc.toArray 52)).setCell ⟨g, 2, none⟩ (.slice A2 R'.length c2) = wb at HBb HNb HKb ⊢
  clear d2 e2 f2 c64 HBa HNa hnb HB1 HK2
  refine wp_region_held_drew (S := fun W => Ext wb W) (by kernel_rfl) (Ext.refl _).drew (fun hHeld => ?_)
  refine tkI 1 (v := (.agg (numsA .u8 K))) (by simp only [List.getElem?_toArray, List.getElem?_cons_zero, List.getElem?_cons_succ]; rfl) (by kernel_rfl) (by exact fun _ _ _ h => h) (by refine yields_loadB HKb.out aggKey (sizeN hkl) ?_ _ rfl rfl; rfl) (by assumption) ?_
  try simp only [Act.put, List.setIfInBounds_toArray, List.set_cons_zero, List.set_cons_succ]
  refine wpAnyH_ready (rs := [0]) (by kernel_rfl) (by simp) (AllReadyH.cons (o := ?oy2200) ?hy2200 (fun K hK => ?sy2200) AllReadyH.nil)
  case hy2200 => simp only [List.getElem?_toArray, List.getElem?_cons_zero, List.getElem?_cons_succ]; rfl
  go_simp
  refine (l04NodeKey_any x HOKX.out HEX.out nb _ (HNb.out.ext hHeld)).mono ?_
  rintro e w7 ⟨rfl, hx⟩
  have hH2 := hHeld.trans hx
  refine hK.out _ _ hH2 (fun _ => ?_)
  clear hHeld hK K
  have hHeld := hH2
  clear hH2
  try simp only [Act.put, List.setIfInBounds_toArray, List.set_cons_zero, List.set_cons_succ]
  try rw [show hashL 5 (nodeL x) = kN x by rw [kN]]
  iterate 14
    refine tkD 0 (by simp only [List.size_toArray, List.length_cons, List.length_nil]; rfl) (by simp only [List.getElem?_toArray, List.getElem?_cons_zero, List.getElem?_cons_succ]; rfl) (by kernel_rfl) (by exact fun _ _ _ h => h) (by first | (exact Or.inl ⟨by rfl, by intro w hSw; (try dsimp only at hSw); go_simp; with_reducible rfl⟩) | (exact Or.inr ⟨by rfl, by rfl⟩)) (by assumption) ?_
    try simp only [Act.put, List.setIfInBounds_toArray, List.set_cons_zero, List.set_cons_succ]
  refine wpAnyH_done (by kernel_rfl) ?_ _
  have HC7 := Lib.hid (HBb.out.go hHeld)
  have HN7 := Lib.hid (HNb.out.ext hHeld)
  clear hHeld HBb HNb HKb
  have a0 := HC7.out.blk.at_ 0 rfl
  have a1 := HC7.out.blk.at_ 1 rfl
  go_wp2
  first | (refine bodyPost_ret (results_none rfl _ _ _) rfl ?_) | (refine bodyPost_end (results_none rfl _ _ _) rfl ?_)
  exact ⟨A2, c2, vO, rfl, HR2.out, HC7.out⟩
end Go.Proofs.Ytipeaoanhcjnjaa
/- The reference's walk over nodes that tell a range, at a node. No condition. -/
namespace Go.Proofs.Ytipeaoanhcjnjaa
open Go.RowKit
set_option linter.unusedVariables false
set_option linter.unusedSimpArgs false


set_option maxHeartbeats 16000000 in
set_option maxRecDepth 100000 in
theorem tree_n_mid_in (f : Nat) (ih : TreeC f) (fr to : ByteArray) (w0 : World) (S0 : Nat → Prop) (K : List Int) (lo hi : ByteArray) (b : Bool) (x : Nd) (R' : List Nd) (O : List En) (hlen : R'.length ≤ f) (h64 : O.length + (R'.length + 1) ≤ 64) (hokx : x.ok) (hex : entB x.n x.v = true) (hok : ∀ y ∈ R', y.ok ∧ entB y.n y.v = true) (hKe : K ≠ emptyL) (hK : K32 K) (h1 : kN x = K) (h2 : ltB lo x.n = true) (hb : b = false) (h4 : ltB fr x.n = true) (h6 : ltB x.n to = true) (s1 : Sw) (hs1 : tr fr to f x.l lo x.n true ⟨R', O, false⟩ = s1) (hle : SwLe s1 ⟨R', O, false⟩)
    (w : World) (g : Nat) (A : Option Addr) (n c : Nat) (hn : n = R'.length + 1) (vO : Value) (hr : RdL tNd w0 S0 (.slice A n c) (x :: R')) (hC : Cx 62 w0 w w g #[.string fr, .string to, .slice A n c, vO, .bool false] vO vO O) (s9 : Sw) (hs9 : tr fr to f x.r x.n hi b (⟨s1.R, s1.O ++ [(x.n, x.v)], s1.bad⟩ : Sw) = s9) :
    Calls Try.prog 31 #[.pointer (some ⟨g, 0, none⟩), .agg (numsA .u8 K), .string lo, .string hi, .bool b] w fun e w' => ∃ A' c' vO', e = .returned (.tuple #[]) ∧ RdL tNd w0 S0 (.slice A' s9.R.length c') s9.R ∧
      Cx 62 w0 w w' g #[.string fr, .string to, .slice A' s9.R.length c', vO', .bool s9.bad] vO vO' s9.O := by
  have HXE := Lib.hid (show tEnt.ok (x.n, x.v) from hokx.2.2)
  have HC := Lib.hid hC
  have HOKX := Lib.hid hokx
  have HEX := Lib.hid hex
  have HOK := Lib.hid hok
  have hkl := hK.1
  have HK := Lib.hid hK
  have heql : ∀ W, (binOp .eql 28 (.agg (numsA .u8 K)) (.agg (numsA .u8 emptyL))).run Try.prog W = .ok (.bool false) W := fun W => by
    have := run_eqKey K emptyL hK emptyL_ok W
    rw [decide_eq_false hKe] at this
    exact this
  obtain ⟨A', c', e9, hcap, hlen', hrd, hok9⟩ := id hr
  injection e9 with e91 e92 e93
  subst e91 e93
  obtain ⟨gn, on, rfl, hs0, hcx⟩ := hrd.elem hok9 0 (by simp)
  simp only [Nat.zero_mul, Nat.add_zero, List.getElem_cons_zero] at hcx
  have HD := Lib.hid (show ∀ W, Ext w0 W → ∀ j u, x.enc[j]? = some u → W.cell? ⟨gn, on + j, none⟩ = some u from fun W hW j u hu => hW.cell (hcx j u hu))
  have hcut := RdL.cutN (k := 1) hr (by simp [hn]) (by omega)
  rw [show n - 1 = R'.length by omega, show (x :: R').drop 1 = R' from rfl, show tNd.sz = 66 from rfl] at hcut
  obtain ⟨A2, hA2⟩ : ∃ A2, (if c = 1 then some (⟨gn, on, none⟩ : Addr) else (some (⟨gn, on, none⟩ : Addr)).map (·.add (1 * 66))) = A2 := ⟨_, rfl⟩
  obtain ⟨c2, hc2⟩ : ∃ c2, c - 1 = c2 := ⟨_, rfl⟩
  rw [hA2, hc2] at hcut
  have HSL := Lib.hid (show (Value.slice (if c = 1 then some (⟨gn, on, none⟩ : Addr) else (some (⟨gn, on, none⟩ : Addr)).map (·.add (1 * 66))) (n - 1) (c - 1)) = .slice A2 R'.length c2 by rw [hA2, hc2, show n - 1 = R'.length by omega])
  have HR2 := Lib.hid hcut
  have hn0 : ((n : Int) == 0) = false := by rw [beq_eq_false_iff_ne]; omega
  have hn1 : (0 : Int) < (n : Int) := by omega
  have hn2 : 1 ≤ n := by omega
  have HN := Lib.hid hn
  obtain ⟨m, hm⟩ : ∃ m, R'.length = m := ⟨_, rfl⟩
  have HM := Lib.hid hm
  have HST := Lib.hid (Nd.st hokx)
  have HGB := Lib.hid (show w0.heap.size ≤ g ∧ g < w.heap.size from ⟨hC.base, hC.lt⟩)
  have hneq : ∀ W, (binOp .neq 28 (.agg (numsA .u8 (kN x))) (.agg (numsA .u8 K))).run Try.prog W = .ok (.bool false) W := fun W => by
    have := run_neqKey (kN x) K (kN_ok x) HK.out W
    rw [decide_eq_true h1] at this
    exact this
  subst hb
  have hq1 : Op.bytesLess x.n.toList lo.toList = false := by rw [ltB_eq]; exact ltB_asymm h2
  have hq2 : (x.n.toList == lo.toList) = false := by rw [beq_eq_false_iff_ne]; exact fun e => ltB_ne h2 (toList_inj e).symm
  have hq4 : Op.bytesLess fr.toList x.n.toList = true := by rw [ltB_eq]; exact h4
  have hq5 : Op.bytesLess x.n.toList fr.toList = false := by rw [ltB_eq]; exact ltB_asymm h4
  have hq6 : Op.bytesLess x.n.toList to.toList = true := by rw [ltB_eq]; exact h6
  have hq7 : (x.n.toList == fr.toList) = false := by rw [beq_eq_false_iff_ne]; exact fun e => ltB_ne h4 (toList_inj e).symm
  clear hr hokx hex hok hcx hrd hok9 hcut hA2 hc2 hs0 hcap hlen' e92 hn hC hm h1
  have c0 := HC.out.blk.at_ 0 rfl
  have c1 := HC.out.blk.at_ 1 rfl
  have c2 := HC.out.blk.at_ 2 rfl
  have c3 := HC.out.blk.at_ 3 rfl
  have c4 := HC.out.blk.at_ 4 rfl
  have f2 := HC.out.blk.free 2
  have f3 := HC.out.blk.free 3
  have f4 := HC.out.blk.free 4
  go_enter Try.func31, Try.ntmps31
  go_wp2_with fail
  have HA := Lib.hid (HC.out.go (ext_alloc w (.cells (numsA .u8 K) 28)))
  have HKB := Lib.hid (Blk.new w 28 (numsA .u8 K))
  clear c0 c1 c2 c3 c4 f2 f3 f4
  generalize w.alloc (.cells (numsA .u8 K) 28) = wa at HA HKB ⊢
  have cd : ∀ W, Ext wa W → W.cell? ⟨g, 4, none⟩ = some (.bool false) := fun W hW => (HA.out.blk.ext hW).at_ 4 rfl
  refine wp_region_held_drew (S := fun W => Ext wa W) (by kernel_rfl) (Ext.refl _).drew (fun hHeld => ?_)
  iterate 5
    refine tkD 0 (by simp only [List.size_toArray, List.length_cons, List.length_nil]; rfl) (by simp only [List.getElem?_toArray, List.getElem?_cons_zero, List.getElem?_cons_succ]; rfl) (by kernel_rfl) (by exact fun _ _ _ h => h) (by first | (exact Or.inl ⟨by rfl, by intro w hSw; (try dsimp only at hSw); go_simp; with_reducible rfl⟩) | (exact Or.inr ⟨by rfl, by rfl⟩)) (by assumption) ?_
    try simp only [Act.put, List.setIfInBounds_toArray, List.set_cons_zero, List.set_cons_succ]
  refine tkI 5 (v := (.agg (numsA .u8 K))) (by simp only [List.getElem?_toArray, List.getElem?_cons_zero, List.getElem?_cons_succ]; rfl) (by kernel_rfl) (by exact fun _ _ _ h => h) (by refine yields_loadB HKB.out aggKey (sizeN hkl) ?_ _ rfl rfl; rfl) (by assumption) ?_
  try simp only [Act.put, List.setIfInBounds_toArray, List.set_cons_zero, List.set_cons_succ]
  refine wpAnyH_ready (rs := [6]) (by kernel_rfl) (by simp) (AllReadyH.cons (o := ?oy2916) ?hy2916 (fun K hK => ?sy2916) AllReadyH.nil)
  case hy2916 => simp only [List.getElem?_toArray, List.getElem?_cons_zero, List.getElem?_cons_succ]; rfl
  go_simp
  refine (l04Empty_any _).mono ?_
  rintro e w9 ⟨rfl, hx⟩
  have hH2 := hHeld.trans hx
  refine hK.out _ _ hH2 (fun _ => ?_)
  clear hHeld hK K
  have hHeld := hH2
  clear hH2
  try simp only [Act.put, List.setIfInBounds_toArray, List.set_cons_zero, List.set_cons_succ]
  iterate 2
    refine tkD 0 (by simp only [List.size_toArray, List.length_cons, List.length_nil]; rfl) (by simp only [List.getElem?_toArray, List.getElem?_cons_zero, List.getElem?_cons_succ]; rfl) (by kernel_rfl) (by exact fun _ _ _ h => h) (by first | (exact Or.inl ⟨by rfl, by intro w hSw; (try dsimp only at hSw); go_simp; with_reducible rfl⟩) | (exact Or.inr ⟨by rfl, by rfl⟩)) (by assumption) ?_
    try simp only [Act.put, List.setIfInBounds_toArray, List.set_cons_zero, List.set_cons_succ]
  refine wpAnyH_done (by kernel_rfl) ?_ _
  have hAx := HA.out.go hHeld
  have HK2 := Lib.hid (HKB.out.ext hHeld)
  clear cd hHeld
  revert hAx HK2
  skip
  intro hAx HK2
  have HB1 := Lib.hid hAx
  clear hAx HA HKB
  have HBa := Lib.hid (HB1.out.go (ext_alloc w9 (.cells x.enc.toArray 52)))
  have HNa := Lib.hid (Blk.new w9 52 x.enc.toArray)
  have hgn : w9.heap.size ≠ g := by have := HB1.out.blk.lt; omega
  have HBb := Lib.hid (show Cx 62 w0 w ((World.alloc w9 (.cells x.enc.toArray 52)).setCell ⟨g, 2, none⟩ (.slice A2 R'.length c2)) g #[.string fr, .string to, .slice A2 R'.length c2, vO, .bool false] vO vO O from HBa.out.set 2 _)
  have HNb := Lib.hid (show Blk ((World.alloc w9 (.cells x.enc.toArray 52)).setCell ⟨g, 2, none⟩ (.slice A2 R'.length c2)) w9.heap.size 52 x.enc.toArray from HNa.out.far hgn _)
  have HKb := Lib.hid (show Blk ((World.alloc w9 (.cells x.enc.toArray 52)).setCell ⟨g, 2, none⟩ (.slice A2 R'.length c2)) w.heap.size 28 (numsA .u8 K) from (HK2.out.alloc _).far (by have := HGB.out; show w.heap.size ≠ g; omega) _)
  have d2 := HB1.out.blk.at_ 2 rfl
  have e2 := HBa.out.blk.at_ 2 rfl
  have f2 := HBa.out.blk.free 2
  have c64 := HNb.out.at_ 64 (Nd.at64 HOKX.out)
  go_wp2_with (first
    | (refine wpl_load ⟨gn, on, none⟩ x.enc (by rw [Nd.enc_length HOKX.out]; exact aggNodeI) rfl _ rfl rfl (fun j u hu => by rw [Addr.add_lit]; exact HD.out _ HB1.out.ext j u hu) ?_)
    | (refine wpl_storeNewB aggNodeI HST.out rfl rfl _ _ rfl rfl rfl rfl ?_)
    | (refine wpl_cut1 (sz := 66) (A := some ⟨gn, on, none⟩) (n := n) (c := c) (by kernel_rfl) (by kernel_rfl) rfl _ rfl rfl hn2 ?_; rw [HSL.out]))
  obtain ⟨nb, hnb⟩ : ∃ nb, w9.heap.size = nb := ⟨_, rfl⟩
  rw [hnb] at HNb hgn ⊢
  generalize (World.alloc w9 (.cells x.enc.toArray 52)).setCell ⟨g, 2, none⟩ (.slice A2 R'.length c2) = wb at HBb HNb HKb ⊢
  clear d2 e2 f2 c64 HBa HNa hnb HB1 HK2
  refine wp_region_held_drew (S := fun W => Ext wb W) (by kernel_rfl) (Ext.refl _).drew (fun hHeld => ?_)
  refine tkI 1 (v := (.agg (numsA .u8 K))) (by simp only [List.getElem?_toArray, List.getElem?_cons_zero, List.getElem?_cons_succ]; rfl) (by kernel_rfl) (by exact fun _ _ _ h => h) (by refine yields_loadB HKb.out aggKey (sizeN hkl) ?_ _ rfl rfl; rfl) (by assumption) ?_
  try simp only [Act.put, List.setIfInBounds_toArray, List.set_cons_zero, List.set_cons_succ]
  refine wpAnyH_ready (rs := [0]) (by kernel_rfl) (by simp) (AllReadyH.cons (o := ?oy2950) ?hy2950 (fun K hK => ?sy2950) AllReadyH.nil)
  case hy2950 => simp only [List.getElem?_toArray, List.getElem?_cons_zero, List.getElem?_cons_succ]; rfl
  go_simp
  refine (l04NodeKey_any x HOKX.out HEX.out nb _ (HNb.out.ext hHeld)).mono ?_
  rintro e w7 ⟨rfl, hx⟩
  have hH2 := hHeld.trans hx
  refine hK.out _ _ hH2 (fun _ => ?_)
  clear hHeld hK K
  have hHeld := hH2
  clear hH2
  try simp only [Act.put, List.setIfInBounds_toArray, List.set_cons_zero, List.set_cons_succ]
  try rw [show hashL 5 (nodeL x) = kN x by rw [kN]]
  iterate 14
    refine tkD 0 (by simp only [List.size_toArray, List.length_cons, List.length_nil]; rfl) (by simp only [List.getElem?_toArray, List.getElem?_cons_zero, List.getElem?_cons_succ]; rfl) (by kernel_rfl) (by exact fun _ _ _ h => h) (by first | (exact Or.inl ⟨by rfl, by intro w hSw; (try dsimp only at hSw); go_simp; with_reducible rfl⟩) | (exact Or.inr ⟨by rfl, by rfl⟩)) (by assumption) ?_
    try simp only [Act.put, List.setIfInBounds_toArray, List.set_cons_zero, List.set_cons_succ]
  refine wpAnyH_done (by kernel_rfl) ?_ _
  have HC7 := Lib.hid (HBb.out.go hHeld)
  have HN7 := Lib.hid (HNb.out.ext hHeld)
  clear hHeld HBb HNb HKb
  have a0 := HC7.out.blk.at_ 0 rfl
  have a1 := HC7.out.blk.at_ 1 rfl
  have hl := HOKX.out.1.1
  go_wp2_with (refine wpl_loadP (off := 0) (sub := numsA .u8 x.l) HN7.out aggKey (sizeN hl) (Nd.left HOKX.out) rfl _ rfl rfl ?_)
  refine (ih fr to w0 S0 x.l lo x.n true ⟨R', O, false⟩ hlen (by show O.length + R'.length ≤ 64; omega) HOK.out HOKX.out.1 w7 g A2 c2 vO HR2.out HC7.out.again).mono ?_
  rintro e w8 ⟨A3, c3, v3, rfl, hr3, hc3⟩
  rw [hs1] at hr3 hc3
  have HN8 := Lib.hid (HN7.out.cx HC7.out hc3 hgn (by decide))
  have HC8 := Lib.hid (HC7.out.call hc3)
  have HR3 := Lib.hid hr3
  clear hr3 hc3 a0 a1 HC7 HN7
  have a0 := HC8.out.blk.at_ 0 rfl
  have a1 := HC8.out.blk.at_ 1 rfl
  go_wp2_with fail
  refine wp_region_held_drew (S := fun W => Ext w0 W ∧ Blk W nb 52 x.enc.toArray) (by kernel_rfl) ⟨HC8.out.ext.drew, HN8.out⟩ (fun hHeld => ?_)
  have HCd := Lib.hid (HC8.out.go (Ext.refl _).drew)
  generalize World.drew w8 = wd at hHeld HCd ⊢
  clear a0 a1
  iterate 4
    refine tkD 0 (by simp only [List.size_toArray, List.length_cons, List.length_nil]; rfl) (by simp only [List.getElem?_toArray, List.getElem?_cons_zero, List.getElem?_cons_succ]; rfl) (by kernel_rfl) (by exact fun _ _ _ h => h) (by first | (exact Or.inl ⟨by rfl, by intro w hSw; (try dsimp only at hSw); go_simp; with_reducible rfl⟩) | (exact Or.inr ⟨by rfl, by rfl⟩)) (by assumption) ?_
    try simp only [Act.put, List.setIfInBounds_toArray, List.set_cons_zero, List.set_cons_succ]
  refine tkI 5 (by simp only [List.getElem?_toArray, List.getElem?_cons_zero, List.getElem?_cons_succ]; rfl) (by kernel_rfl) (by exact fun _ _ _ h => h) (by first | (exact Or.inl ⟨by rfl, by intro w hSw; (try dsimp only at hSw); go_simp; with_reducible rfl⟩) | (exact Or.inr ⟨by rfl, by rfl⟩)) (by assumption) ?_
  try simp only [Act.put, List.setIfInBounds_toArray, List.set_cons_zero, List.set_cons_succ]
  refine tkI 6 (v := (.agg #[.string x.n, .string x.v])) (by simp only [List.getElem?_toArray, List.getElem?_cons_zero, List.getElem?_cons_succ]; rfl) (by kernel_rfl) (by exact fun _ _ _ h => h) (by refine yields_loadS nb 64 [.string x.n, .string x.v] aggEntryI (fun W hW j u hu => hW.2.at_ (64 + j) (Nd.ent HOKX.out j u (by simpa using hu))) ?_ _ rfl rfl; rfl) (by assumption) ?_
  try simp only [Act.put, List.setIfInBounds_toArray, List.set_cons_zero, List.set_cons_succ]
  refine wpAnyH_ready (rs := [4, 7]) (by kernel_rfl) (by simp) (AllReadyH.cons (o := ?oy3164) ?hy3164 (fun K hK => ?sy3164) (AllReadyH.cons (o := ?oy3167) ?hy3167 (fun K hK => ?sy3167) AllReadyH.nil))
  case hy3164 => simp only [List.getElem?_toArray, List.getElem?_cons_zero, List.getElem?_cons_succ]; rfl
  case hy3167 => simp only [List.getElem?_toArray, List.getElem?_cons_zero, List.getElem?_cons_succ]; rfl
  case sy3164 =>
    have s3 := HCd.out.blk.at_ 3 rfl
    go_simp
    refine hK.out _ _ hHeld (fun _ => ?_)
    clear hK K s3
    try simp only [Act.put, List.setIfInBounds_toArray, List.set_cons_zero, List.set_cons_succ]
    refine wpAnyH_ready (rs := [7]) (by kernel_rfl) (by simp) (AllReadyH.cons (o := ?oy3177) ?hy3177 (fun K hK => ?sy3177) AllReadyH.nil)
    case hy3177 => simp only [List.getElem?_toArray, List.getElem?_cons_zero, List.getElem?_cons_succ]; rfl
    go_simp
    have hH2 : Ext w0 (wd.alloc (.cells #[.string x.n, .string x.v] 50)) ∧ Blk (wd.alloc (.cells #[.string x.n, .string x.v] 50)) nb 52 x.enc.toArray := ⟨hHeld.1.alloc _, hHeld.2.alloc _⟩
    refine hK.out _ _ hH2 (fun _ => ?_)
    clear hK K hHeld
    have hHeld := hH2
    clear hH2
    try simp only [Act.put, List.setIfInBounds_toArray, List.set_cons_zero, List.set_cons_succ]
    have HCe := Lib.hid (HCd.out.go (ext_alloc wd (.cells #[.string x.n, .string x.v] 50)))
    refine wpAnyH_ready (rs := [8]) (by kernel_rfl) (by simp) (AllReadyH.cons (o := ?oy3188) ?hy3188 (fun K hK => ?sy3188) AllReadyH.nil)
    case hy3188 => simp only [List.getElem?_toArray, List.getElem?_cons_zero, List.getElem?_cons_succ]; rfl
    refine stp_append rowEnt rfl _ _ rfl (v := v3) rfl HCe.out.own _ _ rfl (A := some ⟨wd.heap.size, 0, none⟩) (ys := [(x.n, x.v)]) rfl (rd_ent wd (x.n, x.v) _) (by intro y hy; obtain rfl := List.mem_singleton.1 hy; exact HXE.out) (by have := hle.o; simp only [List.length_singleton] at *; omega) HCe.out.ext.size ?_
    intro v4 w4 ho1 hg1 hat1
    obtain ⟨B4, m4, k4, rfl⟩ := ho1.shape3
    have HN4 := Lib.hid (hHeld.2.cx HCe.out (HCe.out.again.app ho1 hg1 hat1) hgn (by decide))
    have HC4 := Lib.hid (HCe.out.app ho1 hg1 hat1)
    have hH2 : Ext w0 w4 ∧ Blk w4 nb 52 x.enc.toArray := ⟨HC4.out.ext, HN4.out⟩
    refine hK.out _ _ hH2 (fun _ => ?_)
    clear hK K ho1 hg1 hat1 hHeld
    have hHeld := hH2
    clear hH2
    try simp only [Act.put, List.setIfInBounds_toArray, List.set_cons_zero, List.set_cons_succ]
    refine tkI 9 (by simp only [List.getElem?_toArray, List.getElem?_cons_zero, List.getElem?_cons_succ]; rfl) (by kernel_rfl) (by exact fun _ _ _ h => h) (by first | (exact Or.inl ⟨by rfl, by intro w hSw; (try dsimp only at hSw); go_simp; with_reducible rfl⟩) | (exact Or.inr ⟨by rfl, by rfl⟩)) (by assumption) ?_
    try simp only [Act.put, List.setIfInBounds_toArray, List.set_cons_zero, List.set_cons_succ]
    refine tkI 10 (by simp only [List.getElem?_toArray, List.getElem?_cons_zero, List.getElem?_cons_succ]; rfl) (by kernel_rfl) (by exact fun _ _ _ h => h) (by first | (exact Or.inl ⟨by rfl, by intro w hSw; (try dsimp only at hSw); go_simp; with_reducible rfl⟩) | (exact Or.inr ⟨by rfl, by rfl⟩)) (by assumption) ?_
    try simp only [Act.put, List.setIfInBounds_toArray, List.set_cons_zero, List.set_cons_succ]
    refine wpAnyH_ready (rs := [11]) (by kernel_rfl) (by simp) (AllReadyH.cons (o := ?oy32111) ?hy32111 (fun K hK => ?sy32111) AllReadyH.nil)
    case hy32111 => simp only [List.getElem?_toArray, List.getElem?_cons_zero, List.getElem?_cons_succ]; rfl
    have s3 := HC4.out.blk.at_ 3 rfl
    have t3 := HC4.out.blk.free 3
    go_simp
    have HC5 := Lib.hid (show Cx 62 w0 w (w4.setCell ⟨g, 3, none⟩ (.slice B4 m4 k4)) g #[.string fr, .string to, .slice A3 s1.R.length c3, .slice B4 m4 k4, .bool s1.bad] vO (.slice B4 m4 k4) (s1.O ++ [(x.n, x.v)]) from HC4.out.set 3 _)
    have HN5 := Lib.hid (HN4.out.far (p := ⟨g, 3, none⟩) hgn (.slice B4 m4 k4))
    have hH2 : Ext w0 (w4.setCell ⟨g, 3, none⟩ (.slice B4 m4 k4)) ∧ Blk (w4.setCell ⟨g, 3, none⟩ (.slice B4 m4 k4)) nb 52 x.enc.toArray := ⟨HC5.out.ext, HN5.out⟩
    refine hK.out _ _ hH2 (fun _ => ?_)
    clear hK K hHeld hH2 s3 t3
    try simp only [Act.put, List.setIfInBounds_toArray, List.set_cons_zero, List.set_cons_succ]
    refine wpAnyH_done (by kernel_rfl) ?_ _
    generalize w4.setCell ⟨g, 3, none⟩ (.slice B4 m4 k4) = w5 at HC5 HN5 ⊢
    clear HC4 HN4
    have a0 := HC5.out.blk.at_ 0 rfl
    have a1 := HC5.out.blk.at_ 1 rfl
    have hrk := HOKX.out.2.1.1
    go_wp2_with (refine wpl_loadP (off := 32) (sub := numsA .u8 x.r) HN5.out aggKey (sizeN hrk) (Nd.right HOKX.out) rfl _ rfl rfl ?_)
    refine (ih fr to w0 S0 x.r x.n hi false ⟨s1.R, (s1.O ++ [(x.n, x.v)]), s1.bad⟩ (by have := hle.r; have := hlen; first | exact hlen | (show s1.R.length ≤ f; exact Nat.le_trans hle.r hlen)) (by have := hle.o; have := hle.r; simp only [List.length_append, List.length_singleton] at *; omega) (fun y hy => HOK.out y (hle.m y hy)) HOKX.out.2.1 _ g A3 c3 (.slice B4 m4 k4) HR3.out HC5.out.again).mono ?_
    rintro e w11 ⟨A9, c9, v9, rfl, hr9, hc9⟩
    rw [hs9] at hr9 hc9
    have HC11 := Lib.hid (HC5.out.call hc9)
    have HR9 := Lib.hid hr9
    clear hr9 hc9
    go_wp2
    first | (refine bodyPost_ret (results_none rfl _ _ _) rfl ?_) | (refine bodyPost_end (results_none rfl _ _ _) rfl ?_)
    exact ⟨A9, c9, v9, rfl, HR9.out, HC11.out⟩
  case sy3167 =>
    go_simp
    have hH2 : Ext w0 (wd.alloc (.cells #[.string x.n, .string x.v] 50)) ∧ Blk (wd.alloc (.cells #[.string x.n, .string x.v] 50)) nb 52 x.enc.toArray := ⟨hHeld.1.alloc _, hHeld.2.alloc _⟩
    refine hK.out _ _ hH2 (fun _ => ?_)
    clear hK K hHeld
    have hHeld := hH2
    clear hH2
    try simp only [Act.put, List.setIfInBounds_toArray, List.set_cons_zero, List.set_cons_succ]
    have HCe := Lib.hid (HCd.out.go (ext_alloc wd (.cells #[.string x.n, .string x.v] 50)))
    refine wpAnyH_ready (rs := [4]) (by kernel_rfl) (by simp) (AllReadyH.cons (o := ?oy3224) ?hy3224 (fun K hK => ?sy3224) AllReadyH.nil)
    case hy3224 => simp only [List.getElem?_toArray, List.getElem?_cons_zero, List.getElem?_cons_succ]; rfl
    have s3 := HCe.out.blk.at_ 3 rfl
    go_simp
    refine hK.out _ _ hHeld (fun _ => ?_)
    clear hK K s3
    try simp only [Act.put, List.setIfInBounds_toArray, List.set_cons_zero, List.set_cons_succ]
    refine wpAnyH_ready (rs := [8]) (by kernel_rfl) (by simp) (AllReadyH.cons (o := ?oy3238) ?hy3238 (fun K hK => ?sy3238) AllReadyH.nil)
    case hy3238 => simp only [List.getElem?_toArray, List.getElem?_cons_zero, List.getElem?_cons_succ]; rfl
    refine stp_append rowEnt rfl _ _ rfl (v := v3) rfl HCe.out.own _ _ rfl (A := some ⟨wd.heap.size, 0, none⟩) (ys := [(x.n, x.v)]) rfl (rd_ent wd (x.n, x.v) _) (by intro y hy; obtain rfl := List.mem_singleton.1 hy; exact HXE.out) (by have := hle.o; simp only [List.length_singleton] at *; omega) HCe.out.ext.size ?_
    intro v4 w4 ho1 hg1 hat1
    obtain ⟨B4, m4, k4, rfl⟩ := ho1.shape3
    have HN4 := Lib.hid (hHeld.2.cx HCe.out (HCe.out.again.app ho1 hg1 hat1) hgn (by decide))
    have HC4 := Lib.hid (HCe.out.app ho1 hg1 hat1)
    have hH2 : Ext w0 w4 ∧ Blk w4 nb 52 x.enc.toArray := ⟨HC4.out.ext, HN4.out⟩
    refine hK.out _ _ hH2 (fun _ => ?_)
    clear hK K ho1 hg1 hat1 hHeld
    have hHeld := hH2
    clear hH2
    try simp only [Act.put, List.setIfInBounds_toArray, List.set_cons_zero, List.set_cons_succ]
    refine tkI 9 (by simp only [List.getElem?_toArray, List.getElem?_cons_zero, List.getElem?_cons_succ]; rfl) (by kernel_rfl) (by exact fun _ _ _ h => h) (by first | (exact Or.inl ⟨by rfl, by intro w hSw; (try dsimp only at hSw); go_simp; with_reducible rfl⟩) | (exact Or.inr ⟨by rfl, by rfl⟩)) (by assumption) ?_
    try simp only [Act.put, List.setIfInBounds_toArray, List.set_cons_zero, List.set_cons_succ]
    refine tkI 10 (by simp only [List.getElem?_toArray, List.getElem?_cons_zero, List.getElem?_cons_succ]; rfl) (by kernel_rfl) (by exact fun _ _ _ h => h) (by first | (exact Or.inl ⟨by rfl, by intro w hSw; (try dsimp only at hSw); go_simp; with_reducible rfl⟩) | (exact Or.inr ⟨by rfl, by rfl⟩)) (by assumption) ?_
    try simp only [Act.put, List.setIfInBounds_toArray, List.set_cons_zero, List.set_cons_succ]
    refine wpAnyH_ready (rs := [11]) (by kernel_rfl) (by simp) (AllReadyH.cons (o := ?oy32611) ?hy32611 (fun K hK => ?sy32611) AllReadyH.nil)
    case hy32611 => simp only [List.getElem?_toArray, List.getElem?_cons_zero, List.getElem?_cons_succ]; rfl
    have s3 := HC4.out.blk.at_ 3 rfl
    have t3 := HC4.out.blk.free 3
    go_simp
    have HC5 := Lib.hid (show Cx 62 w0 w (w4.setCell ⟨g, 3, none⟩ (.slice B4 m4 k4)) g #[.string fr, .string to, .slice A3 s1.R.length c3, .slice B4 m4 k4, .bool s1.bad] vO (.slice B4 m4 k4) (s1.O ++ [(x.n, x.v)]) from HC4.out.set 3 _)
    have HN5 := Lib.hid (HN4.out.far (p := ⟨g, 3, none⟩) hgn (.slice B4 m4 k4))
    have hH2 : Ext w0 (w4.setCell ⟨g, 3, none⟩ (.slice B4 m4 k4)) ∧ Blk (w4.setCell ⟨g, 3, none⟩ (.slice B4 m4 k4)) nb 52 x.enc.toArray := ⟨HC5.out.ext, HN5.out⟩
    refine hK.out _ _ hH2 (fun _ => ?_)
    clear hK K hHeld hH2 s3 t3
    try simp only [Act.put, List.setIfInBounds_toArray, List.set_cons_zero, List.set_cons_succ]
    refine wpAnyH_done (by kernel_rfl) ?_ _
    generalize w4.setCell ⟨g, 3, none⟩ (.slice B4 m4 k4) = w5 at HC5 HN5 ⊢
    clear HC4 HN4
    have a0 := HC5.out.blk.at_ 0 rfl
    have a1 := HC5.out.blk.at_ 1 rfl
    have hrk := HOKX.out.2.1.1
    go_wp2_with (refine wpl_loadP (off := 32) (sub := numsA .u8 x.r) HN5.out aggKey (sizeN hrk) (Nd.right HOKX.out) rfl _ rfl rfl ?_)
    refine (ih fr to w0 S0 x.r x.n hi false ⟨s1.R, (s1.O ++ [(x.n, x.v)]), s1.bad⟩ (by have := hle.r; have := hlen; first | exact hlen | (show s1.R.length ≤ f; exact Nat.le_trans hle.r hlen)) (by have := hle.o; have := hle.r; simp only [List.length_append, List.length_singleton] at *; omega) (fun y hy => HOK.out y (hle.m y hy)) HOKX.out.2.1 _ g A3 c3 (.slice B4 m4 k4) HR3.out HC5.out.again).mono ?_
    rintro e w11 ⟨A9, c9, v9, rfl, hr9, hc9⟩
    rw [hs9] at hr9 hc9
    have HC11 := Lib.hid (HC5.out.call hc9)
    have HR9 := Lib.hid hr9
    clear hr9 hc9
    go_wp2
    first | (refine bodyPost_ret (results_none rfl _ _ _) rfl ?_) | (refine bodyPost_end (results_none rfl _ _ _) rfl ?_)
    exact ⟨A9, c9, v9, rfl, HR9.out, HC11.out⟩
set_option maxHeartbeats 16000000 in
set_option maxRecDepth 100000 in
theorem tree_n_mid_out (f : Nat) (ih : TreeC f) (fr to : ByteArray) (w0 : World) (S0 : Nat → Prop) (K : List Int) (lo hi : ByteArray) (b : Bool) (x : Nd) (R' : List Nd) (O : List En) (hlen : R'.length ≤ f) (h64 : O.length + (R'.length + 1) ≤ 64) (hokx : x.ok) (hex : entB x.n x.v = true) (hok : ∀ y ∈ R', y.ok ∧ entB y.n y.v = true) (hKe : K ≠ emptyL) (hK : K32 K) (h1 : kN x = K) (h2 : ltB lo x.n = true) (hb : b = false) (h4 : ltB fr x.n = true) (h6 : ltB x.n to = false) (s1 : Sw) (hs1 : tr fr to f x.l lo x.n true ⟨R', O, false⟩ = s1) (hle : SwLe s1 ⟨R', O, false⟩)
    (w : World) (g : Nat) (A : Option Addr) (n c : Nat) (hn : n = R'.length + 1) (vO : Value) (hr : RdL tNd w0 S0 (.slice A n c) (x :: R')) (hC : Cx 62 w0 w w g #[.string fr, .string to, .slice A n c, vO, .bool false] vO vO O) (s9 : Sw) (hs9 : (⟨s1.R, s1.O, s1.bad⟩ : Sw) = s9) :
    Calls Try.prog 31 #[.pointer (some ⟨g, 0, none⟩), .agg (numsA .u8 K), .string lo, .string hi, .bool b] w fun e w' => ∃ A' c' vO', e = .returned (.tuple #[]) ∧ RdL tNd w0 S0 (.slice A' s9.R.length c') s9.R ∧
      Cx 62 w0 w w' g #[.string fr, .string to, .slice A' s9.R.length c', vO', .bool s9.bad] vO vO' s9.O := by
  have HXE := Lib.hid (show tEnt.ok (x.n, x.v) from hokx.2.2)
  subst hs9
  have HC := Lib.hid hC
  have HOKX := Lib.hid hokx
  have HEX := Lib.hid hex
  have HOK := Lib.hid hok
  have hkl := hK.1
  have HK := Lib.hid hK
  have heql : ∀ W, (binOp .eql 28 (.agg (numsA .u8 K)) (.agg (numsA .u8 emptyL))).run Try.prog W = .ok (.bool false) W := fun W => by
    have := run_eqKey K emptyL hK emptyL_ok W
    rw [decide_eq_false hKe] at this
    exact this
  obtain ⟨A', c', e9, hcap, hlen', hrd, hok9⟩ := id hr
  injection e9 with e91 e92 e93
  subst e91 e93
  obtain ⟨gn, on, rfl, hs0, hcx⟩ := hrd.elem hok9 0 (by simp)
  simp only [Nat.zero_mul, Nat.add_zero, List.getElem_cons_zero] at hcx
  have HD := Lib.hid (show ∀ W, Ext w0 W → ∀ j u, x.enc[j]? = some u → W.cell? ⟨gn, on + j, none⟩ = some u from fun W hW j u hu => hW.cell (hcx j u hu))
  have hcut := RdL.cutN (k := 1) hr (by simp [hn]) (by omega)
  rw [show n - 1 = R'.length by omega, show (x :: R').drop 1 = R' from rfl, show tNd.sz = 66 from rfl] at hcut
  obtain ⟨A2, hA2⟩ : ∃ A2, (if c = 1 then some (⟨gn, on, none⟩ : Addr) else (some (⟨gn, on, none⟩ : Addr)).map (·.add (1 * 66))) = A2 := ⟨_, rfl⟩
  obtain ⟨c2, hc2⟩ : ∃ c2, c - 1 = c2 := ⟨_, rfl⟩
  rw [hA2, hc2] at hcut
  have HSL := Lib.hid (show (Value.slice (if c = 1 then some (⟨gn, on, none⟩ : Addr) else (some (⟨gn, on, none⟩ : Addr)).map (·.add (1 * 66))) (n - 1) (c - 1)) = .slice A2 R'.length c2 by rw [hA2, hc2, show n - 1 = R'.length by omega])
  have HR2 := Lib.hid hcut
  have hn0 : ((n : Int) == 0) = false := by rw [beq_eq_false_iff_ne]; omega
  have hn1 : (0 : Int) < (n : Int) := by omega
  have hn2 : 1 ≤ n := by omega
  have HN := Lib.hid hn
  obtain ⟨m, hm⟩ : ∃ m, R'.length = m := ⟨_, rfl⟩
  have HM := Lib.hid hm
  have HST := Lib.hid (Nd.st hokx)
  have HGB := Lib.hid (show w0.heap.size ≤ g ∧ g < w.heap.size from ⟨hC.base, hC.lt⟩)
  have hneq : ∀ W, (binOp .neq 28 (.agg (numsA .u8 (kN x))) (.agg (numsA .u8 K))).run Try.prog W = .ok (.bool false) W := fun W => by
    have := run_neqKey (kN x) K (kN_ok x) HK.out W
    rw [decide_eq_true h1] at this
    exact this
  subst hb
  have hq1 : Op.bytesLess x.n.toList lo.toList = false := by rw [ltB_eq]; exact ltB_asymm h2
  have hq2 : (x.n.toList == lo.toList) = false := by rw [beq_eq_false_iff_ne]; exact fun e => ltB_ne h2 (toList_inj e).symm
  have hq4 : Op.bytesLess fr.toList x.n.toList = true := by rw [ltB_eq]; exact h4
  have hq5 : Op.bytesLess x.n.toList fr.toList = false := by rw [ltB_eq]; exact ltB_asymm h4
  have hq6 : Op.bytesLess x.n.toList to.toList = false := by rw [ltB_eq]; exact h6
  have hq7 : (x.n.toList == fr.toList) = false := by rw [beq_eq_false_iff_ne]; exact fun e => ltB_ne h4 (toList_inj e).symm
  clear hr hokx hex hok hcx hrd hok9 hcut hA2 hc2 hs0 hcap hlen' e92 hn hC hm h1
  have c0 := HC.out.blk.at_ 0 rfl
  have c1 := HC.out.blk.at_ 1 rfl
  have c2 := HC.out.blk.at_ 2 rfl
  have c3 := HC.out.blk.at_ 3 rfl
  have c4 := HC.out.blk.at_ 4 rfl
  have f2 := HC.out.blk.free 2
  have f3 := HC.out.blk.free 3
  have f4 := HC.out.blk.free 4
  go_enter Try.func31, Try.ntmps31
  go_wp2_with fail
  have HA := Lib.hid (HC.out.go (ext_alloc w (.cells (numsA .u8 K) 28)))
  have HKB := Lib.hid (Blk.new w 28 (numsA .u8 K))
  clear c0 c1 c2 c3 c4 f2 f3 f4
  generalize w.alloc (.cells (numsA .u8 K) 28) = wa at HA HKB ⊢
  have cd : ∀ W, Ext wa W → W.cell? ⟨g, 4, none⟩ = some (.bool false) := fun W hW => (HA.out.blk.ext hW).at_ 4 rfl
  refine wp_region_held_drew (S := fun W => Ext wa W) (by kernel_rfl) (Ext.refl _).drew (fun hHeld => ?_)
  iterate 5
    refine tkD 0 (by simp only [List.size_toArray, List.length_cons, List.length_nil]; rfl) (by simp only [List.getElem?_toArray, List.getElem?_cons_zero, List.getElem?_cons_succ]; rfl) (by kernel_rfl) (by exact fun _ _ _ h => h) (by first | (exact Or.inl ⟨by rfl, by intro w hSw; (try dsimp only at hSw); go_simp; with_reducible rfl⟩) | (exact Or.inr ⟨by rfl, by rfl⟩)) (by assumption) ?_
    try simp only [Act.put, List.setIfInBounds_toArray, List.set_cons_zero, List.set_cons_succ]
  refine tkI 5 (v := (.agg (numsA .u8 K))) (by simp only [List.getElem?_toArray, List.getElem?_cons_zero, List.getElem?_cons_succ]; rfl) (by kernel_rfl) (by exact fun _ _ _ h => h) (by refine yields_loadB HKB.out aggKey (sizeN hkl) ?_ _ rfl rfl; rfl) (by assumption) ?_
  try simp only [Act.put, List.setIfInBounds_toArray, List.set_cons_zero, List.set_cons_succ]
  refine wpAnyH_ready (rs := [6]) (by kernel_rfl) (by simp) (AllReadyH.cons (o := ?oy3336) ?hy3336 (fun K hK => ?sy3336) AllReadyH.nil)
  case hy3336 => simp only [List.getElem?_toArray, List.getElem?_cons_zero, List.getElem?_cons_succ]; rfl
  go_simp
  refine (l04Empty_any _).mono ?_
  rintro e w9 ⟨rfl, hx⟩
  have hH2 := hHeld.trans hx
  refine hK.out _ _ hH2 (fun _ => ?_)
  clear hHeld hK K
  have hHeld := hH2
  clear hH2
  try simp only [Act.put, List.setIfInBounds_toArray, List.set_cons_zero, List.set_cons_succ]
  iterate 2
    refine tkD 0 (by simp only [List.size_toArray, List.length_cons, List.length_nil]; rfl) (by simp only [List.getElem?_toArray, List.getElem?_cons_zero, List.getElem?_cons_succ]; rfl) (by kernel_rfl) (by exact fun _ _ _ h => h) (by first | (exact Or.inl ⟨by rfl, by intro w hSw; (try dsimp only at hSw); go_simp; with_reducible rfl⟩) | (exact Or.inr ⟨by rfl, by rfl⟩)) (by assumption) ?_
    try simp only [Act.put, List.setIfInBounds_toArray, List.set_cons_zero, List.set_cons_succ]
  refine wpAnyH_done (by kernel_rfl) ?_ _
  have hAx := HA.out.go hHeld
  have HK2 := Lib.hid (HKB.out.ext hHeld)
  clear cd hHeld
  revert hAx HK2
  skip
  intro hAx HK2
  have HB1 := Lib.hid hAx
  clear hAx HA HKB
  have HBa := Lib.hid (HB1.out.go (ext_alloc w9 (.cells x.enc.toArray 52)))
  have HNa := Lib.hid (Blk.new w9 52 x.enc.toArray)
  have hgn : w9.heap.size ≠ g := by have := HB1.out.blk.lt; omega
  have HBb := Lib.hid (show Cx 62 w0 w ((World.alloc w9 (.cells x.enc.toArray 52)).setCell ⟨g, 2, none⟩ (.slice A2 R'.length c2)) g #[.string fr, .string to, .slice A2 R'.length c2, vO, .bool false] vO vO O from HBa.out.set 2 _)
  have HNb := Lib.hid (show Blk ((World.alloc w9 (.cells x.enc.toArray 52)).setCell ⟨g, 2, none⟩ (.slice A2 R'.length c2)) w9.heap.size 52 x.enc.toArray from HNa.out.far hgn _)
  have HKb := Lib.hid (show Blk ((World.alloc w9 (.cells x.enc.toArray 52)).setCell ⟨g, 2, none⟩ (.slice A2 R'.length c2)) w.heap.size 28 (numsA .u8 K) from (HK2.out.alloc _).far (by have := HGB.out; show w.heap.size ≠ g; omega) _)
  have d2 := HB1.out.blk.at_ 2 rfl
  have e2 := HBa.out.blk.at_ 2 rfl
  have f2 := HBa.out.blk.free 2
  have c64 := HNb.out.at_ 64 (Nd.at64 HOKX.out)
  go_wp2_with (first
    | (refine wpl_load ⟨gn, on, none⟩ x.enc (by rw [Nd.enc_length HOKX.out]; exact aggNodeI) rfl _ rfl rfl (fun j u hu => by rw [Addr.add_lit]; exact HD.out _ HB1.out.ext j u hu) ?_)
    | (refine wpl_storeNewB aggNodeI HST.out rfl rfl _ _ rfl rfl rfl rfl ?_)
    | (refine wpl_cut1 (sz := 66) (A := some ⟨gn, on, none⟩) (n := n) (c := c) (by kernel_rfl) (by kernel_rfl) rfl _ rfl rfl hn2 ?_; rw [HSL.out]))
  obtain ⟨nb, hnb⟩ : ∃ nb, w9.heap.size = nb := ⟨_, rfl⟩
  rw [hnb] at HNb hgn ⊢
  generalize (World.alloc w9 (.cells x.enc.toArray 52)).setCell ⟨g, 2, none⟩ (.slice A2 R'.length c2) = wb at HBb HNb HKb ⊢
  clear d2 e2 f2 c64 HBa HNa hnb HB1 HK2
  refine wp_region_held_drew (S := fun W => Ext wb W) (by kernel_rfl) (Ext.refl _).drew (fun hHeld => ?_)
  refine tkI 1 (v := (.agg (numsA .u8 K))) (by simp only [List.getElem?_toArray, List.getElem?_cons_zero, List.getElem?_cons_succ]; rfl) (by kernel_rfl) (by exact fun _ _ _ h => h) (by refine yields_loadB HKb.out aggKey (sizeN hkl) ?_ _ rfl rfl; rfl) (by assumption) ?_
  try simp only [Act.put, List.setIfInBounds_toArray, List.set_cons_zero, List.set_cons_succ]
  refine wpAnyH_ready (rs := [0]) (by kernel_rfl) (by simp) (AllReadyH.cons (o := ?oy3370) ?hy3370 (fun K hK => ?sy3370) AllReadyH.nil)
  case hy3370 => simp only [List.getElem?_toArray, List.getElem?_cons_zero, List.getElem?_cons_succ]; rfl
  go_simp
  refine (l04NodeKey_any x HOKX.out HEX.out nb _ (HNb.out.ext hHeld)).mono ?_
  rintro e w7 ⟨rfl, hx⟩
  have hH2 := hHeld.trans hx
  refine hK.out _ _ hH2 (fun _ => ?_)
  clear hHeld hK K
  have hHeld := hH2
  clear hH2
  try simp only [Act.put, List.setIfInBounds_toArray, List.set_cons_zero, List.set_cons_succ]
  try rw [show hashL 5 (nodeL x) = kN x by rw [kN]]
  iterate 14
    refine tkD 0 (by simp only [List.size_toArray, List.length_cons, List.length_nil]; rfl) (by simp only [List.getElem?_toArray, List.getElem?_cons_zero, List.getElem?_cons_succ]; rfl) (by kernel_rfl) (by exact fun _ _ _ h => h) (by first | (exact Or.inl ⟨by rfl, by intro w hSw; (try dsimp only at hSw); go_simp; with_reducible rfl⟩) | (exact Or.inr ⟨by rfl, by rfl⟩)) (by assumption) ?_
    try simp only [Act.put, List.setIfInBounds_toArray, List.set_cons_zero, List.set_cons_succ]
  refine wpAnyH_done (by kernel_rfl) ?_ _
  have HC7 := Lib.hid (HBb.out.go hHeld)
  have HN7 := Lib.hid (HNb.out.ext hHeld)
  clear hHeld HBb HNb HKb
  have a0 := HC7.out.blk.at_ 0 rfl
  have a1 := HC7.out.blk.at_ 1 rfl
  have hl := HOKX.out.1.1
  go_wp2_with (refine wpl_loadP (off := 0) (sub := numsA .u8 x.l) HN7.out aggKey (sizeN hl) (Nd.left HOKX.out) rfl _ rfl rfl ?_)
  refine (ih fr to w0 S0 x.l lo x.n true ⟨R', O, false⟩ hlen (by show O.length + R'.length ≤ 64; omega) HOK.out HOKX.out.1 w7 g A2 c2 vO HR2.out HC7.out.again).mono ?_
  rintro e w8 ⟨A3, c3, v3, rfl, hr3, hc3⟩
  rw [hs1] at hr3 hc3
  have HN8 := Lib.hid (HN7.out.cx HC7.out hc3 hgn (by decide))
  have HC8 := Lib.hid (HC7.out.call hc3)
  have HR3 := Lib.hid hr3
  clear hr3 hc3 a0 a1 HC7 HN7
  have a0 := HC8.out.blk.at_ 0 rfl
  have a1 := HC8.out.blk.at_ 1 rfl
  go_wp2
  first | (refine bodyPost_ret (results_none rfl _ _ _) rfl ?_) | (refine bodyPost_end (results_none rfl _ _ _) rfl ?_)
  exact ⟨A3, c3, v3, rfl, HR3.out, HC8.out⟩
set_option maxHeartbeats 16000000 in
set_option maxRecDepth 100000 in
theorem tree_n_eq_in (f : Nat) (ih : TreeC f) (fr to : ByteArray) (w0 : World) (S0 : Nat → Prop) (K : List Int) (lo hi : ByteArray) (b : Bool) (x : Nd) (R' : List Nd) (O : List En) (hlen : R'.length ≤ f) (h64 : O.length + (R'.length + 1) ≤ 64) (hokx : x.ok) (hex : entB x.n x.v = true) (hok : ∀ y ∈ R', y.ok ∧ entB y.n y.v = true) (hKe : K ≠ emptyL) (hK : K32 K) (h1 : kN x = K) (h2 : ltB lo x.n = true) (hb : b = false) (h4 : ltB fr x.n = false) (h5 : ltB x.n fr = false) (h6 : ltB x.n to = true) (s1 : Sw) (hs1 : (⟨R', O, false⟩ : Sw) = s1) (hle : SwLe s1 ⟨R', O, false⟩)
    (w : World) (g : Nat) (A : Option Addr) (n c : Nat) (hn : n = R'.length + 1) (vO : Value) (hr : RdL tNd w0 S0 (.slice A n c) (x :: R')) (hC : Cx 62 w0 w w g #[.string fr, .string to, .slice A n c, vO, .bool false] vO vO O) (s9 : Sw) (hs9 : tr fr to f x.r x.n hi b (⟨R', O ++ [(x.n, x.v)], false⟩ : Sw) = s9) :
    Calls Try.prog 31 #[.pointer (some ⟨g, 0, none⟩), .agg (numsA .u8 K), .string lo, .string hi, .bool b] w fun e w' => ∃ A' c' vO', e = .returned (.tuple #[]) ∧ RdL tNd w0 S0 (.slice A' s9.R.length c') s9.R ∧
      Cx 62 w0 w w' g #[.string fr, .string to, .slice A' s9.R.length c', vO', .bool s9.bad] vO vO' s9.O := by
  have HXE := Lib.hid (show tEnt.ok (x.n, x.v) from hokx.2.2)
  subst hs1
  have HC := Lib.hid hC
  have HOKX := Lib.hid hokx
  have HEX := Lib.hid hex
  have HOK := Lib.hid hok
  have hkl := hK.1
  have HK := Lib.hid hK
  have heql : ∀ W, (binOp .eql 28 (.agg (numsA .u8 K)) (.agg (numsA .u8 emptyL))).run Try.prog W = .ok (.bool false) W := fun W => by
    have := run_eqKey K emptyL hK emptyL_ok W
    rw [decide_eq_false hKe] at this
    exact this
  obtain ⟨A', c', e9, hcap, hlen', hrd, hok9⟩ := id hr
  injection e9 with e91 e92 e93
  subst e91 e93
  obtain ⟨gn, on, rfl, hs0, hcx⟩ := hrd.elem hok9 0 (by simp)
  simp only [Nat.zero_mul, Nat.add_zero, List.getElem_cons_zero] at hcx
  have HD := Lib.hid (show ∀ W, Ext w0 W → ∀ j u, x.enc[j]? = some u → W.cell? ⟨gn, on + j, none⟩ = some u from fun W hW j u hu => hW.cell (hcx j u hu))
  have hcut := RdL.cutN (k := 1) hr (by simp [hn]) (by omega)
  rw [show n - 1 = R'.length by omega, show (x :: R').drop 1 = R' from rfl, show tNd.sz = 66 from rfl] at hcut
  obtain ⟨A2, hA2⟩ : ∃ A2, (if c = 1 then some (⟨gn, on, none⟩ : Addr) else (some (⟨gn, on, none⟩ : Addr)).map (·.add (1 * 66))) = A2 := ⟨_, rfl⟩
  obtain ⟨c2, hc2⟩ : ∃ c2, c - 1 = c2 := ⟨_, rfl⟩
  rw [hA2, hc2] at hcut
  have HSL := Lib.hid (show (Value.slice (if c = 1 then some (⟨gn, on, none⟩ : Addr) else (some (⟨gn, on, none⟩ : Addr)).map (·.add (1 * 66))) (n - 1) (c - 1)) = .slice A2 R'.length c2 by rw [hA2, hc2, show n - 1 = R'.length by omega])
  have HR2 := Lib.hid hcut
  have hn0 : ((n : Int) == 0) = false := by rw [beq_eq_false_iff_ne]; omega
  have hn1 : (0 : Int) < (n : Int) := by omega
  have hn2 : 1 ≤ n := by omega
  have HN := Lib.hid hn
  obtain ⟨m, hm⟩ : ∃ m, R'.length = m := ⟨_, rfl⟩
  have HM := Lib.hid hm
  have HST := Lib.hid (Nd.st hokx)
  have HGB := Lib.hid (show w0.heap.size ≤ g ∧ g < w.heap.size from ⟨hC.base, hC.lt⟩)
  have hneq : ∀ W, (binOp .neq 28 (.agg (numsA .u8 (kN x))) (.agg (numsA .u8 K))).run Try.prog W = .ok (.bool false) W := fun W => by
    have := run_neqKey (kN x) K (kN_ok x) HK.out W
    rw [decide_eq_true h1] at this
    exact this
  subst hb
  have hq1 : Op.bytesLess x.n.toList lo.toList = false := by rw [ltB_eq]; exact ltB_asymm h2
  have hq2 : (x.n.toList == lo.toList) = false := by rw [beq_eq_false_iff_ne]; exact fun e => ltB_ne h2 (toList_inj e).symm
  have hq4 : Op.bytesLess fr.toList x.n.toList = false := by rw [ltB_eq]; exact h4
  have hq5 : Op.bytesLess x.n.toList fr.toList = false := by rw [ltB_eq]; exact h5
  have hq6 : Op.bytesLess x.n.toList to.toList = true := by rw [ltB_eq]; exact h6
  have hq7 : (x.n.toList == fr.toList) = true := by rw [ltB_total h5 h4]; simp
  clear hr hokx hex hok hcx hrd hok9 hcut hA2 hc2 hs0 hcap hlen' e92 hn hC hm h1
  have c0 := HC.out.blk.at_ 0 rfl
  have c1 := HC.out.blk.at_ 1 rfl
  have c2 := HC.out.blk.at_ 2 rfl
  have c3 := HC.out.blk.at_ 3 rfl
  have c4 := HC.out.blk.at_ 4 rfl
  have f2 := HC.out.blk.free 2
  have f3 := HC.out.blk.free 3
  have f4 := HC.out.blk.free 4
  go_enter Try.func31, Try.ntmps31
  go_wp2_with fail
  have HA := Lib.hid (HC.out.go (ext_alloc w (.cells (numsA .u8 K) 28)))
  have HKB := Lib.hid (Blk.new w 28 (numsA .u8 K))
  clear c0 c1 c2 c3 c4 f2 f3 f4
  generalize w.alloc (.cells (numsA .u8 K) 28) = wa at HA HKB ⊢
  have cd : ∀ W, Ext wa W → W.cell? ⟨g, 4, none⟩ = some (.bool false) := fun W hW => (HA.out.blk.ext hW).at_ 4 rfl
  refine wp_region_held_drew (S := fun W => Ext wa W) (by kernel_rfl) (Ext.refl _).drew (fun hHeld => ?_)
  iterate 5
    refine tkD 0 (by simp only [List.size_toArray, List.length_cons, List.length_nil]; rfl) (by simp only [List.getElem?_toArray, List.getElem?_cons_zero, List.getElem?_cons_succ]; rfl) (by kernel_rfl) (by exact fun _ _ _ h => h) (by first | (exact Or.inl ⟨by rfl, by intro w hSw; (try dsimp only at hSw); go_simp; with_reducible rfl⟩) | (exact Or.inr ⟨by rfl, by rfl⟩)) (by assumption) ?_
    try simp only [Act.put, List.setIfInBounds_toArray, List.set_cons_zero, List.set_cons_succ]
  refine tkI 5 (v := (.agg (numsA .u8 K))) (by simp only [List.getElem?_toArray, List.getElem?_cons_zero, List.getElem?_cons_succ]; rfl) (by kernel_rfl) (by exact fun _ _ _ h => h) (by refine yields_loadB HKB.out aggKey (sizeN hkl) ?_ _ rfl rfl; rfl) (by assumption) ?_
  try simp only [Act.put, List.setIfInBounds_toArray, List.set_cons_zero, List.set_cons_succ]
  refine wpAnyH_ready (rs := [6]) (by kernel_rfl) (by simp) (AllReadyH.cons (o := ?oy3586) ?hy3586 (fun K hK => ?sy3586) AllReadyH.nil)
  case hy3586 => simp only [List.getElem?_toArray, List.getElem?_cons_zero, List.getElem?_cons_succ]; rfl
  go_simp
  refine (l04Empty_any _).mono ?_
  rintro e w9 ⟨rfl, hx⟩
  have hH2 := hHeld.trans hx
  refine hK.out _ _ hH2 (fun _ => ?_)
  clear hHeld hK K
  have hHeld := hH2
  clear hH2
  try simp only [Act.put, List.setIfInBounds_toArray, List.set_cons_zero, List.set_cons_succ]
  iterate 2
    refine tkD 0 (by simp only [List.size_toArray, List.length_cons, List.length_nil]; rfl) (by simp only [List.getElem?_toArray, List.getElem?_cons_zero, List.getElem?_cons_succ]; rfl) (by kernel_rfl) (by exact fun _ _ _ h => h) (by first | (exact Or.inl ⟨by rfl, by intro w hSw; (try dsimp only at hSw); go_simp; with_reducible rfl⟩) | (exact Or.inr ⟨by rfl, by rfl⟩)) (by assumption) ?_
    try simp only [Act.put, List.setIfInBounds_toArray, List.set_cons_zero, List.set_cons_succ]
  refine wpAnyH_done (by kernel_rfl) ?_ _
  have hAx := HA.out.go hHeld
  have HK2 := Lib.hid (HKB.out.ext hHeld)
  clear cd hHeld
  revert hAx HK2
  skip
  intro hAx HK2
  have HB1 := Lib.hid hAx
  clear hAx HA HKB
  have HBa := Lib.hid (HB1.out.go (ext_alloc w9 (.cells x.enc.toArray 52)))
  have HNa := Lib.hid (Blk.new w9 52 x.enc.toArray)
  have hgn : w9.heap.size ≠ g := by have := HB1.out.blk.lt; omega
  have HBb := Lib.hid (show Cx 62 w0 w ((World.alloc w9 (.cells x.enc.toArray 52)).setCell ⟨g, 2, none⟩ (.slice A2 R'.length c2)) g #[.string fr, .string to, .slice A2 R'.length c2, vO, .bool false] vO vO O from HBa.out.set 2 _)
  have HNb := Lib.hid (show Blk ((World.alloc w9 (.cells x.enc.toArray 52)).setCell ⟨g, 2, none⟩ (.slice A2 R'.length c2)) w9.heap.size 52 x.enc.toArray from HNa.out.far hgn _)
  have HKb := Lib.hid (show Blk ((World.alloc w9 (.cells x.enc.toArray 52)).setCell ⟨g, 2, none⟩ (.slice A2 R'.length c2)) w.heap.size 28 (numsA .u8 K) from (HK2.out.alloc _).far (by have := HGB.out; show w.heap.size ≠ g; omega) _)
  have d2 := HB1.out.blk.at_ 2 rfl
  have e2 := HBa.out.blk.at_ 2 rfl
  have f2 := HBa.out.blk.free 2
  have c64 := HNb.out.at_ 64 (Nd.at64 HOKX.out)
  go_wp2_with (first
    | (refine wpl_load ⟨gn, on, none⟩ x.enc (by rw [Nd.enc_length HOKX.out]; exact aggNodeI) rfl _ rfl rfl (fun j u hu => by rw [Addr.add_lit]; exact HD.out _ HB1.out.ext j u hu) ?_)
    | (refine wpl_storeNewB aggNodeI HST.out rfl rfl _ _ rfl rfl rfl rfl ?_)
    | (refine wpl_cut1 (sz := 66) (A := some ⟨gn, on, none⟩) (n := n) (c := c) (by kernel_rfl) (by kernel_rfl) rfl _ rfl rfl hn2 ?_; rw [HSL.out]))
  obtain ⟨nb, hnb⟩ : ∃ nb, w9.heap.size = nb := ⟨_, rfl⟩
  rw [hnb] at HNb hgn ⊢
  generalize (World.alloc w9 (.cells x.enc.toArray 52)).setCell ⟨g, 2, none⟩ (.slice A2 R'.length c2) = wb at HBb HNb HKb ⊢
  clear d2 e2 f2 c64 HBa HNa hnb HB1 HK2
  refine wp_region_held_drew (S := fun W => Ext wb W) (by kernel_rfl) (Ext.refl _).drew (fun hHeld => ?_)
  refine tkI 1 (v := (.agg (numsA .u8 K))) (by simp only [List.getElem?_toArray, List.getElem?_cons_zero, List.getElem?_cons_succ]; rfl) (by kernel_rfl) (by exact fun _ _ _ h => h) (by refine yields_loadB HKb.out aggKey (sizeN hkl) ?_ _ rfl rfl; rfl) (by assumption) ?_
  try simp only [Act.put, List.setIfInBounds_toArray, List.set_cons_zero, List.set_cons_succ]
  refine wpAnyH_ready (rs := [0]) (by kernel_rfl) (by simp) (AllReadyH.cons (o := ?oy3620) ?hy3620 (fun K hK => ?sy3620) AllReadyH.nil)
  case hy3620 => simp only [List.getElem?_toArray, List.getElem?_cons_zero, List.getElem?_cons_succ]; rfl
  go_simp
  refine (l04NodeKey_any x HOKX.out HEX.out nb _ (HNb.out.ext hHeld)).mono ?_
  rintro e w7 ⟨rfl, hx⟩
  have hH2 := hHeld.trans hx
  refine hK.out _ _ hH2 (fun _ => ?_)
  clear hHeld hK K
  have hHeld := hH2
  clear hH2
  try simp only [Act.put, List.setIfInBounds_toArray, List.set_cons_zero, List.set_cons_succ]
  try rw [show hashL 5 (nodeL x) = kN x by rw [kN]]
  iterate 14
    refine tkD 0 (by simp only [List.size_toArray, List.length_cons, List.length_nil]; rfl) (by simp only [List.getElem?_toArray, List.getElem?_cons_zero, List.getElem?_cons_succ]; rfl) (by kernel_rfl) (by exact fun _ _ _ h => h) (by first | (exact Or.inl ⟨by rfl, by intro w hSw; (try dsimp only at hSw); go_simp; with_reducible rfl⟩) | (exact Or.inr ⟨by rfl, by rfl⟩)) (by assumption) ?_
    try simp only [Act.put, List.setIfInBounds_toArray, List.set_cons_zero, List.set_cons_succ]
  refine wpAnyH_done (by kernel_rfl) ?_ _
  have HC7 := Lib.hid (HBb.out.go hHeld)
  have HN7 := Lib.hid (HNb.out.ext hHeld)
  clear hHeld HBb HNb HKb
  have a0 := HC7.out.blk.at_ 0 rfl
  have a1 := HC7.out.blk.at_ 1 rfl
  go_wp2_with fail
  refine wp_region_held_drew (S := fun W => Ext w0 W ∧ Blk W nb 52 x.enc.toArray) (by kernel_rfl) ⟨HC7.out.ext.drew, HN7.out⟩ (fun hHeld => ?_)
  have HCd := Lib.hid (HC7.out.go (Ext.refl _).drew)
  generalize World.drew w7 = wd at hHeld HCd ⊢
  clear a0 a1
  iterate 4
    refine tkD 0 (by simp only [List.size_toArray, List.length_cons, List.length_nil]; rfl) (by simp only [List.getElem?_toArray, List.getElem?_cons_zero, List.getElem?_cons_succ]; rfl) (by kernel_rfl) (by exact fun _ _ _ h => h) (by first | (exact Or.inl ⟨by rfl, by intro w hSw; (try dsimp only at hSw); go_simp; with_reducible rfl⟩) | (exact Or.inr ⟨by rfl, by rfl⟩)) (by assumption) ?_
    try simp only [Act.put, List.setIfInBounds_toArray, List.set_cons_zero, List.set_cons_succ]
  refine tkI 5 (by simp only [List.getElem?_toArray, List.getElem?_cons_zero, List.getElem?_cons_succ]; rfl) (by kernel_rfl) (by exact fun _ _ _ h => h) (by first | (exact Or.inl ⟨by rfl, by intro w hSw; (try dsimp only at hSw); go_simp; with_reducible rfl⟩) | (exact Or.inr ⟨by rfl, by rfl⟩)) (by assumption) ?_
  try simp only [Act.put, List.setIfInBounds_toArray, List.set_cons_zero, List.set_cons_succ]
  refine tkI 6 (v := (.agg #[.string x.n, .string x.v])) (by simp only [List.getElem?_toArray, List.getElem?_cons_zero, List.getElem?_cons_succ]; rfl) (by kernel_rfl) (by exact fun _ _ _ h => h) (by refine yields_loadS nb 64 [.string x.n, .string x.v] aggEntryI (fun W hW j u hu => hW.2.at_ (64 + j) (Nd.ent HOKX.out j u (by simpa using hu))) ?_ _ rfl rfl; rfl) (by assumption) ?_
  try simp only [Act.put, List.setIfInBounds_toArray, List.set_cons_zero, List.set_cons_succ]
  refine wpAnyH_ready (rs := [4, 7]) (by kernel_rfl) (by simp) (AllReadyH.cons (o := ?oy3834) ?hy3834 (fun K hK => ?sy3834) (AllReadyH.cons (o := ?oy3837) ?hy3837 (fun K hK => ?sy3837) AllReadyH.nil))
  case hy3834 => simp only [List.getElem?_toArray, List.getElem?_cons_zero, List.getElem?_cons_succ]; rfl
  case hy3837 => simp only [List.getElem?_toArray, List.getElem?_cons_zero, List.getElem?_cons_succ]; rfl
  case sy3834 =>
    have s3 := HCd.out.blk.at_ 3 rfl
    go_simp
    refine hK.out _ _ hHeld (fun _ => ?_)
    clear hK K s3
    try simp only [Act.put, List.setIfInBounds_toArray, List.set_cons_zero, List.set_cons_succ]
    refine wpAnyH_ready (rs := [7]) (by kernel_rfl) (by simp) (AllReadyH.cons (o := ?oy3847) ?hy3847 (fun K hK => ?sy3847) AllReadyH.nil)
    case hy3847 => simp only [List.getElem?_toArray, List.getElem?_cons_zero, List.getElem?_cons_succ]; rfl
    go_simp
    have hH2 : Ext w0 (wd.alloc (.cells #[.string x.n, .string x.v] 50)) ∧ Blk (wd.alloc (.cells #[.string x.n, .string x.v] 50)) nb 52 x.enc.toArray := ⟨hHeld.1.alloc _, hHeld.2.alloc _⟩
    refine hK.out _ _ hH2 (fun _ => ?_)
    clear hK K hHeld
    have hHeld := hH2
    clear hH2
    try simp only [Act.put, List.setIfInBounds_toArray, List.set_cons_zero, List.set_cons_succ]
    have HCe := Lib.hid (HCd.out.go (ext_alloc wd (.cells #[.string x.n, .string x.v] 50)))
    refine wpAnyH_ready (rs := [8]) (by kernel_rfl) (by simp) (AllReadyH.cons (o := ?oy3858) ?hy3858 (fun K hK => ?sy3858) AllReadyH.nil)
    case hy3858 => simp only [List.getElem?_toArray, List.getElem?_cons_zero, List.getElem?_cons_succ]; rfl
    refine stp_append rowEnt rfl _ _ rfl (v := vO) rfl HCe.out.own _ _ rfl (A := some ⟨wd.heap.size, 0, none⟩) (ys := [(x.n, x.v)]) rfl (rd_ent wd (x.n, x.v) _) (by intro y hy; obtain rfl := List.mem_singleton.1 hy; exact HXE.out) (by have := hle.o; simp only [List.length_singleton] at *; omega) HCe.out.ext.size ?_
    intro v4 w4 ho1 hg1 hat1
    obtain ⟨B4, m4, k4, rfl⟩ := ho1.shape3
    have HN4 := Lib.hid (hHeld.2.cx HCe.out (HCe.out.again.app ho1 hg1 hat1) hgn (by decide))
    have HC4 := Lib.hid (HCe.out.app ho1 hg1 hat1)
    have hH2 : Ext w0 w4 ∧ Blk w4 nb 52 x.enc.toArray := ⟨HC4.out.ext, HN4.out⟩
    refine hK.out _ _ hH2 (fun _ => ?_)
    clear hK K ho1 hg1 hat1 hHeld
    have hHeld := hH2
    clear hH2
    try simp only [Act.put, List.setIfInBounds_toArray, List.set_cons_zero, List.set_cons_succ]
    refine tkI 9 (by simp only [List.getElem?_toArray, List.getElem?_cons_zero, List.getElem?_cons_succ]; rfl) (by kernel_rfl) (by exact fun _ _ _ h => h) (by first | (exact Or.inl ⟨by rfl, by intro w hSw; (try dsimp only at hSw); go_simp; with_reducible rfl⟩) | (exact Or.inr ⟨by rfl, by rfl⟩)) (by assumption) ?_
    try simp only [Act.put, List.setIfInBounds_toArray, List.set_cons_zero, List.set_cons_succ]
    refine tkI 10 (by simp only [List.getElem?_toArray, List.getElem?_cons_zero, List.getElem?_cons_succ]; rfl) (by kernel_rfl) (by exact fun _ _ _ h => h) (by first | (exact Or.inl ⟨by rfl, by intro w hSw; (try dsimp only at hSw); go_simp; with_reducible rfl⟩) | (exact Or.inr ⟨by rfl, by rfl⟩)) (by assumption) ?_
    try simp only [Act.put, List.setIfInBounds_toArray, List.set_cons_zero, List.set_cons_succ]
    refine wpAnyH_ready (rs := [11]) (by kernel_rfl) (by simp) (AllReadyH.cons (o := ?oy38811) ?hy38811 (fun K hK => ?sy38811) AllReadyH.nil)
    case hy38811 => simp only [List.getElem?_toArray, List.getElem?_cons_zero, List.getElem?_cons_succ]; rfl
    have s3 := HC4.out.blk.at_ 3 rfl
    have t3 := HC4.out.blk.free 3
    go_simp
    have HC5 := Lib.hid (show Cx 62 w0 w (w4.setCell ⟨g, 3, none⟩ (.slice B4 m4 k4)) g #[.string fr, .string to, .slice A2 R'.length c2, .slice B4 m4 k4, .bool false] vO (.slice B4 m4 k4) (O ++ [(x.n, x.v)]) from HC4.out.set 3 _)
    have HN5 := Lib.hid (HN4.out.far (p := ⟨g, 3, none⟩) hgn (.slice B4 m4 k4))
    have hH2 : Ext w0 (w4.setCell ⟨g, 3, none⟩ (.slice B4 m4 k4)) ∧ Blk (w4.setCell ⟨g, 3, none⟩ (.slice B4 m4 k4)) nb 52 x.enc.toArray := ⟨HC5.out.ext, HN5.out⟩
    refine hK.out _ _ hH2 (fun _ => ?_)
    clear hK K hHeld hH2 s3 t3
    try simp only [Act.put, List.setIfInBounds_toArray, List.set_cons_zero, List.set_cons_succ]
    refine wpAnyH_done (by kernel_rfl) ?_ _
    generalize w4.setCell ⟨g, 3, none⟩ (.slice B4 m4 k4) = w5 at HC5 HN5 ⊢
    clear HC4 HN4
    have a0 := HC5.out.blk.at_ 0 rfl
    have a1 := HC5.out.blk.at_ 1 rfl
    have hrk := HOKX.out.2.1.1
    go_wp2_with (refine wpl_loadP (off := 32) (sub := numsA .u8 x.r) HN5.out aggKey (sizeN hrk) (Nd.right HOKX.out) rfl _ rfl rfl ?_)
    refine (ih fr to w0 S0 x.r x.n hi false ⟨R', (O ++ [(x.n, x.v)]), false⟩ (by have := hle.r; have := hlen; first | exact hlen | (show s1.R.length ≤ f; exact Nat.le_trans hle.r hlen)) (by have := hle.o; have := hle.r; simp only [List.length_append, List.length_singleton] at *; omega) (fun y hy => HOK.out y (hle.m y hy)) HOKX.out.2.1 _ g A2 c2 (.slice B4 m4 k4) HR2.out HC5.out.again).mono ?_
    rintro e w11 ⟨A9, c9, v9, rfl, hr9, hc9⟩
    rw [hs9] at hr9 hc9
    have HC11 := Lib.hid (HC5.out.call hc9)
    have HR9 := Lib.hid hr9
    clear hr9 hc9
    go_wp2
    first | (refine bodyPost_ret (results_none rfl _ _ _) rfl ?_) | (refine bodyPost_end (results_none rfl _ _ _) rfl ?_)
    exact ⟨A9, c9, v9, rfl, HR9.out, HC11.out⟩
  case sy3837 =>
    go_simp
    have hH2 : Ext w0 (wd.alloc (.cells #[.string x.n, .string x.v] 50)) ∧ Blk (wd.alloc (.cells #[.string x.n, .string x.v] 50)) nb 52 x.enc.toArray := ⟨hHeld.1.alloc _, hHeld.2.alloc _⟩
    refine hK.out _ _ hH2 (fun _ => ?_)
    clear hK K hHeld
    have hHeld := hH2
    clear hH2
    try simp only [Act.put, List.setIfInBounds_toArray, List.set_cons_zero, List.set_cons_succ]
    have HCe := Lib.hid (HCd.out.go (ext_alloc wd (.cells #[.string x.n, .string x.v] 50)))
    refine wpAnyH_ready (rs := [4]) (by kernel_rfl) (by simp) (AllReadyH.cons (o := ?oy3894) ?hy3894 (fun K hK => ?sy3894) AllReadyH.nil)
    case hy3894 => simp only [List.getElem?_toArray, List.getElem?_cons_zero, List.getElem?_cons_succ]; rfl
    have s3 := HCe.out.blk.at_ 3 rfl
    go_simp
    refine hK.out _ _ hHeld (fun _ => ?_)
    clear hK K s3
    try simp only [Act.put, List.setIfInBounds_toArray, List.set_cons_zero, List.set_cons_succ]
    refine wpAnyH_ready (rs := [8]) (by kernel_rfl) (by simp) (AllReadyH.cons (o := ?oy3908) ?hy3908 (fun K hK => ?sy3908) AllReadyH.nil)
    case hy3908 => simp only [List.getElem?_toArray, List.getElem?_cons_zero, List.getElem?_cons_succ]; rfl
    refine stp_append rowEnt rfl _ _ rfl (v := vO) rfl HCe.out.own _ _ rfl (A := some ⟨wd.heap.size, 0, none⟩) (ys := [(x.n, x.v)]) rfl (rd_ent wd (x.n, x.v) _) (by intro y hy; obtain rfl := List.mem_singleton.1 hy; exact HXE.out) (by have := hle.o; simp only [List.length_singleton] at *; omega) HCe.out.ext.size ?_
    intro v4 w4 ho1 hg1 hat1
    obtain ⟨B4, m4, k4, rfl⟩ := ho1.shape3
    have HN4 := Lib.hid (hHeld.2.cx HCe.out (HCe.out.again.app ho1 hg1 hat1) hgn (by decide))
    have HC4 := Lib.hid (HCe.out.app ho1 hg1 hat1)
    have hH2 : Ext w0 w4 ∧ Blk w4 nb 52 x.enc.toArray := ⟨HC4.out.ext, HN4.out⟩
    refine hK.out _ _ hH2 (fun _ => ?_)
    clear hK K ho1 hg1 hat1 hHeld
    have hHeld := hH2
    clear hH2
    try simp only [Act.put, List.setIfInBounds_toArray, List.set_cons_zero, List.set_cons_succ]
    refine tkI 9 (by simp only [List.getElem?_toArray, List.getElem?_cons_zero, List.getElem?_cons_succ]; rfl) (by kernel_rfl) (by exact fun _ _ _ h => h) (by first | (exact Or.inl ⟨by rfl, by intro w hSw; (try dsimp only at hSw); go_simp; with_reducible rfl⟩) | (exact Or.inr ⟨by rfl, by rfl⟩)) (by assumption) ?_
    try simp only [Act.put, List.setIfInBounds_toArray, List.set_cons_zero, List.set_cons_succ]
    refine tkI 10 (by simp only [List.getElem?_toArray, List.getElem?_cons_zero, List.getElem?_cons_succ]; rfl) (by kernel_rfl) (by exact fun _ _ _ h => h) (by first | (exact Or.inl ⟨by rfl, by intro w hSw; (try dsimp only at hSw); go_simp; with_reducible rfl⟩) | (exact Or.inr ⟨by rfl, by rfl⟩)) (by assumption) ?_
    try simp only [Act.put, List.setIfInBounds_toArray, List.set_cons_zero, List.set_cons_succ]
    refine wpAnyH_ready (rs := [11]) (by kernel_rfl) (by simp) (AllReadyH.cons (o := ?oy39311) ?hy39311 (fun K hK => ?sy39311) AllReadyH.nil)
    case hy39311 => simp only [List.getElem?_toArray, List.getElem?_cons_zero, List.getElem?_cons_succ]; rfl
    have s3 := HC4.out.blk.at_ 3 rfl
    have t3 := HC4.out.blk.free 3
    go_simp
    have HC5 := Lib.hid (show Cx 62 w0 w (w4.setCell ⟨g, 3, none⟩ (.slice B4 m4 k4)) g #[.string fr, .string to, .slice A2 R'.length c2, .slice B4 m4 k4, .bool false] vO (.slice B4 m4 k4) (O ++ [(x.n, x.v)]) from HC4.out.set 3 _)
    have HN5 := Lib.hid (HN4.out.far (p := ⟨g, 3, none⟩) hgn (.slice B4 m4 k4))
    have hH2 : Ext w0 (w4.setCell ⟨g, 3, none⟩ (.slice B4 m4 k4)) ∧ Blk (w4.setCell ⟨g, 3, none⟩ (.slice B4 m4 k4)) nb 52 x.enc.toArray := ⟨HC5.out.ext, HN5.out⟩
    refine hK.out _ _ hH2 (fun _ => ?_)
    clear hK K hHeld hH2 s3 t3
    try simp only [Act.put, List.setIfInBounds_toArray, List.set_cons_zero, List.set_cons_succ]
    refine wpAnyH_done (by kernel_rfl) ?_ _
    generalize w4.setCell ⟨g, 3, none⟩ (.slice B4 m4 k4) = w5 at HC5 HN5 ⊢
    clear HC4 HN4
    have a0 := HC5.out.blk.at_ 0 rfl
    have a1 := HC5.out.blk.at_ 1 rfl
    have hrk := HOKX.out.2.1.1
    go_wp2_with (refine wpl_loadP (off := 32) (sub := numsA .u8 x.r) HN5.out aggKey (sizeN hrk) (Nd.right HOKX.out) rfl _ rfl rfl ?_)
    refine (ih fr to w0 S0 x.r x.n hi false ⟨R', (O ++ [(x.n, x.v)]), false⟩ (by have := hle.r; have := hlen; first | exact hlen | (show s1.R.length ≤ f; exact Nat.le_trans hle.r hlen)) (by have := hle.o; have := hle.r; simp only [List.length_append, List.length_singleton] at *; omega) (fun y hy => HOK.out y (hle.m y hy)) HOKX.out.2.1 _ g A2 c2 (.slice B4 m4 k4) HR2.out HC5.out.again).mono ?_
    rintro e w11 ⟨A9, c9, v9, rfl, hr9, hc9⟩
    rw [hs9] at hr9 hc9
    have HC11 := Lib.hid (HC5.out.call hc9)
    have HR9 := Lib.hid hr9
    clear hr9 hc9
    go_wp2
    first | (refine bodyPost_ret (results_none rfl _ _ _) rfl ?_) | (refine bodyPost_end (results_none rfl _ _ _) rfl ?_)
    exact ⟨A9, c9, v9, rfl, HR9.out, HC11.out⟩
set_option maxHeartbeats 16000000 in
set_option maxRecDepth 100000 in
theorem tree_n_eq_out (f : Nat) (ih : TreeC f) (fr to : ByteArray) (w0 : World) (S0 : Nat → Prop) (K : List Int) (lo hi : ByteArray) (b : Bool) (x : Nd) (R' : List Nd) (O : List En) (hlen : R'.length ≤ f) (h64 : O.length + (R'.length + 1) ≤ 64) (hokx : x.ok) (hex : entB x.n x.v = true) (hok : ∀ y ∈ R', y.ok ∧ entB y.n y.v = true) (hKe : K ≠ emptyL) (hK : K32 K) (h1 : kN x = K) (h2 : ltB lo x.n = true) (hb : b = false) (h4 : ltB fr x.n = false) (h5 : ltB x.n fr = false) (h6 : ltB x.n to = false) (s1 : Sw) (hs1 : (⟨R', O, false⟩ : Sw) = s1) (hle : SwLe s1 ⟨R', O, false⟩)
    (w : World) (g : Nat) (A : Option Addr) (n c : Nat) (hn : n = R'.length + 1) (vO : Value) (hr : RdL tNd w0 S0 (.slice A n c) (x :: R')) (hC : Cx 62 w0 w w g #[.string fr, .string to, .slice A n c, vO, .bool false] vO vO O) (s9 : Sw) (hs9 : (⟨R', O, false⟩ : Sw) = s9) :
    Calls Try.prog 31 #[.pointer (some ⟨g, 0, none⟩), .agg (numsA .u8 K), .string lo, .string hi, .bool b] w fun e w' => ∃ A' c' vO', e = .returned (.tuple #[]) ∧ RdL tNd w0 S0 (.slice A' s9.R.length c') s9.R ∧
      Cx 62 w0 w w' g #[.string fr, .string to, .slice A' s9.R.length c', vO', .bool s9.bad] vO vO' s9.O := by
  have HXE := Lib.hid (show tEnt.ok (x.n, x.v) from hokx.2.2)
  subst hs9
  subst hs1
  have HC := Lib.hid hC
  have HOKX := Lib.hid hokx
  have HEX := Lib.hid hex
  have HOK := Lib.hid hok
  have hkl := hK.1
  have HK := Lib.hid hK
  have heql : ∀ W, (binOp .eql 28 (.agg (numsA .u8 K)) (.agg (numsA .u8 emptyL))).run Try.prog W = .ok (.bool false) W := fun W => by
    have := run_eqKey K emptyL hK emptyL_ok W
    rw [decide_eq_false hKe] at this
    exact this
  obtain ⟨A', c', e9, hcap, hlen', hrd, hok9⟩ := id hr
  injection e9 with e91 e92 e93
  subst e91 e93
  obtain ⟨gn, on, rfl, hs0, hcx⟩ := hrd.elem hok9 0 (by simp)
  simp only [Nat.zero_mul, Nat.add_zero, List.getElem_cons_zero] at hcx
  have HD := Lib.hid (show ∀ W, Ext w0 W → ∀ j u, x.enc[j]? = some u → W.cell? ⟨gn, on + j, none⟩ = some u from fun W hW j u hu => hW.cell (hcx j u hu))
  have hcut := RdL.cutN (k := 1) hr (by simp [hn]) (by omega)
  rw [show n - 1 = R'.length by omega, show (x :: R').drop 1 = R' from rfl, show tNd.sz = 66 from rfl] at hcut
  obtain ⟨A2, hA2⟩ : ∃ A2, (if c = 1 then some (⟨gn, on, none⟩ : Addr) else (some (⟨gn, on, none⟩ : Addr)).map (·.add (1 * 66))) = A2 := ⟨_, rfl⟩
  obtain ⟨c2, hc2⟩ : ∃ c2, c - 1 = c2 := ⟨_, rfl⟩
  rw [hA2, hc2] at hcut
  have HSL := Lib.hid (show (Value.slice (if c = 1 then some (⟨gn, on, none⟩ : Addr) else (some (⟨gn, on, none⟩ : Addr)).map (·.add (1 * 66))) (n - 1) (c - 1)) = .slice A2 R'.length c2 by rw [hA2, hc2, show n - 1 = R'.length by omega])
  have HR2 := Lib.hid hcut
  have hn0 : ((n : Int) == 0) = false := by rw [beq_eq_false_iff_ne]; omega
  have hn1 : (0 : Int) < (n : Int) := by omega
  have hn2 : 1 ≤ n := by omega
  have HN := Lib.hid hn
  obtain ⟨m, hm⟩ : ∃ m, R'.length = m := ⟨_, rfl⟩
  have HM := Lib.hid hm
  have HST := Lib.hid (Nd.st hokx)
  have HGB := Lib.hid (show w0.heap.size ≤ g ∧ g < w.heap.size from ⟨hC.base, hC.lt⟩)
  have hneq : ∀ W, (binOp .neq 28 (.agg (numsA .u8 (kN x))) (.agg (numsA .u8 K))).run Try.prog W = .ok (.bool false) W := fun W => by
    have := run_neqKey (kN x) K (kN_ok x) HK.out W
    rw [decide_eq_true h1] at this
    exact this
  subst hb
  have hq1 : Op.bytesLess x.n.toList lo.toList = false := by rw [ltB_eq]; exact ltB_asymm h2
  have hq2 : (x.n.toList == lo.toList) = false := by rw [beq_eq_false_iff_ne]; exact fun e => ltB_ne h2 (toList_inj e).symm
  have hq4 : Op.bytesLess fr.toList x.n.toList = false := by rw [ltB_eq]; exact h4
  have hq5 : Op.bytesLess x.n.toList fr.toList = false := by rw [ltB_eq]; exact h5
  have hq6 : Op.bytesLess x.n.toList to.toList = false := by rw [ltB_eq]; exact h6
  have hq7 : (x.n.toList == fr.toList) = true := by rw [ltB_total h5 h4]; simp
  clear hr hokx hex hok hcx hrd hok9 hcut hA2 hc2 hs0 hcap hlen' e92 hn hC hm h1
  have c0 := HC.out.blk.at_ 0 rfl
  have c1 := HC.out.blk.at_ 1 rfl
  have c2 := HC.out.blk.at_ 2 rfl
  have c3 := HC.out.blk.at_ 3 rfl
  have c4 := HC.out.blk.at_ 4 rfl
  have f2 := HC.out.blk.free 2
  have f3 := HC.out.blk.free 3
  have f4 := HC.out.blk.free 4
  go_enter Try.func31, Try.ntmps31
  go_wp2_with fail
  have HA := Lib.hid (HC.out.go (ext_alloc w (.cells (numsA .u8 K) 28)))
  have HKB := Lib.hid (Blk.new w 28 (numsA .u8 K))
  clear c0 c1 c2 c3 c4 f2 f3 f4
  generalize w.alloc (.cells (numsA .u8 K) 28) = wa at HA HKB ⊢
  have cd : ∀ W, Ext wa W → W.cell? ⟨g, 4, none⟩ = some (.bool false) := fun W hW => (HA.out.blk.ext hW).at_ 4 rfl
  refine wp_region_held_drew (S := fun W => Ext wa W) (by kernel_rfl) (Ext.refl _).drew (fun hHeld => ?_)
  iterate 5
    refine tkD 0 (by simp only [List.size_toArray, List.length_cons, List.length_nil]; rfl) (by simp only [List.getElem?_toArray, List.getElem?_cons_zero, List.getElem?_cons_succ]; rfl) (by kernel_rfl) (by exact fun _ _ _ h => h) (by first | (exact Or.inl ⟨by rfl, by intro w hSw; (try dsimp only at hSw); go_simp; with_reducible rfl⟩) | (exact Or.inr ⟨by rfl, by rfl⟩)) (by assumption) ?_
    try simp only [Act.put, List.setIfInBounds_toArray, List.set_cons_zero, List.set_cons_succ]
  refine tkI 5 (v := (.agg (numsA .u8 K))) (by simp only [List.getElem?_toArray, List.getElem?_cons_zero, List.getElem?_cons_succ]; rfl) (by kernel_rfl) (by exact fun _ _ _ h => h) (by refine yields_loadB HKB.out aggKey (sizeN hkl) ?_ _ rfl rfl; rfl) (by assumption) ?_
  try simp only [Act.put, List.setIfInBounds_toArray, List.set_cons_zero, List.set_cons_succ]
  refine wpAnyH_ready (rs := [6]) (by kernel_rfl) (by simp) (AllReadyH.cons (o := ?oy4006) ?hy4006 (fun K hK => ?sy4006) AllReadyH.nil)
  case hy4006 => simp only [List.getElem?_toArray, List.getElem?_cons_zero, List.getElem?_cons_succ]; rfl
  go_simp
  refine (l04Empty_any _).mono ?_
  rintro e w9 ⟨rfl, hx⟩
  have hH2 := hHeld.trans hx
  refine hK.out _ _ hH2 (fun _ => ?_)
  clear hHeld hK K
  have hHeld := hH2
  clear hH2
  try simp only [Act.put, List.setIfInBounds_toArray, List.set_cons_zero, List.set_cons_succ]
  iterate 2
    refine tkD 0 (by simp only [List.size_toArray, List.length_cons, List.length_nil]; rfl) (by simp only [List.getElem?_toArray, List.getElem?_cons_zero, List.getElem?_cons_succ]; rfl) (by kernel_rfl) (by exact fun _ _ _ h => h) (by first | (exact Or.inl ⟨by rfl, by intro w hSw; (try dsimp only at hSw); go_simp; with_reducible rfl⟩) | (exact Or.inr ⟨by rfl, by rfl⟩)) (by assumption) ?_
    try simp only [Act.put, List.setIfInBounds_toArray, List.set_cons_zero, List.set_cons_succ]
  refine wpAnyH_done (by kernel_rfl) ?_ _
  have hAx := HA.out.go hHeld
  have HK2 := Lib.hid (HKB.out.ext hHeld)
  clear cd hHeld
  revert hAx HK2
  skip
  intro hAx HK2
  have HB1 := Lib.hid hAx
  clear hAx HA HKB
  have HBa := Lib.hid (HB1.out.go (ext_alloc w9 (.cells x.enc.toArray 52)))
  have HNa := Lib.hid (Blk.new w9 52 x.enc.toArray)
  have hgn : w9.heap.size ≠ g := by have := HB1.out.blk.lt; omega
  have HBb := Lib.hid (show Cx 62 w0 w ((World.alloc w9 (.cells x.enc.toArray 52)).setCell ⟨g, 2, none⟩ (.slice A2 R'.length c2)) g #[.string fr, .string to, .slice A2 R'.length c2, vO, .bool false] vO vO O from HBa.out.set 2 _)
  have HNb := Lib.hid (show Blk ((World.alloc w9 (.cells x.enc.toArray 52)).setCell ⟨g, 2, none⟩ (.slice A2 R'.length c2)) w9.heap.size 52 x.enc.toArray from HNa.out.far hgn _)
  have HKb := Lib.hid (show Blk ((World.alloc w9 (.cells x.enc.toArray 52)).setCell ⟨g, 2, none⟩ (.slice A2 R'.length c2)) w.heap.size 28 (numsA .u8 K) from (HK2.out.alloc _).far (by have := HGB.out; show w.heap.size ≠ g; omega) _)
  have d2 := HB1.out.blk.at_ 2 rfl
  have e2 := HBa.out.blk.at_ 2 rfl
  have f2 := HBa.out.blk.free 2
  have c64 := HNb.out.at_ 64 (Nd.at64 HOKX.out)
  go_wp2_with (first
    | (refine wpl_load ⟨gn, on, none⟩ x.enc (by rw [Nd.enc_length HOKX.out]; exact aggNodeI) rfl _ rfl rfl (fun j u hu => by rw [Addr.add_lit]; exact HD.out _ HB1.out.ext j u hu) ?_)
    | (refine wpl_storeNewB aggNodeI HST.out rfl rfl _ _ rfl rfl rfl rfl ?_)
    | (refine wpl_cut1 (sz := 66) (A := some ⟨gn, on, none⟩) (n := n) (c := c) (by kernel_rfl) (by kernel_rfl) rfl _ rfl rfl hn2 ?_; rw [HSL.out]))
  obtain ⟨nb, hnb⟩ : ∃ nb, w9.heap.size = nb := ⟨_, rfl⟩
  rw [hnb] at HNb hgn ⊢
  generalize (World.alloc w9 (.cells x.enc.toArray 52)).setCell ⟨g, 2, none⟩ (.slice A2 R'.length c2) = wb at HBb HNb HKb ⊢
  clear d2 e2 f2 c64 HBa HNa hnb HB1 HK2
  refine wp_region_held_drew (S := fun W => Ext wb W) (by kernel_rfl) (Ext.refl _).drew (fun hHeld => ?_)
  refine tkI 1 (v := (.agg (numsA .u8 K))) (by simp only [List.getElem?_toArray, List.getElem?_cons_zero, List.getElem?_cons_succ]; rfl) (by kernel_rfl) (by exact fun _ _ _ h => h) (by refine yields_loadB HKb.out aggKey (sizeN hkl) ?_ _ rfl rfl; rfl) (by assumption) ?_
  try simp only [Act.put, List.setIfInBounds_toArray, List.set_cons_zero, List.set_cons_succ]
  refine wpAnyH_ready (rs := [0]) (by kernel_rfl) (by simp) (AllReadyH.cons (o := ?oy4040) ?hy4040 (fun K hK => ?sy4040) AllReadyH.nil)
  case hy4040 => simp only [List.getElem?_toArray, List.getElem?_cons_zero, List.getElem?_cons_succ]; rfl
  go_simp
  refine (l04NodeKey_any x HOKX.out HEX.out nb _ (HNb.out.ext hHeld)).mono ?_
  rintro e w7 ⟨rfl, hx⟩
  have hH2 := hHeld.trans hx
  refine hK.out _ _ hH2 (fun _ => ?_)
  clear hHeld hK K
  have hHeld := hH2
  clear hH2
  try simp only [Act.put, List.setIfInBounds_toArray, List.set_cons_zero, List.set_cons_succ]
  try rw [show hashL 5 (nodeL x) = kN x by rw [kN]]
  iterate 14
    refine tkD 0 (by simp only [List.size_toArray, List.length_cons, List.length_nil]; rfl) (by simp only [List.getElem?_toArray, List.getElem?_cons_zero, List.getElem?_cons_succ]; rfl) (by kernel_rfl) (by exact fun _ _ _ h => h) (by first | (exact Or.inl ⟨by rfl, by intro w hSw; (try dsimp only at hSw); go_simp; with_reducible rfl⟩) | (exact Or.inr ⟨by rfl, by rfl⟩)) (by assumption) ?_
    try simp only [Act.put, List.setIfInBounds_toArray, List.set_cons_zero, List.set_cons_succ]
  refine wpAnyH_done (by kernel_rfl) ?_ _
  have HC7 := Lib.hid (HBb.out.go hHeld)
  have HN7 := Lib.hid (HNb.out.ext hHeld)
  clear hHeld HBb HNb HKb
  have a0 := HC7.out.blk.at_ 0 rfl
  have a1 := HC7.out.blk.at_ 1 rfl
  go_wp2
  first | (refine bodyPost_ret (results_none rfl _ _ _) rfl ?_) | (refine bodyPost_end (results_none rfl _ _ _) rfl ?_)
  exact ⟨A2, c2, vO, rfl, HR2.out, HC7.out⟩
end Go.Proofs.Ytipeaoanhcjnjaa
