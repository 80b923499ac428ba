/- What the walk of the law FnListProofs needs, part 5 of 5. No condition. -/
import Derived.Test.YtdjclllnmclocaaPFnListProofs4
/- The walk of the law FnListProofs. No condition. -/
namespace Go.Proofs.Ytdjclllnmclocaa
open Go.RowKit Go.BigFrame
set_option linter.unusedVariables false
set_option linter.unusedSimpArgs false

theorem rdl_true9 {T : Ty (List Int)} {w : World} {S : Nat → Prop} {v : Value} {xs : List (List Int)} (h : RdL T w S v xs) : RdL T w (fun _ => True) v xs := h.mono fun _ _ => trivial
theorem rd_blkL {w : World} {gl e : Nat} {L : List Int} (hx : tKey.ok L) (h : Blk w gl e (tKey.enc L).toArray) : Rd w (fun _ => True) tKey.sz (some ⟨gl, 0, none⟩) [L].length ([L].flatMap tKey.enc) := by
  refine ⟨by simp [tKey.len L hx], fun _ => ⟨_, 0, rfl, trivial, fun j u hu => ?_⟩⟩
  rw [Nat.zero_add, h.cell]
  simpa using hu
theorem xor_u8 (x y : Int) (h0 : 0 ≤ x) (h1 : x ≤ 255) (h2 : 1 ≤ y) (h3 : y ≤ 255) : 0 ≤ bits .xor .u8 x y ∧ bits .xor .u8 x y ≤ 255 ∧ bits .xor .u8 x y ≠ x := by
  obtain ⟨a, rfl⟩ : ∃ a : Nat, x = a := ⟨x.toNat, by omega⟩
  obtain ⟨b, rfl⟩ : ∃ b : Nat, y = b := ⟨y.toNat, by omega⟩
  have hx : a ^^^ b < 2 ^ 8 := Nat.xor_lt_two_pow (by omega) (by omega)
  have h4 : (BitVec.ofInt 8 (a : Int)).toNat = a := by
    rw [BitVec.ofInt_natCast, BitVec.toNat_ofNat]; exact Nat.mod_eq_of_lt (by omega)
  have h5 : (BitVec.ofInt 8 (b : Int)).toNat = b := by
    rw [BitVec.ofInt_natCast, BitVec.toNat_ofNat]; exact Nat.mod_eq_of_lt (by omega)
  have e : bits .xor .u8 (a : Int) (b : Int) = ((a ^^^ b : Nat) : Int) := by
    show IntKind.u8.wrap ((BitVec.ofInt 8 (a : Int) ^^^ BitVec.ofInt 8 (b : Int)).toNat : Int) = _
    rw [BitVec.toNat_xor, h4, h5]
    exact u8_in _ (by omega) (by omega)
  rw [e]
  refine ⟨by omega, by omega, fun h => ?_⟩
  have h6 : a ^^^ b = a := by omega
  have h7 : b = 0 := by
    have := congrArg (a ^^^ ·) h6
    simpa [← Nat.xor_assoc] using this
  omega
theorem cut_norm {P : Program} {c : Code} {a : Act} {w : World} {Q : Exit → Act → World → Prop} {F : Value → Value → Value → Value → Act} {Φ : World → Prop} (h1 : ∀ vE vS vL vT w', Φ w' → Q .normal (F vE vS vL vT) w') (h2 : (∀ vE vS vL vT w', Φ w' → Q .normal (F vE vS vL vT) w') → Code.wp P c Q a w) : Code.wp P c Q a w := h2 h1
theorem built_byte (x : Int) : Try.prog.built 28 [(0, .int .u8 x)] = some (numsA .u8 (x :: List.replicate 31 0)) := by kernel_rfl
set_option maxHeartbeats 16000000 in
set_option maxRecDepth 100000 in
theorem FnListProofs_any (w : World) (v0 : Value) (x0 : List Int) (S0 : Nat → Prop) (h0 : RdL tByte w S0 v0 x0) (v1 : Value) (x1 : List Int) (S1 : Nat → Prop) (h1 : RdL tByte w S1 v1 x1) :
    Calls Try.prog 5 #[v0, v1] w fun e w' => e = .returned (.bool true) ∧ Ext w w' := by
  obtain ⟨A0, cap0, rfl, _⟩ := id h0
  obtain ⟨A1, cap1, rfl, _⟩ := id h1
  have H0 := Lib.hid h0
  have H1 := Lib.hid h1
  clear h0 h1
  cases hlong : (decide (3000 < x0.length) || decide (3000 < x1.length)) with
  | true =>
    have hl := fun W => a2Long_any A0 A1 x0.length x1.length cap0 cap1 W true hlong
    clear hlong
    go_enter Try.func5, Try.ntmps5
    go_wp2_with fail
    refine (hl _).mono ?_
    rintro e w' ⟨rfl, rfl⟩
    go_wp2
    go_ret
    exact ⟨rfl, Ext.refl _⟩
  | false =>
    have hl := fun W => a2Long_any A0 A1 x0.length x1.length cap0 cap1 W false hlong
    clear hlong
    go_enter Try.func5, Try.ntmps5
    go_wp2_with fail
    refine (hl _).mono ?_
    rintro e w' ⟨rfl, rfl⟩
    clear hl
    go_wp2_with fail
    refine (a2Keys_any _ x0 10 (by omega) _ _ H0.out).mono ?_
    rintro e w1 ⟨va, ka, rfl, hoa, hla, hx⟩
    have XW := Lib.hid hx
    have HOA := Lib.hid hoa
    obtain ⟨Aa, na, ca, rfl⟩ := hoa.shape3
    clear hx hoa
    go_wp2_with fail
    refine (a2At_any _ x1 0 256 (by omega) _ _ (H1.out.ext (by decide) XW.out) (by omega)).mono ?_
    rintro e w1' ⟨r, rfl, hr0, hr1, rfl⟩
    have hr2 : r ≤ 255 := by omega
    have hwr := u8_in r hr0 hr2
    obtain ⟨kx, hkx⟩ : ∃ kx, r :: List.replicate 31 0 = kx := ⟨_, rfl⟩
    have hb1 := built_byte r
    rw [hkx] at hb1
    have HKX := Lib.hid (show K32 kx by
      rw [← hkx]
      refine ⟨by simp, fun y hy => ?_⟩
      rcases List.mem_cons.1 hy with rfl | hy
      · exact ⟨hr0, hr2⟩
      · rw [List.eq_of_mem_replicate hy]; omega)
    clear hkx hr1
    go_wp2_with (first
      | (refine wpl_buildN rfl rfl hb1 ?_)
      | (refine wpl_one rowKeyA (by decide) kx HKX.out rfl _ rfl rfl ?_)
      | (at_builtin; refine wpl_append rowKeyA rfl _ _ rfl (v := .slice Aa na ca) rfl (HOA.out.alloc (.cells (tKey.enc kx).toArray 28)) _ _ rfl (A := some ⟨w1.heap.size, 0, none⟩) (ys := [kx]) rfl (rd_one (T := tKey) w1 kx HKX.out _) (by intro y hy; obtain rfl := List.mem_singleton.1 hy; exact HKX.out) (by simp; omega) (by have := XW.out.size; simp; omega) ?_; intro v3 w3 ho3 hg3 hat3; have X3 := Lib.hid ((HOA.out.alloc (.cells (tKey.enc kx).toArray 28)).ext_app (XW.out.alloc _) hg3); have HO3 := Lib.hid ho3; obtain ⟨Al, nl, cl, rfl⟩ := ho3.shape3; clear ho3 hg3 hat3))
    obtain ⟨ks, hks⟩ : ∃ ks, ka ++ [kx] = ks := ⟨_, rfl⟩
    rw [hks] at HO3
    have hlk : ks.length ≤ 11 := by rw [← hks, List.length_append]; simp; omega
    have hlk1 : 1 ≤ ks.length := by rw [← hks, List.length_append]; simp
    have hok : ∀ x ∈ ks, K32 x := by obtain ⟨_, _, _, _, _, _, h⟩ := HO3.out.rd; exact h
    obtain ⟨A', c', e', hcl, _, hrd, _⟩ := HO3.out.rd
    obtain ⟨rfl, rfl, rfl⟩ := Value.slice.inj e'
    have HR := Lib.hid (rdl_true9 HO3.out.rd)
    have HOK := Lib.hid hok
    have HRD := Lib.hid hrd
    have hLE := Lib.hid (show ∀ W, RdL tKey W (fun _ => True) (.slice Al ks.length cl) ks → Calls Try.prog 28 #[.slice Al ks.length cl] W fun q w' => q = .returned (.tuple #[.agg (numsA .u8 (lk ks)), .int .i64 0]) ∧ Ext W w' from fun W hW => implListKey_any _ _ (by omega) W _ hW)
    have hPR := Lib.hid (show ∀ (i : Nat) (hi : i < ks.length) W, RdL tKey W (fun _ => True) (.slice Al ks.length cl) ks → Calls Try.prog 29 #[.slice Al ks.length cl, .int .i64 i] W fun q w' => ∃ v', q = .returned (.tuple #[v', .int .i64 0]) ∧ Own tKey 28 w' W.heap.size v' (prf ks i) ∧ Ext W w' from fun i hi W hW => implProofOf_any ks.length (by omega) i _ ks W _ hi rfl hW)
    have hTD := Lib.hid (show ∀ (i : Nat) (hi : i < ks.length) W, Calls Try.prog 30 #[.int .i64 ks.length, .int .i64 i] W fun q w' => q = .returned (.tuple #[.int .i64 ((sd ks.length i).length : Nat), .int .i64 0]) ∧ Ext W w' from fun i hi W => treeDepth_any ks.length i (by omega) hi W)
    have HLR := Lib.hid (lk_ok hok)
    have hPL := Lib.hid (show ∀ i, (prf ks i).length = (sd ks.length i).length from fun i => prf_len _ ks i rfl)
    have hPC := Lib.hid (show ∀ (i : Nat) (hi : i < ks.length), chk ks[i] (prf ks i) (sd ks.length i).reverse = lk ks from fun i hi => prf_chk _ ks i rfl hi)
    have hPE := Lib.hid (show ∀ i, (prf ks i).length ≤ 11 from fun i => Nat.le_trans (prf_le hok i) hlk)
    have hPO := Lib.hid (show ∀ i, ∀ k ∈ prf ks i, K32 k from fun i => prf_ok hok i)
    have hCH := Lib.hid (show ∀ (i : Nat) (hi : i < ks.length) leaf (hlf : K32 leaf) u W, RdL tKey W (fun _ => True) u (prf ks i) → Calls Try.prog 31 #[.agg (numsA .u8 (lk ks)), .int .i64 ks.length, .int .i64 i, .agg (numsA .u8 leaf), u] W fun q w' => q = .returned (.tuple #[.bool (decide (chk leaf (prf ks i) (sd ks.length i).reverse = lk ks)), .int .i64 0]) ∧ Ext W w' from fun i hi leaf hlf u W hW => checkProof_any ks.length i (by omega) hi _ leaf HLR.out hlf u _ (by have := hPE.out i; omega) W _ hW (hPL.out i))
    have hCR := Lib.hid (show ∀ i leaf u W, RdL tKey W (fun _ => True) u (prf ks i) → Calls Try.prog 31 #[.agg (numsA .u8 (lk ks)), .int .i64 ks.length, .int .i64 ks.length, .agg (numsA .u8 leaf), u] W fun q w' => q = .returned (.tuple #[.bool false, .int .i64 2]) ∧ Ext W w' from fun i leaf u W hW => checkProof_range ks.length (by omega) hlk1 _ leaf u _ (by have := hPE.out i; omega) W _ hW)
    have hCS := Lib.hid (show ∀ (i : Nat) (hi : i < ks.length) leaf z u W, RdL tKey W (fun _ => True) u (prf ks i ++ [z]) → Calls Try.prog 31 #[.agg (numsA .u8 (lk ks)), .int .i64 ks.length, .int .i64 i, .agg (numsA .u8 leaf), u] W fun q w' => q = .returned (.tuple #[.bool false, .int .i64 0]) ∧ Ext W w' from fun i hi leaf z u W hW => checkProof_short ks.length i (by omega) hi _ leaf u _ (by have := hPE.out i; simp; omega) W _ hW (by rw [List.length_append, hPL.out i]; simp))
    have hCO := Lib.hid (show ∀ (i : Nat) (hi : i < ks.length) leaf (hlf : K32 leaf) u W, RdL tKey W (fun _ => True) (.slice Al ks.length cl) ks → RdL tKey W (fun _ => True) u (prf ks i) → Calls Try.prog 32 #[.slice Al ks.length cl, .int .i64 i, .agg (numsA .u8 leaf), u] W fun q w' => ∃ C code, q = .returned (.tuple #[.agg (numsA .u8 C), .int .i64 code]) ∧ clpR (chk leaf (prf ks i) (sd ks.length i).reverse = lk ks) (leaf ≠ ks[i]) C code ∧ Ext W w' from fun i hi leaf hlf u W hW hU => clashOfProof_any ks.length i (by omega) hi ks rfl leaf hlf _ u W _ _ hW hU)
    have hst := St.nums (k := .u8) HLR.out.1
    have hsz := sizeN (k := .u8) HLR.out.1
    obtain ⟨L, hL⟩ : ∃ L, lk ks = L := ⟨_, rfl⟩
    rw [hL] at hLE HLR hst hsz
    simp only [hL] at hPC hCH hCR hCS hCO
    clear hks e' hrd hok HO3 HOA hL
    go_wp2_with fail
    refine (hLE.out _ HR.out).mono ?_
    rintro e w5 ⟨rfl, hx⟩
    have HX := Lib.hid hx
    clear hx hLE
    go_wp2_with (refine wpl_storeNewB aggKey hst rfl rfl _ _ rfl rfl rfl rfl ?_)
    refine (a2At_any _ x1 1 (ks.length : Int) (by omega) _ _ (H1.out.ext (by decide) ((X3.out.trans HX.out).alloc _)) (by omega)).mono ?_
    rintro e w5' ⟨r1, rfl, hi0, hi1, rfl⟩
    obtain ⟨i, rfl⟩ : ∃ i : Nat, r1 = i := ⟨r1.toNat, by omega⟩
    have hi : i < ks.length := by omega
    have BR := Lib.hid (Blk.new w5 28 (numsA .u8 L))
    have hgr : w3.heap.size ≤ w5.heap.size := HX.out.size
    replace HX := Lib.hid (HX.out.alloc (.cells (numsA .u8 L) 28))
    have HGR := Lib.hid (show w.heap.size ≤ w5.heap.size from Nat.le_trans X3.out.size hgr)
    generalize hgR : w5.heap.size = gR at BR HGR ⊢
    generalize w5.alloc (.cells (numsA .u8 L) 28) = w6 at BR HX ⊢
    clear hi0 hi1 hgr hgR
    go_wp2_with fail
    refine (hPR.out i hi _ (HR.out.ext (by decide) HX.out)).mono ?_
    rintro e w7 ⟨vp, rfl, ho, hx⟩
    have HRP := Lib.hid (rdl_true9 ho.rd)
    obtain ⟨Ap, cp, rfl⟩ := ho.shape
    replace HX := Lib.hid (HX.out.trans hx)
    replace BR := Lib.hid (BR.out.ext hx)
    clear hx ho hPR
    have HP7 := Lib.hid HRP.out
    have EX := Lib.hid (Ext.refl w7)
    have HW7 := Lib.hid (show w3.heap.size ≤ w7.heap.size from HX.out.size)
    go_wp2_with fail
    refine (hTD.out i hi _).mono ?_
    rintro e w8 ⟨rfl, hx⟩
    replace HX := Lib.hid (HX.out.trans hx)
    replace BR := Lib.hid (BR.out.ext hx)
    replace HRP := Lib.hid (HRP.out.ext (by decide) hx)
    have EX1 := Lib.hid (EX.out.trans hx)
    clear hx hTD EX
    rw [← hPL.out i]
    have HPL := Lib.hid (hPE.out i)
    have HPO := Lib.hid (hPO.out i)
    have hch := Lib.hid (hCH.out i hi)
    have hcr := Lib.hid (hCR.out i)
    have hcs := Lib.hid (hCS.out i hi)
    have hco := Lib.hid (hCO.out i hi)
    have hpc := Lib.hid (hPC.out i hi)
    clear hCH hCR hCS hCO hPC hPE hPO hPL
    have HKI := Lib.hid (HOK.out ks[i] (List.getElem_mem hi))
    obtain ⟨g, o, rfl, _, hc⟩ := HRD.out.elem HOK.out i hi
    have HC := Lib.hid (show ∀ W, Ext w3 W → ∀ j u, (tKey.enc ks[i])[j]? = some u → W.cell? ⟨g, o + i * 32 + j, none⟩ = some u from fun W hW j u hu => hW.cell (hc j u hu))
    have HI := Lib.hid hi
    have q0 : (0 : Int) ≤ (i : Int) := by omega
    have q1 : (i : Int) < (ks.length : Int) := by omega
    have q2 : (i : Int) ≤ (cl : Int) := by omega
    obtain ⟨lf, hlf⟩ : ∃ lf, ks[i]'hi = lf := ⟨_, rfl⟩
    rw [hlf] at HKI HC hpc
    simp only [hlf] at hco
    obtain ⟨ps, hps⟩ : ∃ ps, prf ks i = ps := ⟨_, rfl⟩
    simp only [hps] at HP7 HRP hpc hch hcr hcs hco HPL HPO ⊢
    obtain ⟨bs, hbs⟩ : ∃ bs, (sd ks.length i).reverse = bs := ⟨_, rfl⟩
    simp only [hbs] at hpc hch hco
    obtain ⟨n, hn⟩ : ∃ n, ks.length = n := ⟨_, rfl⟩
    simp only [hn] at hch hcr hcs hco HR q1 hlk hlk1 HI hcl ⊢
    have hsf := sizeN (k := .u8) HKI.out.1
    have hD := hch.out lf HKI.out
    rw [decide_eq_true hpc.out] at hD
    have HD := Lib.hid hD
    clear hD hlf hps hbs hn hi hc HRD HOK
    go_wp2_with fail
    refine wp_region_held_drew (S := fun W => Ext w8 W) (by kernel_rfl) ((Ext.refl w8).drew) (fun hHeld => ?_)
    refine wpAnyH_take (i := 0) (oi := ?oiz1) (v := (.agg (numsA .u8 L))) ?hiz1 (by kernel_rfl) (by kernel_rfl) (by kernel_rfl) ?hQz1 ?hyz1 (by assumption) ?restz1
    case hiz1 => simp only [List.getElem?_toArray, List.getElem?_cons_zero, List.getElem?_cons_succ]; rfl
    case hQz1 => exact fun _ _ _ h => h
    case hyz1 => refine yields_loadBSP (fun W hW => BR.out.ext hW) aggKey hsz ?_ _ rfl rfl; rfl
    try simp only [Act.put, List.setIfInBounds_toArray, List.set_cons_zero, List.set_cons_succ]
    refine wpAnyH_take (i := 1) (oi := ?oiz2) (v := ?vz2) ?hiz2 (by kernel_rfl) (by kernel_rfl) (by kernel_rfl) ?hQz2 ?hyz2 (by assumption) ?restz2
    case hiz2 => simp only [List.getElem?_toArray, List.getElem?_cons_zero, List.getElem?_cons_succ]; rfl
    case hQz2 => exact fun _ _ _ h => h
    case hyz2 => exact Or.inl ⟨by rfl, by intro w hSw; (try dsimp only at hSw); go_simp; with_reducible rfl⟩
    try simp only [Act.put, List.setIfInBounds_toArray, List.set_cons_zero, List.set_cons_succ]
    refine wpAnyH_take (i := 2) (oi := ?oiz3) (v := ?vz3) ?hiz3 (by kernel_rfl) (by kernel_rfl) (by kernel_rfl) ?hQz3 ?hyz3 (by assumption) ?restz3
    case hiz3 => simp only [List.getElem?_toArray, List.getElem?_cons_zero, List.getElem?_cons_succ]; rfl
    case hQz3 => exact fun _ _ _ h => h
    case hyz3 => exact Or.inl ⟨by rfl, by intro w hSw; (try dsimp only at hSw); go_simp; with_reducible rfl⟩
    try simp only [Act.put, List.setIfInBounds_toArray, List.set_cons_zero, List.set_cons_succ]
    refine wpAnyH_take (i := 3) (oi := ?oiz4) (v := ?vz4) ?hiz4 (by kernel_rfl) (by kernel_rfl) (by kernel_rfl) ?hQz4 ?hyz4 (by assumption) ?restz4
    case hiz4 => simp only [List.getElem?_toArray, List.getElem?_cons_zero, List.getElem?_cons_succ]; rfl
    case hQz4 => exact fun _ _ _ h => h
    case hyz4 => exact Or.inl ⟨by rfl, by intro w hSw; (try dsimp only at hSw); go_simp; with_reducible rfl⟩
    try simp only [Act.put, List.setIfInBounds_toArray, List.set_cons_zero, List.set_cons_succ]
    refine wpAnyH_take (i := 4) (oi := ?oiz5) (v := ?vz5) ?hiz5 (by kernel_rfl) (by kernel_rfl) (by kernel_rfl) ?hQz5 ?hyz5 (by assumption) ?restz5
    case hiz5 => simp only [List.getElem?_toArray, List.getElem?_cons_zero, List.getElem?_cons_succ]; rfl
    case hQz5 => exact fun _ _ _ h => h
    case hyz5 => exact Or.inl ⟨by rfl, by intro w hSw; (try dsimp only at hSw); go_simp; with_reducible rfl⟩
    try simp only [Act.put, List.setIfInBounds_toArray, List.set_cons_zero, List.set_cons_succ]
    refine wpAnyH_take (i := 5) (oi := ?oiz6) (v := ?vz6) ?hiz6 (by kernel_rfl) (by kernel_rfl) (by kernel_rfl) ?hQz6 ?hyz6 (by assumption) ?restz6
    case hiz6 => simp only [List.getElem?_toArray, List.getElem?_cons_zero, List.getElem?_cons_succ]; rfl
    case hQz6 => exact fun _ _ _ h => h
    case hyz6 => exact Or.inl ⟨by rfl, by intro w hSw; (try dsimp only at hSw); go_simp; with_reducible rfl⟩
    try simp only [Act.put, List.setIfInBounds_toArray, List.set_cons_zero, List.set_cons_succ]
    refine wpAnyH_take (i := 6) (oi := ?oiz7) (v := (.agg (numsA .u8 lf))) ?hiz7 (by kernel_rfl) (by kernel_rfl) (by kernel_rfl) ?hQz7 ?hyz7 (by assumption) ?restz7
    case hiz7 => simp only [List.getElem?_toArray, List.getElem?_cons_zero, List.getElem?_cons_succ]; rfl
    case hQz7 => exact fun _ _ _ h => h
    case hyz7 => refine yields_loadSP g (o + i * 32) (tKey.enc lf) (by rw [tKey.len _ HKI.out]; exact aggKey) (fun W hW => HC.out W (HX.out.trans hW)) ?_ _ rfl rfl; rfl
    try simp only [Act.put, List.setIfInBounds_toArray, List.set_cons_zero, List.set_cons_succ]
    refine wpAnyH_take (i := 7) (oi := ?oiz8) (v := ?vz8) ?hiz8 (by kernel_rfl) (by kernel_rfl) (by kernel_rfl) ?hQz8 ?hyz8 (by assumption) ?restz8
    case hiz8 => simp only [List.getElem?_toArray, List.getElem?_cons_zero, List.getElem?_cons_succ]; rfl
    case hQz8 => exact fun _ _ _ h => h
    case hyz8 => exact Or.inl ⟨by rfl, by intro w hSw; (try dsimp only at hSw); go_simp; with_reducible rfl⟩
    try simp only [Act.put, List.setIfInBounds_toArray, List.set_cons_zero, List.set_cons_succ]
    refine wpAnyH_ready (rs := [8]) (by kernel_rfl) (by simp) (AllReadyH.cons (o := ?oy98) ?hy98 (fun K hK => ?sy98) AllReadyH.nil)
    case hy98 => simp only [List.getElem?_toArray, List.getElem?_cons_zero, List.getElem?_cons_succ]; rfl
    go_simp
    refine (HD.out _ _ (HRP.out.ext (by decide) hHeld)).mono ?_
    rintro e w9 ⟨rfl, hx⟩
    have hH2 := hHeld.trans hx
    refine hK.out _ _ hH2 (fun _ => ?_)
    clear hHeld hK K
    have hHeld := hH2
    clear hH2
    try simp only [Act.put, List.setIfInBounds_toArray, List.set_cons_zero, List.set_cons_succ]
    refine wpAnyH_take (i := 9) (oi := ?oiz10) (v := ?vz10) ?hiz10 (by kernel_rfl) (by kernel_rfl) (by kernel_rfl) ?hQz10 ?hyz10 (by assumption) ?restz10
    case hiz10 => simp only [List.getElem?_toArray, List.getElem?_cons_zero, List.getElem?_cons_succ]; rfl
    case hQz10 => exact fun _ _ _ h => h
    case hyz10 => exact Or.inl ⟨by rfl, by intro w hSw; (try dsimp only at hSw); go_simp; with_reducible rfl⟩
    try simp only [Act.put, List.setIfInBounds_toArray, List.set_cons_zero, List.set_cons_succ]
    refine wpAnyH_take (i := 10) (oi := ?oiz11) (v := ?vz11) ?hiz11 (by kernel_rfl) (by kernel_rfl) (by kernel_rfl) ?hQz11 ?hyz11 (by assumption) ?restz11
    case hiz11 => simp only [List.getElem?_toArray, List.getElem?_cons_zero, List.getElem?_cons_succ]; rfl
    case hQz11 => exact fun _ _ _ h => h
    case hyz11 => exact Or.inl ⟨by rfl, by intro w hSw; (try dsimp only at hSw); go_simp; with_reducible rfl⟩
    try simp only [Act.put, List.setIfInBounds_toArray, List.set_cons_zero, List.set_cons_succ]
    refine wpAnyH_take (i := 11) (oi := ?oiz12) (v := ?vz12) ?hiz12 (by kernel_rfl) (by kernel_rfl) (by kernel_rfl) ?hQz12 ?hyz12 (by assumption) ?restz12
    case hiz12 => simp only [List.getElem?_toArray, List.getElem?_cons_zero, List.getElem?_cons_succ]; rfl
    case hQz12 => exact fun _ _ _ h => h
    case hyz12 => exact Or.inl ⟨by rfl, by intro w hSw; (try dsimp only at hSw); go_simp; with_reducible rfl⟩
    try simp only [Act.put, List.setIfInBounds_toArray, List.set_cons_zero, List.set_cons_succ]
    refine wpAnyH_take (i := 12) (oi := ?oiz13) (v := ?vz13) ?hiz13 (by kernel_rfl) (by kernel_rfl) (by kernel_rfl) ?hQz13 ?hyz13 (by assumption) ?restz13
    case hiz13 => simp only [List.getElem?_toArray, List.getElem?_cons_zero, List.getElem?_cons_succ]; rfl
    case hQz13 => exact fun _ _ _ h => h
    case hyz13 => exact Or.inl ⟨by rfl, by intro w hSw; (try dsimp only at hSw); go_simp; with_reducible rfl⟩
    try simp only [Act.put, List.setIfInBounds_toArray, List.set_cons_zero, List.set_cons_succ]
    refine wpAnyH_take (i := 13) (oi := ?oiz14) (v := ?vz14) ?hiz14 (by kernel_rfl) (by kernel_rfl) (by kernel_rfl) ?hQz14 ?hyz14 (by assumption) ?restz14
    case hiz14 => simp only [List.getElem?_toArray, List.getElem?_cons_zero, List.getElem?_cons_succ]; rfl
    case hQz14 => exact fun _ _ _ h => h
    case hyz14 => exact Or.inl ⟨by rfl, by intro w hSw; (try dsimp only at hSw); go_simp; with_reducible rfl⟩
    try simp only [Act.put, List.setIfInBounds_toArray, List.set_cons_zero, List.set_cons_succ]
    have BR2 := Lib.hid (BR.out.ext hHeld)
    have HX2 := Lib.hid (HX.out.trans hHeld)
    have HRP2 := Lib.hid (HRP.out.ext (by decide) hHeld)
    have EX2 := Lib.hid (EX1.out.trans hHeld)
    clear hHeld BR HX HRP HD EX1
    refine wpAnyH_done (by kernel_rfl) ?_ _
    go_wp2_with fail
    refine cut_norm (F := fun vE vS vL vT => ⟨#[Value.slice A0 x0.length cap0, Value.slice A1 x1.length cap1, undef, undef, Value.bool false, Value.slice (some { block := g, off := o }) n cl, Value.int IntKind.i64 ↑n, Value.pointer (some { block := gR, off := 0 }), Value.int IntKind.i64 0, Value.int IntKind.i64 ↑i, Value.slice Ap ps.length cp, Value.int IntKind.i64 0, Value.int IntKind.i64 ↑ps.length, Value.int IntKind.i64 0, Value.bool true, Value.int IntKind.i64 0, Value.bool false, Value.int IntKind.i64 0, undef, undef, undef, undef, undef, undef, undef, undef, undef, Value.slice A0 x0.length cap0, Value.slice A1 x1.length cap1, Value.bool false, Value.slice A0 x0.length cap0, Value.slice Aa na ca, Value.slice A1 x1.length cap1, Value.int IntKind.i64 r, Value.int IntKind.u8 r, Value.agg (numsA IntKind.u8 kx), Value.slice (some { block := w1.heap.size, off := 0 }) 1 1, Value.slice (some { block := g, off := o }) n cl, Value.slice (some { block := g, off := o }) n cl, Value.int IntKind.i64 ↑n, Value.tuple #[Value.agg (numsA IntKind.u8 L), Value.int IntKind.i64 0], Value.slice (some { block := g, off := o }) n cl, Value.tuple #[Value.agg (numsA IntKind.u8 L), Value.int IntKind.i64 0], Value.agg (numsA IntKind.u8 L), Value.int IntKind.i64 0, Value.slice A1 x1.length cap1, Value.int IntKind.i64 ↑n, Value.int IntKind.i64 ↑i, Value.tuple #[Value.slice Ap ps.length cp, Value.int IntKind.i64 0], Value.slice (some { block := g, off := o }) n cl, Value.int IntKind.i64 ↑i, Value.tuple #[Value.slice Ap ps.length cp, Value.int IntKind.i64 0], Value.slice Ap ps.length cp, Value.int IntKind.i64 0, Value.tuple #[Value.int IntKind.i64 ↑ps.length, Value.int IntKind.i64 0], Value.int IntKind.i64 ↑n, Value.int IntKind.i64 ↑i, Value.tuple #[Value.int IntKind.i64 ↑ps.length, Value.int IntKind.i64 0], Value.int IntKind.i64 ↑ps.length, Value.int IntKind.i64 0, Value.tuple #[Value.bool true, Value.int IntKind.i64 0], Value.agg (numsA IntKind.u8 L), Value.int IntKind.i64 ↑n, Value.int IntKind.i64 ↑i, Value.slice (some { block := g, off := o }) n cl, Value.int IntKind.i64 ↑i, Value.pointer (some { block := g, off := o + i * 32 }), Value.agg (numsA IntKind.u8 lf), Value.slice Ap ps.length cp, Value.tuple #[Value.bool true, Value.int IntKind.i64 0], Value.bool true, Value.int IntKind.i64 0, Value.int IntKind.i64 0, Value.bool false, Value.bool false, Value.int IntKind.i64 0, Value.bool false, Value.bool false, Value.bool false, Value.int IntKind.i64 0, Value.bool false, Value.bool false, Value.bool false, Value.int IntKind.i64 0, Value.bool false, Value.bool false, Value.bool false, Value.slice Ap ps.length cp, Value.int IntKind.i64 ↑ps.length, Value.int IntKind.i64 ↑ps.length, Value.bool false, Value.bool false, Value.bool false, Value.bool true, Value.bool false, Value.bool false, Value.tuple #[Value.bool false, Value.int IntKind.i64 0], Value.agg (numsA IntKind.u8 L), Value.int IntKind.i64 ↑n, Value.int IntKind.i64 ↑i, Value.slice (some { block := g, off := o }) n cl, Value.int IntKind.i64 ↑i, Value.pointer (some { block := g, off := o + i * 32 }), Value.agg (numsA IntKind.u8 lf), vE, Value.slice Ap ps.length cp, vS, Value.agg (numsA IntKind.u8 L), vL, vT, Value.tuple #[Value.bool false, Value.int IntKind.i64 0], Value.bool false, Value.int IntKind.i64 0, undef, undef, undef, undef, undef, undef, undef, undef, undef, undef, undef, undef, undef, undef, undef, undef, undef, undef, undef, undef, undef, undef, undef, undef, undef, undef, undef, undef, undef, undef, undef, undef, undef, undef, undef, undef, undef, undef, undef, undef, undef, undef, undef, undef, undef, undef, undef, undef, undef, undef, undef, undef, undef, undef, undef, undef, undef, undef, undef, undef, undef, undef, undef, undef, undef, undef, undef, undef, undef, undef, undef, undef, undef, undef, undef, undef, undef, undef, undef, undef, undef, undef], []⟩) (Φ := fun W => Blk W gR 28 (numsA .u8 L) ∧ Ext w3 W ∧ Ext w7 W) ?rest12 (fun Hsorry => ?reg12)
    case rest12 =>
      intro vE vS vL vT wF hΦ
      have BR3 := Lib.hid hΦ.1
      have HX3 := Lib.hid hΦ.2.1
      have EX3 := Lib.hid hΦ.2.2
      have HRP3 := Lib.hid (HP7.out.ext (by decide) hΦ.2.2)
      clear hΦ BR2 HX2 HRP2 EX2
      go_wp2_with fail
      refine wp_region_held_drew (S := fun W => Ext wF W) (by kernel_rfl) ((Ext.refl wF).drew) (fun hHeld => ?_)
      refine wpAnyH_take (i := 0) (oi := ?oiz15) (v := (.agg (numsA .u8 L))) ?hiz15 (by kernel_rfl) (by kernel_rfl) (by kernel_rfl) ?hQz15 ?hyz15 (by assumption) ?restz15
      case hiz15 => simp only [List.getElem?_toArray, List.getElem?_cons_zero, List.getElem?_cons_succ]; rfl
      case hQz15 => exact fun _ _ _ h => h
      case hyz15 => refine yields_loadBSP (fun W hW => BR3.out.ext hW) aggKey hsz ?_ _ rfl rfl; rfl
      try simp only [Act.put, List.setIfInBounds_toArray, List.set_cons_zero, List.set_cons_succ]
      refine wpAnyH_take (i := 1) (oi := ?oiz16) (v := ?vz16) ?hiz16 (by kernel_rfl) (by kernel_rfl) (by kernel_rfl) ?hQz16 ?hyz16 (by assumption) ?restz16
      case hiz16 => simp only [List.getElem?_toArray, List.getElem?_cons_zero, List.getElem?_cons_succ]; rfl
      case hQz16 => exact fun _ _ _ h => h
      case hyz16 => exact Or.inl ⟨by rfl, by intro w hSw; (try dsimp only at hSw); go_simp; with_reducible rfl⟩
      try simp only [Act.put, List.setIfInBounds_toArray, List.set_cons_zero, List.set_cons_succ]
      refine wpAnyH_take (i := 2) (oi := ?oiz17) (v := ?vz17) ?hiz17 (by kernel_rfl) (by kernel_rfl) (by kernel_rfl) ?hQz17 ?hyz17 (by assumption) ?restz17
      case hiz17 => simp only [List.getElem?_toArray, List.getElem?_cons_zero, List.getElem?_cons_succ]; rfl
      case hQz17 => exact fun _ _ _ h => h
      case hyz17 => exact Or.inl ⟨by rfl, by intro w hSw; (try dsimp only at hSw); go_simp; with_reducible rfl⟩
      try simp only [Act.put, List.setIfInBounds_toArray, List.set_cons_zero, List.set_cons_succ]
      refine wpAnyH_take (i := 3) (oi := ?oiz18) (v := ?vz18) ?hiz18 (by kernel_rfl) (by kernel_rfl) (by kernel_rfl) ?hQz18 ?hyz18 (by assumption) ?restz18
      case hiz18 => simp only [List.getElem?_toArray, List.getElem?_cons_zero, List.getElem?_cons_succ]; rfl
      case hQz18 => exact fun _ _ _ h => h
      case hyz18 => exact Or.inl ⟨by rfl, by intro w hSw; (try dsimp only at hSw); go_simp; with_reducible rfl⟩
      try simp only [Act.put, List.setIfInBounds_toArray, List.set_cons_zero, List.set_cons_succ]
      refine wpAnyH_take (i := 4) (oi := ?oiz19) (v := ?vz19) ?hiz19 (by kernel_rfl) (by kernel_rfl) (by kernel_rfl) ?hQz19 ?hyz19 (by assumption) ?restz19
      case hiz19 => simp only [List.getElem?_toArray, List.getElem?_cons_zero, List.getElem?_cons_succ]; rfl
      case hQz19 => exact fun _ _ _ h => h
      case hyz19 => exact Or.inl ⟨by rfl, by intro w hSw; (try dsimp only at hSw); go_simp; with_reducible rfl⟩
      try simp only [Act.put, List.setIfInBounds_toArray, List.set_cons_zero, List.set_cons_succ]
      refine wpAnyH_take (i := 5) (oi := ?oiz20) (v := ?vz20) ?hiz20 (by kernel_rfl) (by kernel_rfl) (by kernel_rfl) ?hQz20 ?hyz20 (by assumption) ?restz20
      case hiz20 => simp only [List.getElem?_toArray, List.getElem?_cons_zero, List.getElem?_cons_succ]; rfl
      case hQz20 => exact fun _ _ _ h => h
      case hyz20 => exact Or.inl ⟨by rfl, by intro w hSw; (try dsimp only at hSw); go_simp; with_reducible rfl⟩
      try simp only [Act.put, List.setIfInBounds_toArray, List.set_cons_zero, List.set_cons_succ]
      refine wpAnyH_take (i := 6) (oi := ?oiz21) (v := (.agg (numsA .u8 lf))) ?hiz21 (by kernel_rfl) (by kernel_rfl) (by kernel_rfl) ?hQz21 ?hyz21 (by assumption) ?restz21
      case hiz21 => simp only [List.getElem?_toArray, List.getElem?_cons_zero, List.getElem?_cons_succ]; rfl
      case hQz21 => exact fun _ _ _ h => h
      case hyz21 => refine yields_loadSP g (o + i * 32) (tKey.enc lf) (by rw [tKey.len _ HKI.out]; exact aggKey) (fun W hW => HC.out W (HX3.out.trans hW)) ?_ _ rfl rfl; rfl
      try simp only [Act.put, List.setIfInBounds_toArray, List.set_cons_zero, List.set_cons_succ]
      refine wpAnyH_take (i := 7) (oi := ?oiz22) (v := ?vz22) ?hiz22 (by kernel_rfl) (by kernel_rfl) (by kernel_rfl) ?hQz22 ?hyz22 (by assumption) ?restz22
      case hiz22 => simp only [List.getElem?_toArray, List.getElem?_cons_zero, List.getElem?_cons_succ]; rfl
      case hQz22 => exact fun _ _ _ h => h
      case hyz22 => exact Or.inl ⟨by rfl, by intro w hSw; (try dsimp only at hSw); go_simp; with_reducible rfl⟩
      try simp only [Act.put, List.setIfInBounds_toArray, List.set_cons_zero, List.set_cons_succ]
      refine wpAnyH_ready (rs := [8]) (by kernel_rfl) (by simp) (AllReadyH.cons (o := ?oy238) ?hy238 (fun K hK => ?sy238) AllReadyH.nil)
      case hy238 => simp only [List.getElem?_toArray, List.getElem?_cons_zero, List.getElem?_cons_succ]; rfl
      go_simp
      refine (hcr.out lf _ _ (HRP3.out.ext (by decide) hHeld)).mono ?_
      rintro e wG ⟨rfl, hx⟩
      have hH2 := hHeld.trans hx
      refine hK.out _ _ hH2 (fun _ => ?_)
      clear hHeld hK K
      have hHeld := hH2
      clear hH2
      try simp only [Act.put, List.setIfInBounds_toArray, List.set_cons_zero, List.set_cons_succ]
      refine wpAnyH_take (i := 9) (oi := ?oiz24) (v := ?vz24) ?hiz24 (by kernel_rfl) (by kernel_rfl) (by kernel_rfl) ?hQz24 ?hyz24 (by assumption) ?restz24
      case hiz24 => simp only [List.getElem?_toArray, List.getElem?_cons_zero, List.getElem?_cons_succ]; rfl
      case hQz24 => exact fun _ _ _ h => h
      case hyz24 => exact Or.inl ⟨by rfl, by intro w hSw; (try dsimp only at hSw); go_simp; with_reducible rfl⟩
      try simp only [Act.put, List.setIfInBounds_toArray, List.set_cons_zero, List.set_cons_succ]
      refine wpAnyH_take (i := 10) (oi := ?oiz25) (v := ?vz25) ?hiz25 (by kernel_rfl) (by kernel_rfl) (by kernel_rfl) ?hQz25 ?hyz25 (by assumption) ?restz25
      case hiz25 => simp only [List.getElem?_toArray, List.getElem?_cons_zero, List.getElem?_cons_succ]; rfl
      case hQz25 => exact fun _ _ _ h => h
      case hyz25 => exact Or.inl ⟨by rfl, by intro w hSw; (try dsimp only at hSw); go_simp; with_reducible rfl⟩
      try simp only [Act.put, List.setIfInBounds_toArray, List.set_cons_zero, List.set_cons_succ]
      refine wpAnyH_take (i := 11) (oi := ?oiz26) (v := ?vz26) ?hiz26 (by kernel_rfl) (by kernel_rfl) (by kernel_rfl) ?hQz26 ?hyz26 (by assumption) ?restz26
      case hiz26 => simp only [List.getElem?_toArray, List.getElem?_cons_zero, List.getElem?_cons_succ]; rfl
      case hQz26 => exact fun _ _ _ h => h
      case hyz26 => exact Or.inl ⟨by rfl, by intro w hSw; (try dsimp only at hSw); go_simp; with_reducible rfl⟩
      try simp only [Act.put, List.setIfInBounds_toArray, List.set_cons_zero, List.set_cons_succ]
      refine wpAnyH_take (i := 12) (oi := ?oiz27) (v := ?vz27) ?hiz27 (by kernel_rfl) (by kernel_rfl) (by kernel_rfl) ?hQz27 ?hyz27 (by assumption) ?restz27
      case hiz27 => simp only [List.getElem?_toArray, List.getElem?_cons_zero, List.getElem?_cons_succ]; rfl
      case hQz27 => exact fun _ _ _ h => h
      case hyz27 => exact Or.inl ⟨by rfl, by intro w hSw; (try dsimp only at hSw); go_simp; with_reducible rfl⟩
      try simp only [Act.put, List.setIfInBounds_toArray, List.set_cons_zero, List.set_cons_succ]
      refine wpAnyH_take (i := 13) (oi := ?oiz28) (v := ?vz28) ?hiz28 (by kernel_rfl) (by kernel_rfl) (by kernel_rfl) ?hQz28 ?hyz28 (by assumption) ?restz28
      case hiz28 => simp only [List.getElem?_toArray, List.getElem?_cons_zero, List.getElem?_cons_succ]; rfl
      case hQz28 => exact fun _ _ _ h => h
      case hyz28 => exact Or.inl ⟨by rfl, by intro w hSw; (try dsimp only at hSw); go_simp; with_reducible rfl⟩
      try simp only [Act.put, List.setIfInBounds_toArray, List.set_cons_zero, List.set_cons_succ]
      have BR4 := Lib.hid (BR3.out.ext hHeld)
      have HX4 := Lib.hid (HX3.out.trans hHeld)
      have HRP4 := Lib.hid (HRP3.out.ext (by decide) hHeld)
      have EX4 := Lib.hid (EX3.out.trans hHeld)
      clear hHeld BR3 HX3 HRP3 EX3
      refine wpAnyH_done (by kernel_rfl) ?_ _
      go_wp2_with (refine wpl_load ⟨g, o + i * 32, none⟩ (tKey.enc lf) (by rw [tKey.len _ HKI.out]; exact aggKey) rfl _ rfl rfl (fun j u hu => by rw [Addr.add_lit]; exact HC.out _ HX4.out j u hu) ?_)
      refine (hco.out lf HKI.out _ _ (HR.out.ext (by decide) HX4.out) HRP4.out).mono ?_
      rintro e wH ⟨C, code, rfl, hcl7, hx⟩
      have hc6 : code = 6 := by
        rcases hcl7.2 with ⟨h, _⟩ | ⟨_, _, h⟩ | ⟨_, h, _⟩
        · exact absurd hpc.out h
        · exact h
        · exact absurd rfl h
      subst hc6
      have hstC := St.nums (k := .u8) hcl7.1
      have hstf := St.nums (k := .u8) HKI.out.1
      have BR5 := Lib.hid ((BR4.out.ext hx).alloc (.cells (numsA .u8 C) 62))
      have HX5 := Lib.hid ((HX4.out.trans hx).alloc (.cells (numsA .u8 C) 62))
      have HRP5 := Lib.hid (HRP4.out.ext (by decide) (hx.alloc (.cells (numsA .u8 C) 62)))
      have EX5 := Lib.hid ((EX4.out.trans hx).alloc (.cells (numsA .u8 C) 62))
      clear hx hcl7 EX4
      go_wp2_with (first
        | (refine wpl_storeNewB aggClash hstC rfl rfl _ _ rfl rfl rfl rfl ?_; generalize wH.alloc (.cells (numsA .u8 C) 62) = wI0 at BR5 HX5 HRP5 EX5 ⊢)
        | (refine wpl_storeNewB aggKey hstf rfl rfl _ _ rfl rfl rfl rfl ?_)
        | (refine wpl_load ⟨g, o + i * 32, none⟩ (tKey.enc lf) (by rw [tKey.len _ HKI.out]; exact aggKey) rfl _ rfl rfl (fun j u hu => by rw [Addr.add_lit]; exact HC.out _ HX5.out j u hu) ?_))
      have BR6 := Lib.hid (BR5.out.alloc (.cells (numsA .u8 lf) 28))
      have HX6 := Lib.hid (HX5.out.alloc (.cells (numsA .u8 lf) 28))
      have EX6 := Lib.hid (EX5.out.alloc (.cells (numsA .u8 lf) 28))
      have HGF7 := Lib.hid (show w7.heap.size ≤ wI0.heap.size from EX5.out.size)
      have HRP6 := Lib.hid (HRP5.out.ext (by decide) (ext_alloc wI0 (.cells (numsA .u8 lf) 28)))
      have BF := Lib.hid (Blk.new wI0 28 (numsA .u8 lf))
      have HGF := Lib.hid (show w3.heap.size ≤ wI0.heap.size from HX5.out.size)
      have HGE := Lib.hid (show gR ≠ wI0.heap.size from fun e => by have := BR5.out.lt; omega)
      generalize wI0.heap.size = gF at BF HGF HGF7 HGE ⊢
      generalize wI0.alloc (.cells (numsA .u8 lf) 28) = wI at BR6 HX6 HRP6 EX6 BF ⊢
      clear BR5 HRP5 EX5 BR4 HX4 HRP4 HX5 hstC
      refine wp_region_f [10] (S := fun W => Ext wI W) (by kernel_rfl) ((Ext.refl wI).drew) (fun hHeld => ?_)
      refine wpF_take (i := 0) (oi := ?oiz29) (v := ?vz29) ?hiz29 (by kernel_rfl) (by kernel_rfl) (by kernel_rfl) (by kernel_rfl) ?hQz29 ?hyz29 (by assumption) ?restz29
      case hiz29 => simp only [List.getElem?_toArray, List.getElem?_cons_zero, List.getElem?_cons_succ]; rfl
      case hQz29 => exact fun _ _ _ h => h
      case hyz29 => exact Or.inl ⟨by rfl, by intro w hSw; (try dsimp only at hSw); go_simp; with_reducible rfl⟩
      try simp only [Act.put, List.setIfInBounds_toArray, List.set_cons_zero, List.set_cons_succ]
      refine wpF_take (i := 4) (oi := ?oiz30) (v := ?vz30) ?hiz30 (by kernel_rfl) (by kernel_rfl) (by kernel_rfl) (by kernel_rfl) ?hQz30 ?hyz30 (by assumption) ?restz30
      case hiz30 => simp only [List.getElem?_toArray, List.getElem?_cons_zero, List.getElem?_cons_succ]; rfl
      case hQz30 => exact fun _ _ _ h => h
      case hyz30 => exact Or.inl ⟨by rfl, by intro w hSw; (try dsimp only at hSw); go_simp; with_reducible rfl⟩
      try simp only [Act.put, List.setIfInBounds_toArray, List.set_cons_zero, List.set_cons_succ]
      generalize wI.drew = wJ at hHeld ⊢
      refine wpF_ready (rs := [1]) (by kernel_rfl) (by simp) (AllF.cons (o := ?oy311) ?hy311 (fun K hK => ?sy311) AllF.nil)
      case hy311 => simp only [List.getElem?_toArray, List.getElem?_cons_zero, List.getElem?_cons_succ]; rfl
      go_simp
      refine (a2At_any _ x1 2 32 (by omega) _ _ (H1.out.ext (by decide) ((X3.out.trans HX6.out).trans hHeld)) (by omega)).mono ?_
      rintro e wJ' ⟨tI, rfl, ht0, ht1, rfl⟩
      refine hK.out _ _ (fun _ _ => hHeld) ?_
      clear hK K
      obtain ⟨t, rfl⟩ : ∃ t : Nat, tI = t := ⟨tI.toNat, by omega⟩
      have ht32 : t < 32 := by omega
      have t0 : (0 : Int) ≤ (t : Int) := by omega
      have t1 : (t : Int) < 32 := by omega
      clear ht0 ht1
      try simp only [Act.put, List.setIfInBounds_toArray, List.set_cons_zero, List.set_cons_succ]
      refine wpF_take (i := 2) (oi := ?oiz32) (v := (.pointer (some ⟨gF, t, none⟩))) ?hiz32 (by kernel_rfl) (by kernel_rfl) (by kernel_rfl) (by kernel_rfl) ?hQz32 ?hyz32 (by assumption) ?restz32
      case hiz32 => simp only [List.getElem?_toArray, List.getElem?_cons_zero, List.getElem?_cons_succ]; rfl
      case hQz32 => exact fun _ _ _ h => h
      case hyz32 => exact Or.inl ⟨by rfl, by intro w hSw; (try dsimp only at hSw); go_simp; (try with_reducible rfl)⟩
      try simp only [Act.put, List.setIfInBounds_toArray, List.set_cons_zero, List.set_cons_succ]
      refine wpF_take (i := 3) (oi := ?oiz33) (v := (.int .u8 (gI lf t))) ?hiz33 (by kernel_rfl) (by kernel_rfl) (by kernel_rfl) (by kernel_rfl) ?hQz33 ?hyz33 (by assumption) ?restz33
      case hiz33 => simp only [List.getElem?_toArray, List.getElem?_cons_zero, List.getElem?_cons_succ]; rfl
      case hQz33 => exact fun _ _ _ h => h
      case hyz33 => exact Or.inl ⟨by rfl, by intro w hSw; (try dsimp only at hSw); have hcq := (BF.out.ext hSw).num t (by rw [HKI.out.1]; exact ht32); go_simp; (try with_reducible rfl)⟩
      try simp only [Act.put, List.setIfInBounds_toArray, List.set_cons_zero, List.set_cons_succ]
      refine wpF_ready (rs := [5]) (by kernel_rfl) (by simp) (AllF.cons (o := ?oy345) ?hy345 (fun K hK => ?sy345) AllF.nil)
      case hy345 => simp only [List.getElem?_toArray, List.getElem?_cons_zero, List.getElem?_cons_succ]; rfl
      go_simp
      refine (a2At_any _ x1 3 255 (by omega) _ _ (H1.out.ext (by decide) ((X3.out.trans HX6.out).trans hHeld)) (by omega)).mono ?_
      rintro e wJ' ⟨b, rfl, hb0, hb1, rfl⟩
      refine hK.out _ _ (fun _ _ => hHeld) ?_
      clear hK K
      have hb2 : b ≤ 254 := by omega
      have hwb : IntKind.i64.wrap (1 + b) = 1 + b := IntWalk.i64_in _ (by omega)
      have hub : IntKind.u8.wrap (1 + b) = 1 + b := u8_in _ (by omega) (by omega)
      clear hb1
      try simp only [Act.put, List.setIfInBounds_toArray, List.set_cons_zero, List.set_cons_succ]
      refine wpF_take (i := 6) (oi := ?oiz35) (v := (.int .i64 (1 + b))) ?hiz35 (by kernel_rfl) (by kernel_rfl) (by kernel_rfl) (by kernel_rfl) ?hQz35 ?hyz35 (by assumption) ?restz35
      case hiz35 => simp only [List.getElem?_toArray, List.getElem?_cons_zero, List.getElem?_cons_succ]; rfl
      case hQz35 => exact fun _ _ _ h => h
      case hyz35 => exact Or.inl ⟨by rfl, by intro w hSw; (try dsimp only at hSw); go_simp; (try with_reducible rfl)⟩
      try simp only [Act.put, List.setIfInBounds_toArray, List.set_cons_zero, List.set_cons_succ]
      refine wpF_take (i := 7) (oi := ?oiz36) (v := (.int .u8 (1 + b))) ?hiz36 (by kernel_rfl) (by kernel_rfl) (by kernel_rfl) (by kernel_rfl) ?hQz36 ?hyz36 (by assumption) ?restz36
      case hiz36 => simp only [List.getElem?_toArray, List.getElem?_cons_zero, List.getElem?_cons_succ]; rfl
      case hQz36 => exact fun _ _ _ h => h
      case hyz36 => exact Or.inl ⟨by rfl, by intro w hSw; (try dsimp only at hSw); go_simp; (try with_reducible rfl)⟩
      try simp only [Act.put, List.setIfInBounds_toArray, List.set_cons_zero, List.set_cons_succ]
      refine wpF_take (i := 8) (oi := ?oiz37) (v := ?vz37) ?hiz37 (by kernel_rfl) (by kernel_rfl) (by kernel_rfl) (by kernel_rfl) ?hQz37 ?hyz37 (by assumption) ?restz37
      case hiz37 => simp only [List.getElem?_toArray, List.getElem?_cons_zero, List.getElem?_cons_succ]; rfl
      case hQz37 => exact fun _ _ _ h => h
      case hyz37 => exact Or.inl ⟨by rfl, by intro w hSw; (try dsimp only at hSw); go_simp; with_reducible rfl⟩
      try simp only [Act.put, List.setIfInBounds_toArray, List.set_cons_zero, List.set_cons_succ]
      have hX := xor_u8 (gI lf t) (1 + b) (HKI.out.2.get t).1 (HKI.out.2.get t).2 (by omega) (by omega)
      generalize bits BinOp.xor IntKind.u8 (gI lf t) (1 + b) = X at hX ⊢
      have HXX := Lib.hid hX
      clear hX hwb hub hb0 hb2
      refine wpF_late (i := 9) (oi := ?oiz38) (v := (.pointer (some ⟨gF, t, none⟩))) ?hiz38 (by kernel_rfl) (by kernel_rfl) (by kernel_rfl) ?hQz38 ?hyz38 ?restz38
      case hiz38 => simp only [List.getElem?_toArray, List.getElem?_cons_zero, List.getElem?_cons_succ]; rfl
      case hQz38 => exact fun _ _ _ h => h
      case hyz38 => exact Or.inl ⟨by rfl, by intro w hSw; (try dsimp only at hSw); go_simp; (try with_reducible rfl)⟩
      try simp only [Act.put, List.setIfInBounds_toArray, List.set_cons_zero, List.set_cons_succ]
      refine wpF_ready (rs := [10]) (by kernel_rfl) (by simp) (AllF.cons (o := ?oy3910) ?hy3910 (fun K hK => ?sy3910) AllF.nil)
      case hy3910 => simp only [List.getElem?_toArray, List.getElem?_cons_zero, List.getElem?_cons_succ]; rfl
      have ct := (BF.out.ext hHeld).num t (by rw [HKI.out.1]; exact ht32)
      have cf := (BF.out.ext hHeld).free t
      go_simp
      refine hK.out _ _ (fun h => absurd (by decide) h) ?_
      have BF7 := Lib.hid (by have := (BF.out.ext hHeld).set t (.int .u8 X); rwa [numsA_set] at this)
      have BR7 := Lib.hid ((BR6.out.ext hHeld).far (p := ⟨gF, t, none⟩) HGE.out (.int .u8 X))
      have HX7 := Lib.hid ((HX6.out.trans hHeld).set (p := ⟨gF, t, none⟩) HGF.out (.int .u8 X))
      have EX7 := Lib.hid ((EX6.out.trans hHeld).set (p := ⟨gF, t, none⟩) HGF7.out (.int .u8 X))
      clear hK K ct cf hHeld
      generalize wJ.setCell ⟨gF, t, none⟩ (.int .u8 X) = wK at BF7 BR7 HX7 EX7 ⊢
      try simp only [Act.put, List.setIfInBounds_toArray, List.set_cons_zero, List.set_cons_succ]
      refine wpF_done (by kernel_rfl) ?_ _
      have HKL := Lib.hid (HKI.out.setA t HXX.out.1 HXX.out.2.1)
      have HNE := Lib.hid (show lf.set t X ≠ lf from fun e => by
        have h1 : (lf.set t X)[t]'(by rw [List.length_set, HKI.out.1]; exact ht32) = X := List.getElem_set_self ..
        have h2 : gI lf t = X := by
          rw [gI_lt (by rw [HKI.out.1]; exact ht32)]
          rw [← h1]
          congr 1
          exact e.symm
        exact HXX.out.2.2 h2.symm)
      generalize lf.set t X = lg at BF7 HKL HNE
      have hsg := sizeN (k := .u8) HKL.out.1
      clear BR6 HX6 EX6 HRP6 BF HXX t0 t1 ht32
      go_wp2_with (first
        | (refine wpl_loadB BR7.out aggKey hsz rfl _ rfl rfl ?_)
        | (refine wpl_loadB BF7.out aggKey hsg rfl _ rfl rfl ?_))
      refine (hch.out lg HKL.out _ _ (HP7.out.ext (by decide) EX7.out)).mono ?_
      rintro e wL ⟨rfl, hx⟩
      have BF8 := Lib.hid (BF7.out.ext hx)
      have HX8 := Lib.hid (HX7.out.trans hx)
      have EX8 := Lib.hid (EX7.out.trans hx)
      clear hx BF7 BR7 HX7 EX7
      go_wp2_with (refine wpl_loadB BF8.out aggKey hsg rfl _ rfl rfl ?_)
      refine (hco.out lg HKL.out _ _ (HR.out.ext (by decide) HX8.out) (HP7.out.ext (by decide) EX8.out)).mono ?_
      rintro e wM ⟨C2, code2, rfl, hcl2, hx⟩
      have HX9 := Lib.hid (HX8.out.trans hx)
      have hstC2 := St.nums (k := .u8) hcl2.1
      have hszC2 := sizeN (k := .u8) hcl2.1
      have HCL := Lib.hid hcl2.2
      clear hx hcl2 BF8 HX8 EX8
      have BC := Lib.hid (Blk.new wM 62 (numsA .u8 C2))
      have HXE := Lib.hid (HX9.out.alloc (.cells (numsA .u8 C2) 62))
      by_cases he : chk lg ps bs = L
      · rcases HCL.out with ⟨h, _⟩ | ⟨_, h, _⟩ | ⟨_, _, hc0, a, b, c, d, ha, hb, hc, hd, hC2, hun, hnd⟩
        · exact absurd he h
        · exact absurd HNE.out h
        have HVS := Lib.hid (fun W => show Calls Try.prog 33 #[.agg (numsA .u8 C2)] W fun q w' => q = .returned (.bool true) ∧ Ext W w' by
          have := validClashS_any a b c d ha hb hc hd hun W
          rwa [decide_eq_true hnd, ← hC2] at this)
        have HVI := Lib.hid (fun W => show Calls Try.prog 34 #[.agg (numsA .u8 C2)] W fun q w' => q = .returned (.bool true) ∧ Ext W w' by
          have := validClashI_any a b c d ha hb hc hd hun W
          rwa [decide_eq_true hnd, ← hC2] at this)
        subst hc0
        rw [decide_eq_true he]
        clear he ha hb hc hd hC2 hun hnd HCL
        go_wp2_with (first
          | (refine wpl_storeNewB aggClash hstC2 rfl rfl _ _ rfl rfl rfl rfl ?_)
          | (refine wpl_loadBW BC.out aggClash hszC2 rfl _ rfl rfl ?_))
        refine (HVS.out _).mono ?_
        rintro e wN ⟨rfl, hx⟩
        have BC2 := Lib.hid (BC.out.ext hx)
        replace HXE := Lib.hid (HXE.out.trans hx)
        clear hx
        go_wp2_with (refine wpl_loadBW BC2.out aggClash hszC2 rfl _ rfl rfl ?_)
        refine (HVI.out _).mono ?_
        rintro e wO ⟨rfl, hx⟩
        replace HXE := Lib.hid (HXE.out.trans hx)
        clear hx
        go_wp2
        go_ret
        exact ⟨rfl, X3.out.trans HXE.out⟩
      · have hc4 : code2 = 4 := by
          rcases HCL.out with ⟨_, h⟩ | ⟨h, _⟩ | ⟨h, _⟩
          · exact h
          · exact absurd h he
          · exact absurd h he
        subst hc4
        rw [decide_eq_false he]
        clear he HCL
        go_wp2_with (refine wpl_storeNewB aggClash hstC2 rfl rfl _ _ rfl rfl rfl rfl ?_)
        go_ret
        exact ⟨rfl, X3.out.trans HXE.out⟩
    refine wp_region_held_drew (S := fun W => Ext w9 W) (by kernel_rfl) ((Ext.refl w9).drew) (fun hHeld => ?_)
    refine wpAnyH_take (i := 0) (oi := ?oiz40) (v := (.agg (numsA .u8 L))) ?hiz40 (by kernel_rfl) (by kernel_rfl) (by kernel_rfl) ?hQz40 ?hyz40 (by assumption) ?restz40
    case hiz40 => simp only [List.getElem?_toArray, List.getElem?_cons_zero, List.getElem?_cons_succ]; rfl
    case hQz40 => exact fun _ _ _ h => h
    case hyz40 => refine yields_loadBSP (fun W hW => BR2.out.ext hW) aggKey hsz ?_ _ rfl rfl; rfl
    try simp only [Act.put, List.setIfInBounds_toArray, List.set_cons_zero, List.set_cons_succ]
    refine wpAnyH_take (i := 1) (oi := ?oiz41) (v := ?vz41) ?hiz41 (by kernel_rfl) (by kernel_rfl) (by kernel_rfl) ?hQz41 ?hyz41 (by assumption) ?restz41
    case hiz41 => simp only [List.getElem?_toArray, List.getElem?_cons_zero, List.getElem?_cons_succ]; rfl
    case hQz41 => exact fun _ _ _ h => h
    case hyz41 => exact Or.inl ⟨by rfl, by intro w hSw; (try dsimp only at hSw); go_simp; with_reducible rfl⟩
    try simp only [Act.put, List.setIfInBounds_toArray, List.set_cons_zero, List.set_cons_succ]
    refine wpAnyH_take (i := 2) (oi := ?oiz42) (v := ?vz42) ?hiz42 (by kernel_rfl) (by kernel_rfl) (by kernel_rfl) ?hQz42 ?hyz42 (by assumption) ?restz42
    case hiz42 => simp only [List.getElem?_toArray, List.getElem?_cons_zero, List.getElem?_cons_succ]; rfl
    case hQz42 => exact fun _ _ _ h => h
    case hyz42 => exact Or.inl ⟨by rfl, by intro w hSw; (try dsimp only at hSw); go_simp; with_reducible rfl⟩
    try simp only [Act.put, List.setIfInBounds_toArray, List.set_cons_zero, List.set_cons_succ]
    refine wpAnyH_take (i := 3) (oi := ?oiz43) (v := ?vz43) ?hiz43 (by kernel_rfl) (by kernel_rfl) (by kernel_rfl) ?hQz43 ?hyz43 (by assumption) ?restz43
    case hiz43 => simp only [List.getElem?_toArray, List.getElem?_cons_zero, List.getElem?_cons_succ]; rfl
    case hQz43 => exact fun _ _ _ h => h
    case hyz43 => exact Or.inl ⟨by rfl, by intro w hSw; (try dsimp only at hSw); go_simp; with_reducible rfl⟩
    try simp only [Act.put, List.setIfInBounds_toArray, List.set_cons_zero, List.set_cons_succ]
    refine wpAnyH_take (i := 4) (oi := ?oiz44) (v := ?vz44) ?hiz44 (by kernel_rfl) (by kernel_rfl) (by kernel_rfl) ?hQz44 ?hyz44 (by assumption) ?restz44
    case hiz44 => simp only [List.getElem?_toArray, List.getElem?_cons_zero, List.getElem?_cons_succ]; rfl
    case hQz44 => exact fun _ _ _ h => h
    case hyz44 => exact Or.inl ⟨by rfl, by intro w hSw; (try dsimp only at hSw); go_simp; with_reducible rfl⟩
    try simp only [Act.put, List.setIfInBounds_toArray, List.set_cons_zero, List.set_cons_succ]
    refine wpAnyH_take (i := 5) (oi := ?oiz45) (v := ?vz45) ?hiz45 (by kernel_rfl) (by kernel_rfl) (by kernel_rfl) ?hQz45 ?hyz45 (by assumption) ?restz45
    case hiz45 => simp only [List.getElem?_toArray, List.getElem?_cons_zero, List.getElem?_cons_succ]; rfl
    case hQz45 => exact fun _ _ _ h => h
    case hyz45 => exact Or.inl ⟨by rfl, by intro w hSw; (try dsimp only at hSw); go_simp; with_reducible rfl⟩
    try simp only [Act.put, List.setIfInBounds_toArray, List.set_cons_zero, List.set_cons_succ]
    refine wpAnyH_take (i := 6) (oi := ?oiz46) (v := (.agg (numsA .u8 lf))) ?hiz46 (by kernel_rfl) (by kernel_rfl) (by kernel_rfl) ?hQz46 ?hyz46 (by assumption) ?restz46
    case hiz46 => simp only [List.getElem?_toArray, List.getElem?_cons_zero, List.getElem?_cons_succ]; rfl
    case hQz46 => exact fun _ _ _ h => h
    case hyz46 => refine yields_loadSP g (o + i * 32) (tKey.enc lf) (by rw [tKey.len _ HKI.out]; exact aggKey) (fun W hW => HC.out W (HX2.out.trans hW)) ?_ _ rfl rfl; rfl
    try simp only [Act.put, List.setIfInBounds_toArray, List.set_cons_zero, List.set_cons_succ]
    refine wpAnyH_take (i := 8) (oi := ?oiz47) (v := ?vz47) ?hiz47 (by kernel_rfl) (by kernel_rfl) (by kernel_rfl) ?hQz47 ?hyz47 (by assumption) ?restz47
    case hiz47 => simp only [List.getElem?_toArray, List.getElem?_cons_zero, List.getElem?_cons_succ]; rfl
    case hQz47 => exact fun _ _ _ h => h
    case hyz47 => exact Or.inl ⟨by rfl, by intro w hSw; (try dsimp only at hSw); go_simp; with_reducible rfl⟩
    try simp only [Act.put, List.setIfInBounds_toArray, List.set_cons_zero, List.set_cons_succ]
    refine wpAnyH_take (i := 10) (oi := ?oiz48) (v := (.agg (numsA .u8 L))) ?hiz48 (by kernel_rfl) (by kernel_rfl) (by kernel_rfl) ?hQz48 ?hyz48 (by assumption) ?restz48
    case hiz48 => simp only [List.getElem?_toArray, List.getElem?_cons_zero, List.getElem?_cons_succ]; rfl
    case hQz48 => exact fun _ _ _ h => h
    case hyz48 => refine yields_loadBSP (fun W hW => BR2.out.ext hW) aggKey hsz ?_ _ rfl rfl; rfl
    try simp only [Act.put, List.setIfInBounds_toArray, List.set_cons_zero, List.set_cons_succ]
    generalize w9.drew = wA at hHeld ⊢
    obtain ⟨Aq, cq, eq', _, _, hrq, _⟩ := HRP2.out
    obtain ⟨rfl, _, rfl⟩ := Value.slice.inj eq'
    have HRQ := Lib.hid hrq
    clear hrq eq'
    refine wpAnyH_ready (rs := [7, 11]) (by kernel_rfl) (by simp) (AllReadyH.cons (o := ?oy497) ?hy497 (fun K hK => ?sy497) (AllReadyH.cons (o := ?oy4911) ?hy4911 (fun K hK => ?sy4911) AllReadyH.nil))
    case hy497 => simp only [List.getElem?_toArray, List.getElem?_cons_zero, List.getElem?_cons_succ]; rfl
    case hy4911 => simp only [List.getElem?_toArray, List.getElem?_cons_zero, List.getElem?_cons_succ]; rfl
    case sy497 =>
      go_simp
      have HE0 := Lib.hid (Own.empty tKey wA 28 wA.heap.size (Nat.le_refl _))
      have hE := ext_alloc wA (.cells #[] 28)
      have hH2 := hHeld.trans hE
      refine hK.out _ _ hH2 (fun _ => ?_)
      have HEO := Lib.hid (show Own tKey 28 (wA.alloc (.cells #[] 28)) w9.heap.size (.slice (some ⟨wA.heap.size, 0, none⟩) 0 0) [] from HE0.out.le hHeld.size)
      clear hHeld hK K HE0 hE
      have hHeld := hH2
      clear hH2
      generalize wA.heap.size = ge at HEO ⊢
      generalize wA.alloc (.cells #[] 28) = wB at hHeld HEO ⊢
      try simp only [Act.put, List.setIfInBounds_toArray, List.set_cons_zero, List.set_cons_succ]
      refine wpAnyH_ready (rs := [9, 11]) (by kernel_rfl) (by simp) (AllReadyH.cons (o := ?oy509) ?hy509 (fun K hK => ?sy509) (AllReadyH.cons (o := ?oy5011) ?hy5011 (fun K hK => ?sy5011) AllReadyH.nil))
      case hy509 => simp only [List.getElem?_toArray, List.getElem?_cons_zero, List.getElem?_cons_succ]; rfl
      case hy5011 => simp only [List.getElem?_toArray, List.getElem?_cons_zero, List.getElem?_cons_succ]; rfl
      case sy509 =>
        refine stp_append rowKeyA rfl _ _ rfl (v := .slice (some ⟨ge, 0, none⟩) 0 0) rfl HEO.out _ _ rfl (A := Ap) (ys := ps) rfl (HRQ.out.ext (by decide) hHeld) HPO.out (by have := HPL.out; simp; omega) hHeld.size ?_
        intro v5 wC ho5 hg5 hat5
        rw [List.nil_append] at ho5
        have hE : Ext w9 wC := Own.ext_app hHeld HEO.out hg5
        have HO5 := Lib.hid ho5
        obtain ⟨C5, n5, c5, rfl⟩ := ho5.shape3
        refine hK.out _ _ hE (fun _ => ?_)
        clear hHeld hK K ho5 hg5 hat5 HEO
        have hHeld := hE
        clear hE
        try simp only [Act.put, List.setIfInBounds_toArray, List.set_cons_zero, List.set_cons_succ]
        refine wpAnyH_ready (rs := [11]) (by kernel_rfl) (by simp) (AllReadyH.cons (o := ?oy5111) ?hy5111 (fun K hK => ?sy5111) AllReadyH.nil)
        case hy5111 => simp only [List.getElem?_toArray, List.getElem?_cons_zero, List.getElem?_cons_succ]; rfl
        refine stp_one rowKeyA (by decide) L HLR.out rfl _ rfl rfl ?_
        have HL1 := Lib.hid (Blk.new wC 28 (tKey.enc L).toArray)
        have hE := ext_alloc wC (.cells (tKey.enc L).toArray 28)
        have hH2 := hHeld.trans hE
        refine hK.out _ _ hH2 (fun _ => ?_)
        replace HO5 := Lib.hid (HO5.out.ext hE)
        clear hHeld hK K hE
        have hHeld := hH2
        clear hH2
        generalize wC.heap.size = gl at HL1 ⊢
        generalize wC.alloc (.cells (tKey.enc L).toArray 28) = wD at hHeld HL1 HO5 ⊢
        try simp only [Act.put, List.setIfInBounds_toArray, List.set_cons_zero, List.set_cons_succ]
        refine wpAnyH_ready (rs := [12]) (by kernel_rfl) (by simp) (AllReadyH.cons (o := ?oy5212) ?hy5212 (fun K hK => ?sy5212) AllReadyH.nil)
        case hy5212 => simp only [List.getElem?_toArray, List.getElem?_cons_zero, List.getElem?_cons_succ]; rfl
        refine stp_append rowKeyA rfl _ _ rfl (v := .slice C5 n5 c5) rfl HO5.out _ _ rfl (A := some ⟨gl, 0, none⟩) (ys := [L]) rfl (rd_blkL HLR.out HL1.out) (by intro y hy; obtain rfl := List.mem_singleton.1 hy; exact HLR.out) (by have := HPL.out; simp; omega) hHeld.size ?_
        intro v6 wE ho6 hg6 hat6
        have hE : Ext w9 wE := Own.ext_app hHeld HO5.out hg6
        have HO6 := Lib.hid (rdl_true9 ho6.rd)
        obtain ⟨C6, n6, c6, rfl⟩ := ho6.shape3
        refine hK.out _ _ hE (fun _ => ?_)
        clear hHeld hK K ho6 hg6 hat6 HO5 HL1
        have hHeld := hE
        clear hE
        try simp only [Act.put, List.setIfInBounds_toArray, List.set_cons_zero, List.set_cons_succ]
        refine wpAnyH_ready (rs := [13]) (by kernel_rfl) (by simp) (AllReadyH.cons (o := ?oy5313) ?hy5313 (fun K hK => ?sy5313) AllReadyH.nil)
        case hy5313 => simp only [List.getElem?_toArray, List.getElem?_cons_zero, List.getElem?_cons_succ]; rfl
        go_simp
        refine (hcs.out lf L _ _ HO6.out).mono ?_
        rintro e wF ⟨rfl, hx⟩
        have hH2 := hHeld.trans hx
        refine hK.out _ _ hH2 (fun _ => ?_)
        clear hHeld hK K
        have hHeld := hH2
        clear hH2
        try simp only [Act.put, List.setIfInBounds_toArray, List.set_cons_zero, List.set_cons_succ]
        refine wpAnyH_take (i := 14) (oi := ?oiz54) (v := ?vz54) ?hiz54 (by kernel_rfl) (by kernel_rfl) (by kernel_rfl) ?hQz54 ?hyz54 (by assumption) ?restz54
        case hiz54 => simp only [List.getElem?_toArray, List.getElem?_cons_zero, List.getElem?_cons_succ]; rfl
        case hQz54 => exact fun _ _ _ h => h
        case hyz54 => exact Or.inl ⟨by rfl, by intro w hSw; (try dsimp only at hSw); go_simp; with_reducible rfl⟩
        try simp only [Act.put, List.setIfInBounds_toArray, List.set_cons_zero, List.set_cons_succ]
        refine wpAnyH_take (i := 15) (oi := ?oiz55) (v := ?vz55) ?hiz55 (by kernel_rfl) (by kernel_rfl) (by kernel_rfl) ?hQz55 ?hyz55 (by assumption) ?restz55
        case hiz55 => simp only [List.getElem?_toArray, List.getElem?_cons_zero, List.getElem?_cons_succ]; rfl
        case hQz55 => exact fun _ _ _ h => h
        case hyz55 => exact Or.inl ⟨by rfl, by intro w hSw; (try dsimp only at hSw); go_simp; with_reducible rfl⟩
        try simp only [Act.put, List.setIfInBounds_toArray, List.set_cons_zero, List.set_cons_succ]
        refine wpAnyH_take (i := 16) (oi := ?oiz56) (v := ?vz56) ?hiz56 (by kernel_rfl) (by kernel_rfl) (by kernel_rfl) ?hQz56 ?hyz56 (by assumption) ?restz56
        case hiz56 => simp only [List.getElem?_toArray, List.getElem?_cons_zero, List.getElem?_cons_succ]; rfl
        case hQz56 => exact fun _ _ _ h => h
        case hyz56 => exact Or.inl ⟨by rfl, by intro w hSw; (try dsimp only at hSw); go_simp; with_reducible rfl⟩
        try simp only [Act.put, List.setIfInBounds_toArray, List.set_cons_zero, List.set_cons_succ]
        refine wpAnyH_take (i := 17) (oi := ?oiz57) (v := ?vz57) ?hiz57 (by kernel_rfl) (by kernel_rfl) (by kernel_rfl) ?hQz57 ?hyz57 (by assumption) ?restz57
        case hiz57 => simp only [List.getElem?_toArray, List.getElem?_cons_zero, List.getElem?_cons_succ]; rfl
        case hQz57 => exact fun _ _ _ h => h
        case hyz57 => exact Or.inl ⟨by rfl, by intro w hSw; (try dsimp only at hSw); go_simp; with_reducible rfl⟩
        try simp only [Act.put, List.setIfInBounds_toArray, List.set_cons_zero, List.set_cons_succ]
        refine wpAnyH_take (i := 18) (oi := ?oiz58) (v := ?vz58) ?hiz58 (by kernel_rfl) (by kernel_rfl) (by kernel_rfl) ?hQz58 ?hyz58 (by assumption) ?restz58
        case hiz58 => simp only [List.getElem?_toArray, List.getElem?_cons_zero, List.getElem?_cons_succ]; rfl
        case hQz58 => exact fun _ _ _ h => h
        case hyz58 => exact Or.inl ⟨by rfl, by intro w hSw; (try dsimp only at hSw); go_simp; with_reducible rfl⟩
        try simp only [Act.put, List.setIfInBounds_toArray, List.set_cons_zero, List.set_cons_succ]
        have Hsorry2 := Hsorry
        clear Hsorry
        refine wpAnyH_done (by kernel_rfl) ?_ _
        exact Hsorry2 _ _ _ _ _ ⟨BR2.out.ext hHeld, HX2.out.trans hHeld, EX2.out.trans hHeld⟩
      case sy5011 =>
        have HNE := Lib.hid (show wB.heap.size ≠ ge by have := (HEO.out.base_le ge rfl).2; omega)
        refine stp_one rowKeyA (by decide) L HLR.out rfl _ rfl rfl ?_
        have HL1 := Lib.hid (Blk.new wB 28 (tKey.enc L).toArray)
        have hE := ext_alloc wB (.cells (tKey.enc L).toArray 28)
        have hH2 := hHeld.trans hE
        refine hK.out _ _ hH2 (fun _ => ?_)
        replace HEO := Lib.hid (HEO.out.ext hE)
        clear hHeld hK K hE
        have hHeld := hH2
        clear hH2
        generalize wB.heap.size = gl at HL1 HNE ⊢
        generalize wB.alloc (.cells (tKey.enc L).toArray 28) = wC at hHeld HL1 HEO ⊢
        try simp only [Act.put, List.setIfInBounds_toArray, List.set_cons_zero, List.set_cons_succ]
        refine wpAnyH_ready (rs := [9]) (by kernel_rfl) (by simp) (AllReadyH.cons (o := ?oy599) ?hy599 (fun K hK => ?sy599) AllReadyH.nil)
        case hy599 => simp only [List.getElem?_toArray, List.getElem?_cons_zero, List.getElem?_cons_succ]; rfl
        refine stp_append rowKeyA rfl _ _ rfl (v := .slice (some ⟨ge, 0, none⟩) 0 0) rfl HEO.out _ _ rfl (A := Ap) (ys := ps) rfl (HRQ.out.ext (by decide) hHeld) HPO.out (by have := HPL.out; simp; omega) hHeld.size ?_
        intro v5 wD ho5 hg5 hat5
        rw [List.nil_append] at ho5
        have hE : Ext w9 wD := Own.ext_app hHeld HEO.out hg5
        have HO5 := Lib.hid ho5
        obtain ⟨C5, n5, c5, rfl⟩ := ho5.shape3
        refine hK.out _ _ hE (fun _ => ?_)
        replace HL1 := Lib.hid (HL1.out.grown hg5 (fun e => HNE.out (Option.some.inj e)))
        clear hHeld hK K ho5 hg5 hat5 HEO
        have hHeld := hE
        clear hE
        try simp only [Act.put, List.setIfInBounds_toArray, List.set_cons_zero, List.set_cons_succ]
        refine wpAnyH_ready (rs := [12]) (by kernel_rfl) (by simp) (AllReadyH.cons (o := ?oy6012) ?hy6012 (fun K hK => ?sy6012) AllReadyH.nil)
        case hy6012 => simp only [List.getElem?_toArray, List.getElem?_cons_zero, List.getElem?_cons_succ]; rfl
        refine stp_append rowKeyA rfl _ _ rfl (v := .slice C5 n5 c5) rfl HO5.out _ _ rfl (A := some ⟨gl, 0, none⟩) (ys := [L]) rfl (rd_blkL HLR.out HL1.out) (by intro y hy; obtain rfl := List.mem_singleton.1 hy; exact HLR.out) (by have := HPL.out; simp; omega) hHeld.size ?_
        intro v6 wE ho6 hg6 hat6
        have hE : Ext w9 wE := Own.ext_app hHeld HO5.out hg6
        have HO6 := Lib.hid (rdl_true9 ho6.rd)
        obtain ⟨C6, n6, c6, rfl⟩ := ho6.shape3
        refine hK.out _ _ hE (fun _ => ?_)
        clear hHeld hK K ho6 hg6 hat6 HO5 HL1
        have hHeld := hE
        clear hE
        try simp only [Act.put, List.setIfInBounds_toArray, List.set_cons_zero, List.set_cons_succ]
        refine wpAnyH_ready (rs := [13]) (by kernel_rfl) (by simp) (AllReadyH.cons (o := ?oy6113) ?hy6113 (fun K hK => ?sy6113) AllReadyH.nil)
        case hy6113 => simp only [List.getElem?_toArray, List.getElem?_cons_zero, List.getElem?_cons_succ]; rfl
        go_simp
        refine (hcs.out lf L _ _ HO6.out).mono ?_
        rintro e wF ⟨rfl, hx⟩
        have hH2 := hHeld.trans hx
        refine hK.out _ _ hH2 (fun _ => ?_)
        clear hHeld hK K
        have hHeld := hH2
        clear hH2
        try simp only [Act.put, List.setIfInBounds_toArray, List.set_cons_zero, List.set_cons_succ]
        refine wpAnyH_take (i := 14) (oi := ?oiz62) (v := ?vz62) ?hiz62 (by kernel_rfl) (by kernel_rfl) (by kernel_rfl) ?hQz62 ?hyz62 (by assumption) ?restz62
        case hiz62 => simp only [List.getElem?_toArray, List.getElem?_cons_zero, List.getElem?_cons_succ]; rfl
        case hQz62 => exact fun _ _ _ h => h
        case hyz62 => exact Or.inl ⟨by rfl, by intro w hSw; (try dsimp only at hSw); go_simp; with_reducible rfl⟩
        try simp only [Act.put, List.setIfInBounds_toArray, List.set_cons_zero, List.set_cons_succ]
        refine wpAnyH_take (i := 15) (oi := ?oiz63) (v := ?vz63) ?hiz63 (by kernel_rfl) (by kernel_rfl) (by kernel_rfl) ?hQz63 ?hyz63 (by assumption) ?restz63
        case hiz63 => simp only [List.getElem?_toArray, List.getElem?_cons_zero, List.getElem?_cons_succ]; rfl
        case hQz63 => exact fun _ _ _ h => h
        case hyz63 => exact Or.inl ⟨by rfl, by intro w hSw; (try dsimp only at hSw); go_simp; with_reducible rfl⟩
        try simp only [Act.put, List.setIfInBounds_toArray, List.set_cons_zero, List.set_cons_succ]
        refine wpAnyH_take (i := 16) (oi := ?oiz64) (v := ?vz64) ?hiz64 (by kernel_rfl) (by kernel_rfl) (by kernel_rfl) ?hQz64 ?hyz64 (by assumption) ?restz64
        case hiz64 => simp only [List.getElem?_toArray, List.getElem?_cons_zero, List.getElem?_cons_succ]; rfl
        case hQz64 => exact fun _ _ _ h => h
        case hyz64 => exact Or.inl ⟨by rfl, by intro w hSw; (try dsimp only at hSw); go_simp; with_reducible rfl⟩
        try simp only [Act.put, List.setIfInBounds_toArray, List.set_cons_zero, List.set_cons_succ]
        refine wpAnyH_take (i := 17) (oi := ?oiz65) (v := ?vz65) ?hiz65 (by kernel_rfl) (by kernel_rfl) (by kernel_rfl) ?hQz65 ?hyz65 (by assumption) ?restz65
        case hiz65 => simp only [List.getElem?_toArray, List.getElem?_cons_zero, List.getElem?_cons_succ]; rfl
        case hQz65 => exact fun _ _ _ h => h
        case hyz65 => exact Or.inl ⟨by rfl, by intro w hSw; (try dsimp only at hSw); go_simp; with_reducible rfl⟩
        try simp only [Act.put, List.setIfInBounds_toArray, List.set_cons_zero, List.set_cons_succ]
        refine wpAnyH_take (i := 18) (oi := ?oiz66) (v := ?vz66) ?hiz66 (by kernel_rfl) (by kernel_rfl) (by kernel_rfl) ?hQz66 ?hyz66 (by assumption) ?restz66
        case hiz66 => simp only [List.getElem?_toArray, List.getElem?_cons_zero, List.getElem?_cons_succ]; rfl
        case hQz66 => exact fun _ _ _ h => h
        case hyz66 => exact Or.inl ⟨by rfl, by intro w hSw; (try dsimp only at hSw); go_simp; with_reducible rfl⟩
        try simp only [Act.put, List.setIfInBounds_toArray, List.set_cons_zero, List.set_cons_succ]
        have Hsorry2 := Hsorry
        clear Hsorry
        refine wpAnyH_done (by kernel_rfl) ?_ _
        exact Hsorry2 _ _ _ _ _ ⟨BR2.out.ext hHeld, HX2.out.trans hHeld, EX2.out.trans hHeld⟩
    case sy4911 =>
      refine stp_one rowKeyA (by decide) L HLR.out rfl _ rfl rfl ?_
      have HL1 := Lib.hid (Blk.new wA 28 (tKey.enc L).toArray)
      have hE := ext_alloc wA (.cells (tKey.enc L).toArray 28)
      have hH2 := hHeld.trans hE
      refine hK.out _ _ hH2 (fun _ => ?_)
      clear hHeld hK K hE
      have hHeld := hH2
      clear hH2
      generalize wA.heap.size = gl at HL1 ⊢
      generalize wA.alloc (.cells (tKey.enc L).toArray 28) = wB at hHeld HL1 ⊢
      try simp only [Act.put, List.setIfInBounds_toArray, List.set_cons_zero, List.set_cons_succ]
      refine wpAnyH_ready (rs := [7]) (by kernel_rfl) (by simp) (AllReadyH.cons (o := ?oy677) ?hy677 (fun K hK => ?sy677) AllReadyH.nil)
      case hy677 => simp only [List.getElem?_toArray, List.getElem?_cons_zero, List.getElem?_cons_succ]; rfl
      have HNE := Lib.hid (show gl ≠ wB.heap.size by have := HL1.out.lt; omega)
      go_simp
      have HE0 := Lib.hid (Own.empty tKey wB 28 wB.heap.size (Nat.le_refl _))
      have hE := ext_alloc wB (.cells #[] 28)
      have hH2 := hHeld.trans hE
      refine hK.out _ _ hH2 (fun _ => ?_)
      have HEO := Lib.hid (show Own tKey 28 (wB.alloc (.cells #[] 28)) w9.heap.size (.slice (some ⟨wB.heap.size, 0, none⟩) 0 0) [] from HE0.out.le hHeld.size)
      replace HL1 := Lib.hid (HL1.out.ext hE)
      clear hHeld hK K HE0 hE
      have hHeld := hH2
      clear hH2
      generalize wB.heap.size = ge at HEO HNE ⊢
      generalize wB.alloc (.cells #[] 28) = wC at hHeld HEO HL1 ⊢
      try simp only [Act.put, List.setIfInBounds_toArray, List.set_cons_zero, List.set_cons_succ]
      refine wpAnyH_ready (rs := [9]) (by kernel_rfl) (by simp) (AllReadyH.cons (o := ?oy689) ?hy689 (fun K hK => ?sy689) AllReadyH.nil)
      case hy689 => simp only [List.getElem?_toArray, List.getElem?_cons_zero, List.getElem?_cons_succ]; rfl
      refine stp_append rowKeyA rfl _ _ rfl (v := .slice (some ⟨ge, 0, none⟩) 0 0) rfl HEO.out _ _ rfl (A := Ap) (ys := ps) rfl (HRQ.out.ext (by decide) hHeld) HPO.out (by have := HPL.out; simp; omega) hHeld.size ?_
      intro v5 wD ho5 hg5 hat5
      rw [List.nil_append] at ho5
      have hE : Ext w9 wD := Own.ext_app hHeld HEO.out hg5
      have HO5 := Lib.hid ho5
      obtain ⟨C5, n5, c5, rfl⟩ := ho5.shape3
      refine hK.out _ _ hE (fun _ => ?_)
      replace HL1 := Lib.hid (HL1.out.grown hg5 (fun e => HNE.out (Option.some.inj e)))
      clear hHeld hK K ho5 hg5 hat5 HEO
      have hHeld := hE
      clear hE
      try simp only [Act.put, List.setIfInBounds_toArray, List.set_cons_zero, List.set_cons_succ]
      refine wpAnyH_ready (rs := [12]) (by kernel_rfl) (by simp) (AllReadyH.cons (o := ?oy6912) ?hy6912 (fun K hK => ?sy6912) AllReadyH.nil)
      case hy6912 => simp only [List.getElem?_toArray, List.getElem?_cons_zero, List.getElem?_cons_succ]; rfl
      refine stp_append rowKeyA rfl _ _ rfl (v := .slice C5 n5 c5) rfl HO5.out _ _ rfl (A := some ⟨gl, 0, none⟩) (ys := [L]) rfl (rd_blkL HLR.out HL1.out) (by intro y hy; obtain rfl := List.mem_singleton.1 hy; exact HLR.out) (by have := HPL.out; simp; omega) hHeld.size ?_
      intro v6 wE ho6 hg6 hat6
      have hE : Ext w9 wE := Own.ext_app hHeld HO5.out hg6
      have HO6 := Lib.hid (rdl_true9 ho6.rd)
      obtain ⟨C6, n6, c6, rfl⟩ := ho6.shape3
      refine hK.out _ _ hE (fun _ => ?_)
      clear hHeld hK K ho6 hg6 hat6 HO5 HL1
      have hHeld := hE
      clear hE
      try simp only [Act.put, List.setIfInBounds_toArray, List.set_cons_zero, List.set_cons_succ]
      refine wpAnyH_ready (rs := [13]) (by kernel_rfl) (by simp) (AllReadyH.cons (o := ?oy7013) ?hy7013 (fun K hK => ?sy7013) AllReadyH.nil)
      case hy7013 => simp only [List.getElem?_toArray, List.getElem?_cons_zero, List.getElem?_cons_succ]; rfl
      go_simp
      refine (hcs.out lf L _ _ HO6.out).mono ?_
      rintro e wF ⟨rfl, hx⟩
      have hH2 := hHeld.trans hx
      refine hK.out _ _ hH2 (fun _ => ?_)
      clear hHeld hK K
      have hHeld := hH2
      clear hH2
      try simp only [Act.put, List.setIfInBounds_toArray, List.set_cons_zero, List.set_cons_succ]
      refine wpAnyH_take (i := 14) (oi := ?oiz71) (v := ?vz71) ?hiz71 (by kernel_rfl) (by kernel_rfl) (by kernel_rfl) ?hQz71 ?hyz71 (by assumption) ?restz71
      case hiz71 => simp only [List.getElem?_toArray, List.getElem?_cons_zero, List.getElem?_cons_succ]; rfl
      case hQz71 => exact fun _ _ _ h => h
      case hyz71 => exact Or.inl ⟨by rfl, by intro w hSw; (try dsimp only at hSw); go_simp; with_reducible rfl⟩
      try simp only [Act.put, List.setIfInBounds_toArray, List.set_cons_zero, List.set_cons_succ]
      refine wpAnyH_take (i := 15) (oi := ?oiz72) (v := ?vz72) ?hiz72 (by kernel_rfl) (by kernel_rfl) (by kernel_rfl) ?hQz72 ?hyz72 (by assumption) ?restz72
      case hiz72 => simp only [List.getElem?_toArray, List.getElem?_cons_zero, List.getElem?_cons_succ]; rfl
      case hQz72 => exact fun _ _ _ h => h
      case hyz72 => exact Or.inl ⟨by rfl, by intro w hSw; (try dsimp only at hSw); go_simp; with_reducible rfl⟩
      try simp only [Act.put, List.setIfInBounds_toArray, List.set_cons_zero, List.set_cons_succ]
      refine wpAnyH_take (i := 16) (oi := ?oiz73) (v := ?vz73) ?hiz73 (by kernel_rfl) (by kernel_rfl) (by kernel_rfl) ?hQz73 ?hyz73 (by assumption) ?restz73
      case hiz73 => simp only [List.getElem?_toArray, List.getElem?_cons_zero, List.getElem?_cons_succ]; rfl
      case hQz73 => exact fun _ _ _ h => h
      case hyz73 => exact Or.inl ⟨by rfl, by intro w hSw; (try dsimp only at hSw); go_simp; with_reducible rfl⟩
      try simp only [Act.put, List.setIfInBounds_toArray, List.set_cons_zero, List.set_cons_succ]
      refine wpAnyH_take (i := 17) (oi := ?oiz74) (v := ?vz74) ?hiz74 (by kernel_rfl) (by kernel_rfl) (by kernel_rfl) ?hQz74 ?hyz74 (by assumption) ?restz74
      case hiz74 => simp only [List.getElem?_toArray, List.getElem?_cons_zero, List.getElem?_cons_succ]; rfl
      case hQz74 => exact fun _ _ _ h => h
      case hyz74 => exact Or.inl ⟨by rfl, by intro w hSw; (try dsimp only at hSw); go_simp; with_reducible rfl⟩
      try simp only [Act.put, List.setIfInBounds_toArray, List.set_cons_zero, List.set_cons_succ]
      refine wpAnyH_take (i := 18) (oi := ?oiz75) (v := ?vz75) ?hiz75 (by kernel_rfl) (by kernel_rfl) (by kernel_rfl) ?hQz75 ?hyz75 (by assumption) ?restz75
      case hiz75 => simp only [List.getElem?_toArray, List.getElem?_cons_zero, List.getElem?_cons_succ]; rfl
      case hQz75 => exact fun _ _ _ h => h
      case hyz75 => exact Or.inl ⟨by rfl, by intro w hSw; (try dsimp only at hSw); go_simp; with_reducible rfl⟩
      try simp only [Act.put, List.setIfInBounds_toArray, List.set_cons_zero, List.set_cons_succ]
      have Hsorry2 := Hsorry
      clear Hsorry
      refine wpAnyH_done (by kernel_rfl) ?_ _
      exact Hsorry2 _ _ _ _ _ ⟨BR2.out.ext hHeld, HX2.out.trans hHeld, EX2.out.trans hHeld⟩
end Go.Proofs.Ytdjclllnmclocaa
