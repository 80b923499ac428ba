/- What the walk of the law FnProvedNames needs, part 9 of 9. No condition. -/
import Derived.Test.YtmndkbheehcoaaaPFnProvedNames8
/- The two nodes of an answer are nodes. No condition. -/
namespace Go.Proofs.Ytmndkbheehcoaaa
open Go.RowKit
set_option linter.unusedVariables false
theorem clR_ok {L : List En} {s : ByteArray} {P : List Nd} (hL : ∀ e ∈ L, tEnt.ok e) (hP : ∀ x ∈ P, tNd.ok x) : (clR L s P).1.ok ∧ (clR L s P).2.1.ok := by
  unfold clR
  split
  · rename_i h
    have h1 : okE L = true := by simp only [Bool.and_eq_true] at h; exact h.1.1
    split
    · split
      · exact ⟨zeroN_ok, zeroN_ok⟩
      · exact ⟨getD_ok (Tr.sel_ok (fun o => ltB s o) (fun o => ltB o s) _ (trF_ok _ _ (good_of h1 hL))) _, getD_ok hP _⟩
    · exact ⟨zeroN_ok, zeroN_ok⟩
  · exact ⟨zeroN_ok, zeroN_ok⟩
theorem eqNdE_any (a : Nd) (ha : a.ok) (w : World) : Calls Try.prog 18 #[.agg a.enc.toArray, .agg a.enc.toArray] w fun e w' => e = .returned (.bool true) ∧ Ext w w' := eqNdT_any a ha w
end Go.Proofs.Ytmndkbheehcoaaa
/- The walk of the law FnProvedNames. No condition. -/
namespace Go.Proofs.Ytmndkbheehcoaaa
open Go.RowKit
set_option linter.unusedVariables false
set_option linter.unusedSimpArgs false

set_option maxHeartbeats 16000000 in
set_option maxRecDepth 100000 in
theorem FnProvedNames_any (w : World) (v0 : Value) (x0 : List Int) (S0 : Nat → Prop) (h0 : RdL tByte w S0 v0 x0) (v1 : Value) (x1 : List Int) (S1 : Nat → Prop) (h1 : RdL tByte w S1 v1 x1) :
    Calls Try.prog 8 #[v0, v1] w fun e w' => e = .returned (.bool true) ∧ Ext w w' := by
  obtain ⟨A0, cap0, rfl, _⟩ := id h0
  obtain ⟨A1, cap1, rfl, _⟩ := id h1
  have H0 := Lib.hid h0
  have H1 := Lib.hid h1
  clear h0 h1
  by_cases hb0 : 4096 < x0.length
  · go_enter Try.func8, Try.ntmps8
    go_wp2_with fail
    refine (f6big_yes _ _ _ _ hb0).mono ?_
    rintro e w1 ⟨rfl, rfl⟩
    go_wp2
    go_ret
    exact ⟨rfl, Ext.refl _⟩
  by_cases hb1 : 4096 < x1.length
  · go_enter Try.func8, Try.ntmps8
    go_wp2_with fail
    refine (f6big_no _ _ _ _ hb0).mono ?_
    rintro e w1 ⟨rfl, rfl⟩
    go_wp2_with fail
    refine (f6big_yes _ _ _ _ hb1).mono ?_
    rintro e w1 ⟨rfl, rfl⟩
    go_wp2
    go_ret
    exact ⟨rfl, Ext.refl _⟩
  go_enter Try.func8, Try.ntmps8
  go_wp2_with fail
  refine (f6big_no _ _ _ _ hb0).mono ?_
  rintro e w1 ⟨rfl, rfl⟩
  go_wp2_with fail
  refine (f6big_no _ _ _ _ hb1).mono ?_
  rintro e w1 ⟨rfl, rfl⟩
  clear hb0 hb1
  go_wp2_with fail
  refine (p6Map_any _ x0 9 (by decide) _ _ (H0.out.ext (by decide) (Ext.refl _))).mono ?_
  rintro e w1 ⟨vA, A, rfl, ho, hAk, hAl, hx⟩
  skip
  have XW := Lib.hid hx
  obtain ⟨AA, cA, rfl⟩ := ho.shape
  have OA := Lib.hid ho.rd
  clear ho
  clear hx
  go_wp2_with fail
  refine (p6Name_any _ x1 _ _ (H1.out.ext (by decide) XW.out)).mono ?_
  rintro e w2 ⟨nm, rfl, hnm, hnz, hx⟩
  skip
  replace OA := Lib.hid (OA.out.ext (by decide) hx)
  replace XW := Lib.hid (XW.out.trans hx)
  clear hx
  have hnz2 : nm.size ≤ 140737488351232 := by omega
  have HAk := Lib.hid hAk
  have HAo := Lib.hid (show ∀ e ∈ A, tEnt.ok e from OA.out.choose_spec.choose_spec.2.2.2.2)
  obtain ⟨T, hT⟩ : ∃ T, trF A.length A = T := ⟨_, rfl⟩
  obtain ⟨n1, n2, n3, n4, n5⟩ := names_all HAk.out HAo.out hnm hT
  obtain ⟨PL, hPL⟩ : ∃ PL, T.way nm = PL := ⟨_, rfl⟩
  obtain ⟨K, hK⟩ : ∃ K, T.key = K := ⟨_, rfl⟩
  have HPR := Lib.hid (show provR A nm = (PL, 0) by rw [provR, HAk.out, hnm, hT, ← hPL]; rfl)
  have HMAP := Lib.hid (show mapKR A = (K, 0) by rw [mapKR, HAk.out, hT, hK]; rfl)
  have HKK := Lib.hid (show K32 K by rw [← hK]; exact Tr.key_ok _)
  have hkk := HKK.out.1
  simp only [hPL, hK] at n1 n3 n4 n5
  obtain ⟨b, hb⟩ : ∃ b, hasE A nm = b := ⟨_, rfl⟩
  obtain ⟨vE, hvE⟩ : ∃ vE, valE A nm = vE := ⟨_, rfl⟩
  simp only [hb, hvE] at n1 n2 n5
  have HCH := Lib.hid n1
  have HVS := Lib.hid n3
  have HN5 := Lib.hid n5
  have hP64 : PL.length ≤ 100 := by omega
  obtain ⟨c, hc⟩ : ∃ c : Int, (if b then (0 : Int) else 6) = c := ⟨_, rfl⟩
  rw [hc] at n2
  have HGE := Lib.hid n2
  have hbe : b = (c == 0) := by subst hc; cases b <;> rfl
  have hq : (vE.toList != vE.toList) = false := by simp
  clear hAk hT n1 n2 n3 n4 n5 hPL hK hb hvE hc hnm
  subst hbe
  have hbc : ((c == 0) != (c == 0)) = false := by simp
  go_wp2_with fail
  refine (implMapKey_any _ A _ _ OA.out).mono ?_
  rintro e w3 ⟨he, hx⟩
  skip
  rw [HMAP.out] at he
  subst he
  replace OA := Lib.hid (OA.out.ext (by decide) hx)
  replace XW := Lib.hid (XW.out.trans hx)
  clear hx
  go_wp2_with (first | (refine wpl_storeNew aggKey hkk rfl rfl _ _ rfl rfl rfl rfl ?_) | (refine wpl_loadB (Blk.new w3 27 (numsA .u8 K)) aggKey (sizeN hkk) rfl _ rfl rfl ?_))
  refine (implProveName_any _ A nm hnz2 _ _ (OA.out.ext (by decide) (ext_alloc _ _))).mono ?_
  rintro e w4 ⟨vP, he, ho, hx⟩
  skip
  rw [HPR.out] at he ho
  subst he
  dsimp only at ho
  have hE := (ext_alloc w3 (.cells (numsA .u8 K) 27)).trans hx
  replace OA := Lib.hid (OA.out.ext (by decide) hE)
  replace XW := Lib.hid (XW.out.trans hE)
  clear hE
  have BK := Lib.hid ((Blk.new w3 27 (numsA .u8 K)).ext hx)
  obtain ⟨AP, cP, rfl⟩ := ho.shape
  have OP := Lib.hid ho.rd
  clear ho
  clear hx
  go_wp2_with (first | (refine wpl_loadB BK.out aggKey (sizeN hkk) rfl _ rfl rfl ?_))
  refine (implCheckName_any K HKK.out nm hnz2 _ PL _ _ OP.out).mono ?_
  rintro e w5 ⟨he, hx⟩
  skip
  rw [HCH.out] at he
  subst he
  replace OA := Lib.hid (OA.out.ext (by decide) hx)
  replace OP := Lib.hid (OP.out.ext (by decide) hx)
  replace BK := Lib.hid (BK.out.ext hx)
  replace XW := Lib.hid (XW.out.trans hx)
  clear hx
  go_wp2_with (first | (refine wpl_loadB BK.out aggKey (sizeN hkk) rfl _ rfl rfl ?_))
  refine (specGetEntry_any _ A nm hnz2 _ _ OA.out).mono ?_
  rintro e w6 ⟨he, hx⟩
  skip
  rw [HGE.out] at he
  subst he
  replace OA := Lib.hid (OA.out.ext (by decide) hx)
  replace OP := Lib.hid (OP.out.ext (by decide) hx)
  replace BK := Lib.hid (BK.out.ext hx)
  replace XW := Lib.hid (XW.out.trans hx)
  clear hx
  go_wp2_with (first | (refine wpl_loadB BK.out aggKey (sizeN hkk) rfl _ rfl rfl ?_))
  refine (p6Spoilt_any _ x1 _ PL HVS.out hP64 _ _ _ (H1.out.ext (by decide) XW.out) OP.out).mono ?_
  rintro e w7 ⟨vB, BL, rfl, ho, hx⟩
  skip
  replace OA := Lib.hid (OA.out.ext (by decide) hx)
  replace OP := Lib.hid (OP.out.ext (by decide) hx)
  replace BK := Lib.hid (BK.out.ext hx)
  replace XW := Lib.hid (XW.out.trans hx)
  obtain ⟨AB, cB, rfl, _⟩ := id ho
  have OB := Lib.hid ho
  clear ho
  clear hx
  have hBo : ∀ x ∈ BL, tNd.ok x := ok_nd OB.out
  obtain ⟨d1, d2, d3, hD⟩ : ∃ d1 d2 d3, chkR K nm BL = (d1, d2, d3) := ⟨_, _, _, rfl⟩
  obtain ⟨X, Y, e3, hE⟩ : ∃ X Y e3, clR A nm BL = (X, Y, e3) := ⟨_, _, _, rfl⟩
  have hall := HN5.out BL
  have hXY := clR_ok (s := nm) HAo.out hBo
  rw [hE] at hXY
  simp only [hD, hE] at hall
  have HD := Lib.hid hD
  have HE := Lib.hid hE
  have HXO := Lib.hid (show X.ok from hXY.1)
  have HYO := Lib.hid (show Y.ok from hXY.2)
  have HS1 := Lib.hid (Nd.st HXO.out)
  have HS2 := Lib.hid (Nd.st HYO.out)
  clear hXY hBo hbc hq
  go_wp2_with (first | (refine wpl_loadB BK.out aggKey (sizeN hkk) rfl _ rfl rfl ?_))
  refine (implCheckName_any K HKK.out nm hnz2 _ BL _ _ OB.out).mono ?_
  rintro e w8 ⟨he, hx⟩
  skip
  rw [HD.out] at he
  subst he
  replace OA := Lib.hid (OA.out.ext (by decide) hx)
  replace OP := Lib.hid (OP.out.ext (by decide) hx)
  replace OB := Lib.hid (OB.out.ext (by decide) hx)
  replace BK := Lib.hid (BK.out.ext hx)
  replace XW := Lib.hid (XW.out.trans hx)
  clear hx
  go_wp2_with (first | (refine wpl_loadB BK.out aggKey (sizeN hkk) rfl _ rfl rfl ?_))
  refine (implClash_any _ _ A nm hnz2 BL _ _ _ OA.out OB.out).mono ?_
  rintro e w9 ⟨he, hx⟩
  skip
  rw [HE.out] at he
  subst he
  replace OA := Lib.hid (OA.out.ext (by decide) hx)
  replace OP := Lib.hid (OP.out.ext (by decide) hx)
  replace OB := Lib.hid (OB.out.ext (by decide) hx)
  replace BK := Lib.hid (BK.out.ext hx)
  replace XW := Lib.hid (XW.out.trans hx)
  clear hx
  clear OA OP OB BK
  rcases hall with ⟨rfl, rfl⟩ | ⟨rfl | rfl, rfl⟩ | ⟨rfl, ⟨e1, e2, rfl⟩ | ⟨hno, rfl, hxy, hkk2⟩⟩
  · go_wp2_with (refine wpl_two aggNodeI HS1.out HS2.out rfl rfl rfl rfl rfl rfl rfl _ _ rfl rfl rfl _ _ rfl rfl rfl rfl rfl rfl ?_)
    go_ret
    exact ⟨rfl, (XW.out.alloc _).alloc _⟩
  · go_wp2_with (refine wpl_two aggNodeI HS1.out HS2.out rfl rfl rfl rfl rfl rfl rfl _ _ rfl rfl rfl _ _ rfl rfl rfl rfl rfl rfl ?_)
    go_ret
    exact ⟨rfl, (XW.out.alloc _).alloc _⟩
  · go_wp2_with (refine wpl_two aggNodeI HS1.out HS2.out rfl rfl rfl rfl rfl rfl rfl _ _ rfl rfl rfl _ _ rfl rfl rfl rfl rfl rfl ?_)
    go_ret
    exact ⟨rfl, (XW.out.alloc _).alloc _⟩
  · have hs1 : (d1 == (c == 0)) = true := by rw [e1]; simp
    have hs2 : (d2.toList == vE.toList) = true := by rw [e2]; simp
    clear e1 e2
    go_wp2_with (refine wpl_two aggNodeI HS1.out HS2.out rfl rfl rfl rfl rfl rfl rfl _ _ rfl rfl rfl _ _ rfl rfl rfl rfl rfl rfl ?_)
    go_ret
    exact ⟨rfl, (XW.out.alloc _).alloc _⟩
  · by_cases h1 : d1 = (c == 0)
    · have h2 : d2 ≠ vE := fun e => hno ⟨h1, e⟩
      have hs1 : (d1 == (c == 0)) = true := by rw [h1]; simp
      have hs2 : (d2.toList == vE.toList) = false := by rw [beq_eq_false_iff_ne]; exact fun e => h2 (toList_inj e)
      clear hno h2 h1
      have hkx := (keyN_ok X).1
      have hky := (keyN_ok Y).1
      obtain ⟨Z0, hZ0⟩ : ∃ Z0 : List Int, List.replicate 32 (0 : Int) = Z0 := ⟨_, rfl⟩
      have HZ0 := Lib.hid hZ0
      have hk0 : Z0.length = 32 := by rw [← hZ0, List.length_replicate]
      clear hZ0
      have hneq : ∀ W, (binOp .neq 31 (.agg X.enc.toArray) (.agg Y.enc.toArray)).run Try.prog W = .ok (.bool true) W := fun W => by rw [run_neqNd X Y HXO.out HYO.out W, decide_eq_false hxy]; rfl
      have heql : ∀ W, (binOp .eql 27 (.agg (numsA .u8 (keyN X))) (.agg (numsA .u8 (keyN Y)))).run Try.prog W = .ok (.bool true) W := fun W => by
        have := run_eqKey _ _ (keyN_ok X) (keyN_ok Y) W
        rw [decide_eq_true hkk2] at this
        exact this
      clear hxy hkk2
      go_wp2_with (first | (refine wpl_two aggNodeI HS1.out HS2.out rfl rfl rfl rfl rfl rfl rfl _ _ rfl rfl rfl _ _ rfl rfl rfl rfl rfl rfl ?_) | (refine wpl_loadB ((Blk.new w9 31 X.enc.toArray).alloc (.cells Y.enc.toArray 31)) aggNodeI HS1.out.size rfl _ rfl rfl ?_))
      have hE : Ext w9 ((w9.alloc (.cells X.enc.toArray 31)).alloc (.cells Y.enc.toArray 31)) := (ext_alloc _ _).alloc _
      have BX := Lib.hid ((Blk.new w9 31 X.enc.toArray).alloc (.cells Y.enc.toArray 31))
      have BY := Lib.hid (Blk.new' (g := w9.heap.size + 1) (w := World.alloc w9 (.cells X.enc.toArray 31)) (by simp) 31 Y.enc.toArray)
      replace XW := Lib.hid (XW.out.trans hE)
      clear hE
      have nXY := Nat.ne_of_lt (Nat.lt_succ_self w9.heap.size)
      generalize (w9.alloc (.cells X.enc.toArray 31)).alloc (.cells Y.enc.toArray 31) = w10 at BX BY XW ⊢
      rcases nodeKR_or X with hX | ⟨hX, hX0⟩
      · have HX := Lib.hid hX
        clear hX
        refine (implMapNodeKey_any X HXO.out _).mono ?_
        rintro e w11 ⟨he, hx⟩
        rw [HX.out] at he
        subst he
        replace BX := Lib.hid (BX.out.ext hx)
        replace BY := Lib.hid (BY.out.ext hx)
        replace XW := Lib.hid (XW.out.trans hx)
        clear hx
        have nXJ := Nat.ne_of_lt BX.out.lt
        have nYJ := Nat.ne_of_lt BY.out.lt
        have hgJ := XW.out.size
        go_wp2_with (first | (refine wpl_storeNew aggKey hkx rfl rfl _ _ rfl rfl rfl rfl ?_) | (refine wpl_loadB (Blk.new w11 27 (numsA .u8 (keyN X))) aggKey (sizeN hkx) rfl _ rfl rfl ?_) | (refine wpl_loadB BX.out aggNodeI HS1.out.size rfl _ rfl rfl ?_) | (refine wpl_loadB (BX.out.alloc _) aggNodeI HS1.out.size rfl _ rfl rfl ?_) | (refine wpl_loadB BY.out aggNodeI HS2.out.size rfl _ rfl rfl ?_) | (refine wpl_loadB (BY.out.alloc _) aggNodeI HS2.out.size rfl _ rfl rfl ?_))
        have hE : Ext w11 (w11.alloc (.cells (numsA .u8 (keyN X)) 27)) := ext_alloc _ _
        replace BX := Lib.hid (BX.out.ext hE)
        replace BY := Lib.hid (BY.out.ext hE)
        replace XW := Lib.hid (XW.out.trans hE)
        clear hE
        have BJ := Lib.hid (Blk.new w11 27 (numsA .u8 (keyN X)))
        generalize w11.alloc (.cells (numsA .u8 (keyN X)) 27) = w12 at BX BY BJ XW ⊢
        rcases nodeKR_or Y with hY | ⟨hY, hY0⟩
        · have HY := Lib.hid hY
          clear hY
          refine (implMapNodeKey_any Y HYO.out _).mono ?_
          rintro e w13 ⟨he, hx⟩
          rw [HY.out] at he
          subst he
          replace BX := Lib.hid (BX.out.ext hx)
          replace BY := Lib.hid (BY.out.ext hx)
          replace BJ := Lib.hid (BJ.out.ext hx)
          replace XW := Lib.hid (XW.out.trans hx)
          clear hx
          have nXQ := Nat.ne_of_lt BX.out.lt
          have nYQ := Nat.ne_of_lt BY.out.lt
          have nJQ := Nat.ne_of_lt BJ.out.lt
          have hgQ := XW.out.size
          go_wp2_with (first | (refine wpl_storeNew aggKey hky rfl rfl _ _ rfl rfl rfl rfl ?_) | (refine wpl_loadB (Blk.new w13 27 (numsA .u8 (keyN Y))) aggKey (sizeN hky) rfl _ rfl rfl ?_) | (refine wpl_loadB BX.out aggNodeI HS1.out.size rfl _ rfl rfl ?_) | (refine wpl_loadB (BX.out.alloc _) aggNodeI HS1.out.size rfl _ rfl rfl ?_) | (refine wpl_loadB BY.out aggNodeI HS2.out.size rfl _ rfl rfl ?_) | (refine wpl_loadB (BY.out.alloc _) aggNodeI HS2.out.size rfl _ rfl rfl ?_) | (refine wpl_loadB BJ.out aggKey (sizeN hkx) rfl _ rfl rfl ?_) | (refine wpl_loadB (BJ.out.alloc _) aggKey (sizeN hkx) rfl _ rfl rfl ?_) | (refine wpl_loadBW (Blk.new w13 27 (numsA .u8 (keyN Y))) aggKey (sizeN hky) rfl _ rfl rfl ?_) | (refine wpl_loadBW BX.out aggNodeI HS1.out.size rfl _ rfl rfl ?_) | (refine wpl_loadBW (BX.out.alloc _) aggNodeI HS1.out.size rfl _ rfl rfl ?_) | (refine wpl_loadBW BY.out aggNodeI HS2.out.size rfl _ rfl rfl ?_) | (refine wpl_loadBW (BY.out.alloc _) aggNodeI HS2.out.size rfl _ rfl rfl ?_) | (refine wpl_loadBW BJ.out aggKey (sizeN hkx) rfl _ rfl rfl ?_) | (refine wpl_loadBW (BJ.out.alloc _) aggKey (sizeN hkx) rfl _ rfl rfl ?_))
          go_ret
          exact ⟨rfl, (XW.out.alloc _)⟩
        · rw [HZ0.out] at hY
          have HY0 := Lib.hid hY0
          clear hY0
          have HY := Lib.hid hY
          clear hY
          refine (implMapNodeKey_any Y HYO.out _).mono ?_
          rintro e w13 ⟨he, hx⟩
          rw [HY.out] at he
          subst he
          replace BX := Lib.hid (BX.out.ext hx)
          replace BY := Lib.hid (BY.out.ext hx)
          replace BJ := Lib.hid (BJ.out.ext hx)
          replace XW := Lib.hid (XW.out.trans hx)
          clear hx
          have nXQ := Nat.ne_of_lt BX.out.lt
          have nYQ := Nat.ne_of_lt BY.out.lt
          have nJQ := Nat.ne_of_lt BJ.out.lt
          have hgQ := XW.out.size
          go_wp2_with (first | (refine wpl_storeNew aggKey hk0 rfl rfl _ _ rfl rfl rfl rfl ?_) | (refine wpl_loadB (Blk.new w13 27 (numsA .u8 Z0)) aggKey (sizeN hk0) rfl _ rfl rfl ?_) | (refine wpl_loadB BX.out aggNodeI HS1.out.size rfl _ rfl rfl ?_) | (refine wpl_loadB (BX.out.alloc _) aggNodeI HS1.out.size rfl _ rfl rfl ?_) | (refine wpl_loadB BY.out aggNodeI HS2.out.size rfl _ rfl rfl ?_) | (refine wpl_loadB (BY.out.alloc _) aggNodeI HS2.out.size rfl _ rfl rfl ?_) | (refine wpl_loadB BJ.out aggKey (sizeN hkx) rfl _ rfl rfl ?_) | (refine wpl_loadB (BJ.out.alloc _) aggKey (sizeN hkx) rfl _ rfl rfl ?_) | (refine wpl_loadBW (Blk.new w13 27 (numsA .u8 Z0)) aggKey (sizeN hk0) rfl _ rfl rfl ?_) | (refine wpl_loadBW BX.out aggNodeI HS1.out.size rfl _ rfl rfl ?_) | (refine wpl_loadBW (BX.out.alloc _) aggNodeI HS1.out.size rfl _ rfl rfl ?_) | (refine wpl_loadBW BY.out aggNodeI HS2.out.size rfl _ rfl rfl ?_) | (refine wpl_loadBW (BY.out.alloc _) aggNodeI HS2.out.size rfl _ rfl rfl ?_) | (refine wpl_loadBW BJ.out aggKey (sizeN hkx) rfl _ rfl rfl ?_) | (refine wpl_loadBW (BJ.out.alloc _) aggKey (sizeN hkx) rfl _ rfl rfl ?_))
          have hE : Ext w13 (w13.alloc (.cells (numsA .u8 Z0) 27)) := ext_alloc _ _
          replace BX := Lib.hid (BX.out.ext hE)
          replace BY := Lib.hid (BY.out.ext hE)
          replace BJ := Lib.hid (BJ.out.ext hE)
          replace XW := Lib.hid (XW.out.trans hE)
          clear hE
          have BQ := Lib.hid (Blk.new w13 27 (numsA .u8 Z0))
          generalize w13.alloc (.cells (numsA .u8 Z0) 27) = w14 at BX BY BJ BQ XW ⊢
          refine (implEmptyMapKey_any _).mono ?_
          rintro e w15 ⟨rfl, hx⟩
          rw [← HY0.out]
          replace BX := Lib.hid (BX.out.ext hx)
          replace BY := Lib.hid (BY.out.ext hx)
          replace BJ := Lib.hid (BJ.out.ext hx)
          replace BQ := Lib.hid (BQ.out.ext hx)
          replace XW := Lib.hid (XW.out.trans hx)
          clear hx
          go_wp2_with (first | (refine wpl_storeN BQ.out aggKey hky (sizeN hk0) rfl _ _ rfl rfl rfl rfl ?_) | (refine wpl_loadBW (BX.out.row_far nXQ (numsA .u8 (keyN Y))) aggNodeI HS1.out.size rfl _ rfl rfl ?_) | (refine wpl_loadBW (BY.out.row_far nYQ (numsA .u8 (keyN Y))) aggNodeI HS2.out.size rfl _ rfl rfl ?_) | (refine wpl_loadBW (BJ.out.row_far nJQ (numsA .u8 (keyN Y))) aggKey (sizeN hkx) rfl _ rfl rfl ?_) | (refine wpl_loadBW (BQ.out.setRow (numsA .u8 (keyN Y))) aggKey (sizeN hky) rfl _ rfl rfl ?_))
          go_ret
          exact ⟨rfl, XW.out.setRow hgQ _⟩
      · rw [HZ0.out] at hX
        have HX0 := Lib.hid hX0
        clear hX0
        have HX := Lib.hid hX
        clear hX
        refine (implMapNodeKey_any X HXO.out _).mono ?_
        rintro e w11 ⟨he, hx⟩
        rw [HX.out] at he
        subst he
        replace BX := Lib.hid (BX.out.ext hx)
        replace BY := Lib.hid (BY.out.ext hx)
        replace XW := Lib.hid (XW.out.trans hx)
        clear hx
        have nXJ := Nat.ne_of_lt BX.out.lt
        have nYJ := Nat.ne_of_lt BY.out.lt
        have hgJ := XW.out.size
        go_wp2_with (first | (refine wpl_storeNew aggKey hk0 rfl rfl _ _ rfl rfl rfl rfl ?_) | (refine wpl_loadB (Blk.new w11 27 (numsA .u8 Z0)) aggKey (sizeN hk0) rfl _ rfl rfl ?_) | (refine wpl_loadB BX.out aggNodeI HS1.out.size rfl _ rfl rfl ?_) | (refine wpl_loadB (BX.out.alloc _) aggNodeI HS1.out.size rfl _ rfl rfl ?_) | (refine wpl_loadB BY.out aggNodeI HS2.out.size rfl _ rfl rfl ?_) | (refine wpl_loadB (BY.out.alloc _) aggNodeI HS2.out.size rfl _ rfl rfl ?_))
        have hE : Ext w11 (w11.alloc (.cells (numsA .u8 Z0) 27)) := ext_alloc _ _
        replace BX := Lib.hid (BX.out.ext hE)
        replace BY := Lib.hid (BY.out.ext hE)
        replace XW := Lib.hid (XW.out.trans hE)
        clear hE
        have BJ := Lib.hid (Blk.new w11 27 (numsA .u8 Z0))
        generalize w11.alloc (.cells (numsA .u8 Z0) 27) = w12 at BX BY BJ XW ⊢
        rcases nodeKR_or Y with hY | ⟨hY, hY0⟩
        · have HY := Lib.hid hY
          clear hY
          refine (implMapNodeKey_any Y HYO.out _).mono ?_
          rintro e w13 ⟨he, hx⟩
          rw [HY.out] at he
          subst he
          replace BX := Lib.hid (BX.out.ext hx)
          replace BY := Lib.hid (BY.out.ext hx)
          replace BJ := Lib.hid (BJ.out.ext hx)
          replace XW := Lib.hid (XW.out.trans hx)
          clear hx
          have nXQ := Nat.ne_of_lt BX.out.lt
          have nYQ := Nat.ne_of_lt BY.out.lt
          have nJQ := Nat.ne_of_lt BJ.out.lt
          have hgQ := XW.out.size
          go_wp2_with (first | (refine wpl_storeNew aggKey hky rfl rfl _ _ rfl rfl rfl rfl ?_) | (refine wpl_loadB (Blk.new w13 27 (numsA .u8 (keyN Y))) aggKey (sizeN hky) rfl _ rfl rfl ?_) | (refine wpl_loadB BX.out aggNodeI HS1.out.size rfl _ rfl rfl ?_) | (refine wpl_loadB (BX.out.alloc _) aggNodeI HS1.out.size rfl _ rfl rfl ?_) | (refine wpl_loadB BY.out aggNodeI HS2.out.size rfl _ rfl rfl ?_) | (refine wpl_loadB (BY.out.alloc _) aggNodeI HS2.out.size rfl _ rfl rfl ?_) | (refine wpl_loadB BJ.out aggKey (sizeN hk0) rfl _ rfl rfl ?_) | (refine wpl_loadB (BJ.out.alloc _) aggKey (sizeN hk0) rfl _ rfl rfl ?_) | (refine wpl_loadBW (Blk.new w13 27 (numsA .u8 (keyN Y))) aggKey (sizeN hky) rfl _ rfl rfl ?_) | (refine wpl_loadBW BX.out aggNodeI HS1.out.size rfl _ rfl rfl ?_) | (refine wpl_loadBW (BX.out.alloc _) aggNodeI HS1.out.size rfl _ rfl rfl ?_) | (refine wpl_loadBW BY.out aggNodeI HS2.out.size rfl _ rfl rfl ?_) | (refine wpl_loadBW (BY.out.alloc _) aggNodeI HS2.out.size rfl _ rfl rfl ?_) | (refine wpl_loadBW BJ.out aggKey (sizeN hk0) rfl _ rfl rfl ?_) | (refine wpl_loadBW (BJ.out.alloc _) aggKey (sizeN hk0) rfl _ rfl rfl ?_))
          have hE : Ext w13 (w13.alloc (.cells (numsA .u8 (keyN Y)) 27)) := ext_alloc _ _
          replace BX := Lib.hid (BX.out.ext hE)
          replace BY := Lib.hid (BY.out.ext hE)
          replace BJ := Lib.hid (BJ.out.ext hE)
          replace XW := Lib.hid (XW.out.trans hE)
          clear hE
          have BQ := Lib.hid (Blk.new w13 27 (numsA .u8 (keyN Y)))
          generalize w13.alloc (.cells (numsA .u8 (keyN Y)) 27) = w14 at BX BY BJ BQ XW ⊢
          refine (implEmptyMapKey_any _).mono ?_
          rintro e w15 ⟨rfl, hx⟩
          rw [← HX0.out]
          replace BX := Lib.hid (BX.out.ext hx)
          replace BY := Lib.hid (BY.out.ext hx)
          replace BJ := Lib.hid (BJ.out.ext hx)
          replace BQ := Lib.hid (BQ.out.ext hx)
          replace XW := Lib.hid (XW.out.trans hx)
          clear hx
          go_wp2_with (first | (refine wpl_storeN BJ.out aggKey hkx (sizeN hk0) rfl _ _ rfl rfl rfl rfl ?_) | (refine wpl_loadBW (BX.out.row_far nXJ (numsA .u8 (keyN X))) aggNodeI HS1.out.size rfl _ rfl rfl ?_) | (refine wpl_loadBW (BY.out.row_far nYJ (numsA .u8 (keyN X))) aggNodeI HS2.out.size rfl _ rfl rfl ?_) | (refine wpl_loadBW (BJ.out.setRow (numsA .u8 (keyN X))) aggKey (sizeN hkx) rfl _ rfl rfl ?_) | (refine wpl_loadBW (BQ.out.row_far nJQ.symm (numsA .u8 (keyN X))) aggKey (sizeN hky) rfl _ rfl rfl ?_))
          go_ret
          exact ⟨rfl, XW.out.setRow hgJ _⟩
        · rw [HZ0.out] at hY
          have HY0 := Lib.hid hY0
          clear hY0
          have HY := Lib.hid hY
          clear hY
          refine (implMapNodeKey_any Y HYO.out _).mono ?_
          rintro e w13 ⟨he, hx⟩
          rw [HY.out] at he
          subst he
          replace BX := Lib.hid (BX.out.ext hx)
          replace BY := Lib.hid (BY.out.ext hx)
          replace BJ := Lib.hid (BJ.out.ext hx)
          replace XW := Lib.hid (XW.out.trans hx)
          clear hx
          have nXQ := Nat.ne_of_lt BX.out.lt
          have nYQ := Nat.ne_of_lt BY.out.lt
          have nJQ := Nat.ne_of_lt BJ.out.lt
          have hgQ := XW.out.size
          go_wp2_with (first | (refine wpl_storeNew aggKey hk0 rfl rfl _ _ rfl rfl rfl rfl ?_) | (refine wpl_loadB (Blk.new w13 27 (numsA .u8 Z0)) aggKey (sizeN hk0) rfl _ rfl rfl ?_) | (refine wpl_loadB BX.out aggNodeI HS1.out.size rfl _ rfl rfl ?_) | (refine wpl_loadB (BX.out.alloc _) aggNodeI HS1.out.size rfl _ rfl rfl ?_) | (refine wpl_loadB BY.out aggNodeI HS2.out.size rfl _ rfl rfl ?_) | (refine wpl_loadB (BY.out.alloc _) aggNodeI HS2.out.size rfl _ rfl rfl ?_) | (refine wpl_loadB BJ.out aggKey (sizeN hk0) rfl _ rfl rfl ?_) | (refine wpl_loadB (BJ.out.alloc _) aggKey (sizeN hk0) rfl _ rfl rfl ?_) | (refine wpl_loadBW (Blk.new w13 27 (numsA .u8 Z0)) aggKey (sizeN hk0) rfl _ rfl rfl ?_) | (refine wpl_loadBW BX.out aggNodeI HS1.out.size rfl _ rfl rfl ?_) | (refine wpl_loadBW (BX.out.alloc _) aggNodeI HS1.out.size rfl _ rfl rfl ?_) | (refine wpl_loadBW BY.out aggNodeI HS2.out.size rfl _ rfl rfl ?_) | (refine wpl_loadBW (BY.out.alloc _) aggNodeI HS2.out.size rfl _ rfl rfl ?_) | (refine wpl_loadBW BJ.out aggKey (sizeN hk0) rfl _ rfl rfl ?_) | (refine wpl_loadBW (BJ.out.alloc _) aggKey (sizeN hk0) rfl _ rfl rfl ?_))
          have hE : Ext w13 (w13.alloc (.cells (numsA .u8 Z0) 27)) := ext_alloc _ _
          replace BX := Lib.hid (BX.out.ext hE)
          replace BY := Lib.hid (BY.out.ext hE)
          replace BJ := Lib.hid (BJ.out.ext hE)
          replace XW := Lib.hid (XW.out.trans hE)
          clear hE
          have BQ := Lib.hid (Blk.new w13 27 (numsA .u8 Z0))
          generalize w13.alloc (.cells (numsA .u8 Z0) 27) = w14 at BX BY BJ BQ XW ⊢
          refine (implEmptyMapKey_any _).mono ?_
          rintro e w15 ⟨rfl, hx⟩
          rw [← HX0.out]
          replace BX := Lib.hid (BX.out.ext hx)
          replace BY := Lib.hid (BY.out.ext hx)
          replace BJ := Lib.hid (BJ.out.ext hx)
          replace BQ := Lib.hid (BQ.out.ext hx)
          replace XW := Lib.hid (XW.out.trans hx)
          clear hx
          go_wp2_with (first | (refine wpl_storeN BJ.out aggKey hkx (sizeN hk0) rfl _ _ rfl rfl rfl rfl ?_) | (refine wpl_loadBW (BX.out.row_far nXJ (numsA .u8 (keyN X))) aggNodeI HS1.out.size rfl _ rfl rfl ?_) | (refine wpl_loadBW (BY.out.row_far nYJ (numsA .u8 (keyN X))) aggNodeI HS2.out.size rfl _ rfl rfl ?_) | (refine wpl_loadBW (BJ.out.setRow (numsA .u8 (keyN X))) aggKey (sizeN hkx) rfl _ rfl rfl ?_) | (refine wpl_loadBW (BQ.out.row_far nJQ.symm (numsA .u8 (keyN X))) aggKey (sizeN hk0) rfl _ rfl rfl ?_))
          replace BX := Lib.hid (BX.out.row_far nXJ (numsA .u8 (keyN X)))
          replace BY := Lib.hid (BY.out.row_far nYJ (numsA .u8 (keyN X)))
          replace BJ := Lib.hid (BJ.out.setRow (numsA .u8 (keyN X)))
          replace BQ := Lib.hid (BQ.out.row_far nJQ.symm (numsA .u8 (keyN X)))
          replace XW := Lib.hid (XW.out.setRow (g := w11.heap.size) hgJ (numsA .u8 (keyN X)))
          generalize w15.setRow w11.heap.size (numsA .u8 (keyN X)) = w16 at BX BY BJ BQ XW ⊢
          refine (implEmptyMapKey_any _).mono ?_
          rintro e w17 ⟨rfl, hx⟩
          rw [← HY0.out]
          replace BX := Lib.hid (BX.out.ext hx)
          replace BY := Lib.hid (BY.out.ext hx)
          replace BJ := Lib.hid (BJ.out.ext hx)
          replace BQ := Lib.hid (BQ.out.ext hx)
          replace XW := Lib.hid (XW.out.trans hx)
          clear hx
          go_wp2_with (first | (refine wpl_storeN BQ.out aggKey hky (sizeN hk0) rfl _ _ rfl rfl rfl rfl ?_) | (refine wpl_loadBW (BX.out.row_far nXQ (numsA .u8 (keyN Y))) aggNodeI HS1.out.size rfl _ rfl rfl ?_) | (refine wpl_loadBW (BY.out.row_far nYQ (numsA .u8 (keyN Y))) aggNodeI HS2.out.size rfl _ rfl rfl ?_) | (refine wpl_loadBW (BJ.out.row_far nJQ (numsA .u8 (keyN Y))) aggKey (sizeN hkx) rfl _ rfl rfl ?_) | (refine wpl_loadBW (BQ.out.setRow (numsA .u8 (keyN Y))) aggKey (sizeN hky) rfl _ rfl rfl ?_))
          go_ret
          exact ⟨rfl, XW.out.setRow hgQ _⟩
    · have hs1 : (d1 == (c == 0)) = false := by rw [beq_eq_false_iff_ne]; exact h1
      clear hno h1
      have hkx := (keyN_ok X).1
      have hky := (keyN_ok Y).1
      obtain ⟨Z0, hZ0⟩ : ∃ Z0 : List Int, List.replicate 32 (0 : Int) = Z0 := ⟨_, rfl⟩
      have HZ0 := Lib.hid hZ0
      have hk0 : Z0.length = 32 := by rw [← hZ0, List.length_replicate]
      clear hZ0
      have hneq : ∀ W, (binOp .neq 31 (.agg X.enc.toArray) (.agg Y.enc.toArray)).run Try.prog W = .ok (.bool true) W := fun W => by rw [run_neqNd X Y HXO.out HYO.out W, decide_eq_false hxy]; rfl
      have heql : ∀ W, (binOp .eql 27 (.agg (numsA .u8 (keyN X))) (.agg (numsA .u8 (keyN Y)))).run Try.prog W = .ok (.bool true) W := fun W => by
        have := run_eqKey _ _ (keyN_ok X) (keyN_ok Y) W
        rw [decide_eq_true hkk2] at this
        exact this
      clear hxy hkk2
      go_wp2_with (first | (refine wpl_two aggNodeI HS1.out HS2.out rfl rfl rfl rfl rfl rfl rfl _ _ rfl rfl rfl _ _ rfl rfl rfl rfl rfl rfl ?_) | (refine wpl_loadB ((Blk.new w9 31 X.enc.toArray).alloc (.cells Y.enc.toArray 31)) aggNodeI HS1.out.size rfl _ rfl rfl ?_))
      have hE : Ext w9 ((w9.alloc (.cells X.enc.toArray 31)).alloc (.cells Y.enc.toArray 31)) := (ext_alloc _ _).alloc _
      have BX := Lib.hid ((Blk.new w9 31 X.enc.toArray).alloc (.cells Y.enc.toArray 31))
      have BY := Lib.hid (Blk.new' (g := w9.heap.size + 1) (w := World.alloc w9 (.cells X.enc.toArray 31)) (by simp) 31 Y.enc.toArray)
      replace XW := Lib.hid (XW.out.trans hE)
      clear hE
      have nXY := Nat.ne_of_lt (Nat.lt_succ_self w9.heap.size)
      generalize (w9.alloc (.cells X.enc.toArray 31)).alloc (.cells Y.enc.toArray 31) = w10 at BX BY XW ⊢
      rcases nodeKR_or X with hX | ⟨hX, hX0⟩
      · have HX := Lib.hid hX
        clear hX
        refine (implMapNodeKey_any X HXO.out _).mono ?_
        rintro e w11 ⟨he, hx⟩
        rw [HX.out] at he
        subst he
        replace BX := Lib.hid (BX.out.ext hx)
        replace BY := Lib.hid (BY.out.ext hx)
        replace XW := Lib.hid (XW.out.trans hx)
        clear hx
        have nXJ := Nat.ne_of_lt BX.out.lt
        have nYJ := Nat.ne_of_lt BY.out.lt
        have hgJ := XW.out.size
        go_wp2_with (first | (refine wpl_storeNew aggKey hkx rfl rfl _ _ rfl rfl rfl rfl ?_) | (refine wpl_loadB (Blk.new w11 27 (numsA .u8 (keyN X))) aggKey (sizeN hkx) rfl _ rfl rfl ?_) | (refine wpl_loadB BX.out aggNodeI HS1.out.size rfl _ rfl rfl ?_) | (refine wpl_loadB (BX.out.alloc _) aggNodeI HS1.out.size rfl _ rfl rfl ?_) | (refine wpl_loadB BY.out aggNodeI HS2.out.size rfl _ rfl rfl ?_) | (refine wpl_loadB (BY.out.alloc _) aggNodeI HS2.out.size rfl _ rfl rfl ?_))
        have hE : Ext w11 (w11.alloc (.cells (numsA .u8 (keyN X)) 27)) := ext_alloc _ _
        replace BX := Lib.hid (BX.out.ext hE)
        replace BY := Lib.hid (BY.out.ext hE)
        replace XW := Lib.hid (XW.out.trans hE)
        clear hE
        have BJ := Lib.hid (Blk.new w11 27 (numsA .u8 (keyN X)))
        generalize w11.alloc (.cells (numsA .u8 (keyN X)) 27) = w12 at BX BY BJ XW ⊢
        rcases nodeKR_or Y with hY | ⟨hY, hY0⟩
        · have HY := Lib.hid hY
          clear hY
          refine (implMapNodeKey_any Y HYO.out _).mono ?_
          rintro e w13 ⟨he, hx⟩
          rw [HY.out] at he
          subst he
          replace BX := Lib.hid (BX.out.ext hx)
          replace BY := Lib.hid (BY.out.ext hx)
          replace BJ := Lib.hid (BJ.out.ext hx)
          replace XW := Lib.hid (XW.out.trans hx)
          clear hx
          have nXQ := Nat.ne_of_lt BX.out.lt
          have nYQ := Nat.ne_of_lt BY.out.lt
          have nJQ := Nat.ne_of_lt BJ.out.lt
          have hgQ := XW.out.size
          go_wp2_with (first | (refine wpl_storeNew aggKey hky rfl rfl _ _ rfl rfl rfl rfl ?_) | (refine wpl_loadB (Blk.new w13 27 (numsA .u8 (keyN Y))) aggKey (sizeN hky) rfl _ rfl rfl ?_) | (refine wpl_loadB BX.out aggNodeI HS1.out.size rfl _ rfl rfl ?_) | (refine wpl_loadB (BX.out.alloc _) aggNodeI HS1.out.size rfl _ rfl rfl ?_) | (refine wpl_loadB BY.out aggNodeI HS2.out.size rfl _ rfl rfl ?_) | (refine wpl_loadB (BY.out.alloc _) aggNodeI HS2.out.size rfl _ rfl rfl ?_) | (refine wpl_loadB BJ.out aggKey (sizeN hkx) rfl _ rfl rfl ?_) | (refine wpl_loadB (BJ.out.alloc _) aggKey (sizeN hkx) rfl _ rfl rfl ?_) | (refine wpl_loadBW (Blk.new w13 27 (numsA .u8 (keyN Y))) aggKey (sizeN hky) rfl _ rfl rfl ?_) | (refine wpl_loadBW BX.out aggNodeI HS1.out.size rfl _ rfl rfl ?_) | (refine wpl_loadBW (BX.out.alloc _) aggNodeI HS1.out.size rfl _ rfl rfl ?_) | (refine wpl_loadBW BY.out aggNodeI HS2.out.size rfl _ rfl rfl ?_) | (refine wpl_loadBW (BY.out.alloc _) aggNodeI HS2.out.size rfl _ rfl rfl ?_) | (refine wpl_loadBW BJ.out aggKey (sizeN hkx) rfl _ rfl rfl ?_) | (refine wpl_loadBW (BJ.out.alloc _) aggKey (sizeN hkx) rfl _ rfl rfl ?_))
          go_ret
          exact ⟨rfl, (XW.out.alloc _)⟩
        · rw [HZ0.out] at hY
          have HY0 := Lib.hid hY0
          clear hY0
          have HY := Lib.hid hY
          clear hY
          refine (implMapNodeKey_any Y HYO.out _).mono ?_
          rintro e w13 ⟨he, hx⟩
          rw [HY.out] at he
          subst he
          replace BX := Lib.hid (BX.out.ext hx)
          replace BY := Lib.hid (BY.out.ext hx)
          replace BJ := Lib.hid (BJ.out.ext hx)
          replace XW := Lib.hid (XW.out.trans hx)
          clear hx
          have nXQ := Nat.ne_of_lt BX.out.lt
          have nYQ := Nat.ne_of_lt BY.out.lt
          have nJQ := Nat.ne_of_lt BJ.out.lt
          have hgQ := XW.out.size
          go_wp2_with (first | (refine wpl_storeNew aggKey hk0 rfl rfl _ _ rfl rfl rfl rfl ?_) | (refine wpl_loadB (Blk.new w13 27 (numsA .u8 Z0)) aggKey (sizeN hk0) rfl _ rfl rfl ?_) | (refine wpl_loadB BX.out aggNodeI HS1.out.size rfl _ rfl rfl ?_) | (refine wpl_loadB (BX.out.alloc _) aggNodeI HS1.out.size rfl _ rfl rfl ?_) | (refine wpl_loadB BY.out aggNodeI HS2.out.size rfl _ rfl rfl ?_) | (refine wpl_loadB (BY.out.alloc _) aggNodeI HS2.out.size rfl _ rfl rfl ?_) | (refine wpl_loadB BJ.out aggKey (sizeN hkx) rfl _ rfl rfl ?_) | (refine wpl_loadB (BJ.out.alloc _) aggKey (sizeN hkx) rfl _ rfl rfl ?_) | (refine wpl_loadBW (Blk.new w13 27 (numsA .u8 Z0)) aggKey (sizeN hk0) rfl _ rfl rfl ?_) | (refine wpl_loadBW BX.out aggNodeI HS1.out.size rfl _ rfl rfl ?_) | (refine wpl_loadBW (BX.out.alloc _) aggNodeI HS1.out.size rfl _ rfl rfl ?_) | (refine wpl_loadBW BY.out aggNodeI HS2.out.size rfl _ rfl rfl ?_) | (refine wpl_loadBW (BY.out.alloc _) aggNodeI HS2.out.size rfl _ rfl rfl ?_) | (refine wpl_loadBW BJ.out aggKey (sizeN hkx) rfl _ rfl rfl ?_) | (refine wpl_loadBW (BJ.out.alloc _) aggKey (sizeN hkx) rfl _ rfl rfl ?_))
          have hE : Ext w13 (w13.alloc (.cells (numsA .u8 Z0) 27)) := ext_alloc _ _
          replace BX := Lib.hid (BX.out.ext hE)
          replace BY := Lib.hid (BY.out.ext hE)
          replace BJ := Lib.hid (BJ.out.ext hE)
          replace XW := Lib.hid (XW.out.trans hE)
          clear hE
          have BQ := Lib.hid (Blk.new w13 27 (numsA .u8 Z0))
          generalize w13.alloc (.cells (numsA .u8 Z0) 27) = w14 at BX BY BJ BQ XW ⊢
          refine (implEmptyMapKey_any _).mono ?_
          rintro e w15 ⟨rfl, hx⟩
          rw [← HY0.out]
          replace BX := Lib.hid (BX.out.ext hx)
          replace BY := Lib.hid (BY.out.ext hx)
          replace BJ := Lib.hid (BJ.out.ext hx)
          replace BQ := Lib.hid (BQ.out.ext hx)
          replace XW := Lib.hid (XW.out.trans hx)
          clear hx
          go_wp2_with (first | (refine wpl_storeN BQ.out aggKey hky (sizeN hk0) rfl _ _ rfl rfl rfl rfl ?_) | (refine wpl_loadBW (BX.out.row_far nXQ (numsA .u8 (keyN Y))) aggNodeI HS1.out.size rfl _ rfl rfl ?_) | (refine wpl_loadBW (BY.out.row_far nYQ (numsA .u8 (keyN Y))) aggNodeI HS2.out.size rfl _ rfl rfl ?_) | (refine wpl_loadBW (BJ.out.row_far nJQ (numsA .u8 (keyN Y))) aggKey (sizeN hkx) rfl _ rfl rfl ?_) | (refine wpl_loadBW (BQ.out.setRow (numsA .u8 (keyN Y))) aggKey (sizeN hky) rfl _ rfl rfl ?_))
          go_ret
          exact ⟨rfl, XW.out.setRow hgQ _⟩
      · rw [HZ0.out] at hX
        have HX0 := Lib.hid hX0
        clear hX0
        have HX := Lib.hid hX
        clear hX
        refine (implMapNodeKey_any X HXO.out _).mono ?_
        rintro e w11 ⟨he, hx⟩
        rw [HX.out] at he
        subst he
        replace BX := Lib.hid (BX.out.ext hx)
        replace BY := Lib.hid (BY.out.ext hx)
        replace XW := Lib.hid (XW.out.trans hx)
        clear hx
        have nXJ := Nat.ne_of_lt BX.out.lt
        have nYJ := Nat.ne_of_lt BY.out.lt
        have hgJ := XW.out.size
        go_wp2_with (first | (refine wpl_storeNew aggKey hk0 rfl rfl _ _ rfl rfl rfl rfl ?_) | (refine wpl_loadB (Blk.new w11 27 (numsA .u8 Z0)) aggKey (sizeN hk0) rfl _ rfl rfl ?_) | (refine wpl_loadB BX.out aggNodeI HS1.out.size rfl _ rfl rfl ?_) | (refine wpl_loadB (BX.out.alloc _) aggNodeI HS1.out.size rfl _ rfl rfl ?_) | (refine wpl_loadB BY.out aggNodeI HS2.out.size rfl _ rfl rfl ?_) | (refine wpl_loadB (BY.out.alloc _) aggNodeI HS2.out.size rfl _ rfl rfl ?_))
        have hE : Ext w11 (w11.alloc (.cells (numsA .u8 Z0) 27)) := ext_alloc _ _
        replace BX := Lib.hid (BX.out.ext hE)
        replace BY := Lib.hid (BY.out.ext hE)
        replace XW := Lib.hid (XW.out.trans hE)
        clear hE
        have BJ := Lib.hid (Blk.new w11 27 (numsA .u8 Z0))
        generalize w11.alloc (.cells (numsA .u8 Z0) 27) = w12 at BX BY BJ XW ⊢
        rcases nodeKR_or Y with hY | ⟨hY, hY0⟩
        · have HY := Lib.hid hY
          clear hY
          refine (implMapNodeKey_any Y HYO.out _).mono ?_
          rintro e w13 ⟨he, hx⟩
          rw [HY.out] at he
          subst he
          replace BX := Lib.hid (BX.out.ext hx)
          replace BY := Lib.hid (BY.out.ext hx)
          replace BJ := Lib.hid (BJ.out.ext hx)
          replace XW := Lib.hid (XW.out.trans hx)
          clear hx
          have nXQ := Nat.ne_of_lt BX.out.lt
          have nYQ := Nat.ne_of_lt BY.out.lt
          have nJQ := Nat.ne_of_lt BJ.out.lt
          have hgQ := XW.out.size
          go_wp2_with (first | (refine wpl_storeNew aggKey hky rfl rfl _ _ rfl rfl rfl rfl ?_) | (refine wpl_loadB (Blk.new w13 27 (numsA .u8 (keyN Y))) aggKey (sizeN hky) rfl _ rfl rfl ?_) | (refine wpl_loadB BX.out aggNodeI HS1.out.size rfl _ rfl rfl ?_) | (refine wpl_loadB (BX.out.alloc _) aggNodeI HS1.out.size rfl _ rfl rfl ?_) | (refine wpl_loadB BY.out aggNodeI HS2.out.size rfl _ rfl rfl ?_) | (refine wpl_loadB (BY.out.alloc _) aggNodeI HS2.out.size rfl _ rfl rfl ?_) | (refine wpl_loadB BJ.out aggKey (sizeN hk0) rfl _ rfl rfl ?_) | (refine wpl_loadB (BJ.out.alloc _) aggKey (sizeN hk0) rfl _ rfl rfl ?_) | (refine wpl_loadBW (Blk.new w13 27 (numsA .u8 (keyN Y))) aggKey (sizeN hky) rfl _ rfl rfl ?_) | (refine wpl_loadBW BX.out aggNodeI HS1.out.size rfl _ rfl rfl ?_) | (refine wpl_loadBW (BX.out.alloc _) aggNodeI HS1.out.size rfl _ rfl rfl ?_) | (refine wpl_loadBW BY.out aggNodeI HS2.out.size rfl _ rfl rfl ?_) | (refine wpl_loadBW (BY.out.alloc _) aggNodeI HS2.out.size rfl _ rfl rfl ?_) | (refine wpl_loadBW BJ.out aggKey (sizeN hk0) rfl _ rfl rfl ?_) | (refine wpl_loadBW (BJ.out.alloc _) aggKey (sizeN hk0) rfl _ rfl rfl ?_))
          have hE : Ext w13 (w13.alloc (.cells (numsA .u8 (keyN Y)) 27)) := ext_alloc _ _
          replace BX := Lib.hid (BX.out.ext hE)
          replace BY := Lib.hid (BY.out.ext hE)
          replace BJ := Lib.hid (BJ.out.ext hE)
          replace XW := Lib.hid (XW.out.trans hE)
          clear hE
          have BQ := Lib.hid (Blk.new w13 27 (numsA .u8 (keyN Y)))
          generalize w13.alloc (.cells (numsA .u8 (keyN Y)) 27) = w14 at BX BY BJ BQ XW ⊢
          refine (implEmptyMapKey_any _).mono ?_
          rintro e w15 ⟨rfl, hx⟩
          rw [← HX0.out]
          replace BX := Lib.hid (BX.out.ext hx)
          replace BY := Lib.hid (BY.out.ext hx)
          replace BJ := Lib.hid (BJ.out.ext hx)
          replace BQ := Lib.hid (BQ.out.ext hx)
          replace XW := Lib.hid (XW.out.trans hx)
          clear hx
          go_wp2_with (first | (refine wpl_storeN BJ.out aggKey hkx (sizeN hk0) rfl _ _ rfl rfl rfl rfl ?_) | (refine wpl_loadBW (BX.out.row_far nXJ (numsA .u8 (keyN X))) aggNodeI HS1.out.size rfl _ rfl rfl ?_) | (refine wpl_loadBW (BY.out.row_far nYJ (numsA .u8 (keyN X))) aggNodeI HS2.out.size rfl _ rfl rfl ?_) | (refine wpl_loadBW (BJ.out.setRow (numsA .u8 (keyN X))) aggKey (sizeN hkx) rfl _ rfl rfl ?_) | (refine wpl_loadBW (BQ.out.row_far nJQ.symm (numsA .u8 (keyN X))) aggKey (sizeN hky) rfl _ rfl rfl ?_))
          go_ret
          exact ⟨rfl, XW.out.setRow hgJ _⟩
        · rw [HZ0.out] at hY
          have HY0 := Lib.hid hY0
          clear hY0
          have HY := Lib.hid hY
          clear hY
          refine (implMapNodeKey_any Y HYO.out _).mono ?_
          rintro e w13 ⟨he, hx⟩
          rw [HY.out] at he
          subst he
          replace BX := Lib.hid (BX.out.ext hx)
          replace BY := Lib.hid (BY.out.ext hx)
          replace BJ := Lib.hid (BJ.out.ext hx)
          replace XW := Lib.hid (XW.out.trans hx)
          clear hx
          have nXQ := Nat.ne_of_lt BX.out.lt
          have nYQ := Nat.ne_of_lt BY.out.lt
          have nJQ := Nat.ne_of_lt BJ.out.lt
          have hgQ := XW.out.size
          go_wp2_with (first | (refine wpl_storeNew aggKey hk0 rfl rfl _ _ rfl rfl rfl rfl ?_) | (refine wpl_loadB (Blk.new w13 27 (numsA .u8 Z0)) aggKey (sizeN hk0) rfl _ rfl rfl ?_) | (refine wpl_loadB BX.out aggNodeI HS1.out.size rfl _ rfl rfl ?_) | (refine wpl_loadB (BX.out.alloc _) aggNodeI HS1.out.size rfl _ rfl rfl ?_) | (refine wpl_loadB BY.out aggNodeI HS2.out.size rfl _ rfl rfl ?_) | (refine wpl_loadB (BY.out.alloc _) aggNodeI HS2.out.size rfl _ rfl rfl ?_) | (refine wpl_loadB BJ.out aggKey (sizeN hk0) rfl _ rfl rfl ?_) | (refine wpl_loadB (BJ.out.alloc _) aggKey (sizeN hk0) rfl _ rfl rfl ?_) | (refine wpl_loadBW (Blk.new w13 27 (numsA .u8 Z0)) aggKey (sizeN hk0) rfl _ rfl rfl ?_) | (refine wpl_loadBW BX.out aggNodeI HS1.out.size rfl _ rfl rfl ?_) | (refine wpl_loadBW (BX.out.alloc _) aggNodeI HS1.out.size rfl _ rfl rfl ?_) | (refine wpl_loadBW BY.out aggNodeI HS2.out.size rfl _ rfl rfl ?_) | (refine wpl_loadBW (BY.out.alloc _) aggNodeI HS2.out.size rfl _ rfl rfl ?_) | (refine wpl_loadBW BJ.out aggKey (sizeN hk0) rfl _ rfl rfl ?_) | (refine wpl_loadBW (BJ.out.alloc _) aggKey (sizeN hk0) rfl _ rfl rfl ?_))
          have hE : Ext w13 (w13.alloc (.cells (numsA .u8 Z0) 27)) := ext_alloc _ _
          replace BX := Lib.hid (BX.out.ext hE)
          replace BY := Lib.hid (BY.out.ext hE)
          replace BJ := Lib.hid (BJ.out.ext hE)
          replace XW := Lib.hid (XW.out.trans hE)
          clear hE
          have BQ := Lib.hid (Blk.new w13 27 (numsA .u8 Z0))
          generalize w13.alloc (.cells (numsA .u8 Z0) 27) = w14 at BX BY BJ BQ XW ⊢
          refine (implEmptyMapKey_any _).mono ?_
          rintro e w15 ⟨rfl, hx⟩
          rw [← HX0.out]
          replace BX := Lib.hid (BX.out.ext hx)
          replace BY := Lib.hid (BY.out.ext hx)
          replace BJ := Lib.hid (BJ.out.ext hx)
          replace BQ := Lib.hid (BQ.out.ext hx)
          replace XW := Lib.hid (XW.out.trans hx)
          clear hx
          go_wp2_with (first | (refine wpl_storeN BJ.out aggKey hkx (sizeN hk0) rfl _ _ rfl rfl rfl rfl ?_) | (refine wpl_loadBW (BX.out.row_far nXJ (numsA .u8 (keyN X))) aggNodeI HS1.out.size rfl _ rfl rfl ?_) | (refine wpl_loadBW (BY.out.row_far nYJ (numsA .u8 (keyN X))) aggNodeI HS2.out.size rfl _ rfl rfl ?_) | (refine wpl_loadBW (BJ.out.setRow (numsA .u8 (keyN X))) aggKey (sizeN hkx) rfl _ rfl rfl ?_) | (refine wpl_loadBW (BQ.out.row_far nJQ.symm (numsA .u8 (keyN X))) aggKey (sizeN hk0) rfl _ rfl rfl ?_))
          replace BX := Lib.hid (BX.out.row_far nXJ (numsA .u8 (keyN X)))
          replace BY := Lib.hid (BY.out.row_far nYJ (numsA .u8 (keyN X)))
          replace BJ := Lib.hid (BJ.out.setRow (numsA .u8 (keyN X)))
          replace BQ := Lib.hid (BQ.out.row_far nJQ.symm (numsA .u8 (keyN X)))
          replace XW := Lib.hid (XW.out.setRow (g := w11.heap.size) hgJ (numsA .u8 (keyN X)))
          generalize w15.setRow w11.heap.size (numsA .u8 (keyN X)) = w16 at BX BY BJ BQ XW ⊢
          refine (implEmptyMapKey_any _).mono ?_
          rintro e w17 ⟨rfl, hx⟩
          rw [← HY0.out]
          replace BX := Lib.hid (BX.out.ext hx)
          replace BY := Lib.hid (BY.out.ext hx)
          replace BJ := Lib.hid (BJ.out.ext hx)
          replace BQ := Lib.hid (BQ.out.ext hx)
          replace XW := Lib.hid (XW.out.trans hx)
          clear hx
          go_wp2_with (first | (refine wpl_storeN BQ.out aggKey hky (sizeN hk0) rfl _ _ rfl rfl rfl rfl ?_) | (refine wpl_loadBW (BX.out.row_far nXQ (numsA .u8 (keyN Y))) aggNodeI HS1.out.size rfl _ rfl rfl ?_) | (refine wpl_loadBW (BY.out.row_far nYQ (numsA .u8 (keyN Y))) aggNodeI HS2.out.size rfl _ rfl rfl ?_) | (refine wpl_loadBW (BJ.out.row_far nJQ (numsA .u8 (keyN Y))) aggKey (sizeN hkx) rfl _ rfl rfl ?_) | (refine wpl_loadBW (BQ.out.setRow (numsA .u8 (keyN Y))) aggKey (sizeN hky) rfl _ rfl rfl ?_))
          go_ret
          exact ⟨rfl, XW.out.setRow hgQ _⟩
end Go.Proofs.Ytmndkbheehcoaaa
