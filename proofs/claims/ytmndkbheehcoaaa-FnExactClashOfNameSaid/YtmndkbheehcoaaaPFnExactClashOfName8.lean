/- What the walk of the law FnExactClashOfName needs, part 8 of 8. No condition. -/
import Derived.BigFrame
import Derived.Test.YtmndkbheehcoaaaPFnExactClashOfName7
/- Two variables of a struct's type, made and filled at once. No condition. -/
namespace Go.Proofs.Ytmndkbheehcoaaa
open Go.RowKit Go.BigFrame
set_option linter.unusedVariables false
set_option linter.unusedSimpArgs false

theorem setRow_alloc2 (w : World) (cs cs' : Array Value) (t : TypeId) (o : Obj) : ((w.alloc (.cells cs t)).alloc o).setRow w.heap.size cs' = (w.alloc (.cells cs' t)).alloc o := by
  unfold World.setRow World.alloc
  congr 1
  apply Array.ext
  · simp
  · intro i h1 h2
    simp only [Array.getElem_modify, Array.getElem_push, Array.size_push]
    by_cases h : i < w.heap.size
    · have hne : w.heap.size ≠ i := by omega
      simp [h, hne, Nat.lt_succ_of_lt h]
    · by_cases h3 : w.heap.size = i
      · subst h3
        simp
      · simp [h3, h]
        split
        · omega
        · rfl
theorem wpl_two {P : Program} {ops : Array Oper} {rest : List Oper} {o1 o2 o3 o4 : Oper} {a : Act} {w : World} {Q : Exit → Act → World → Prop} {t n : Nat} {Z cs1 cs2 : Array Value} (ht : Agg P t n) (hs1 : St n cs1) (hs2 : St n cs2) (hz : (P.info? t).map (·.zero) = some (some (.agg Z))) (hZ : Z.size = n)
    (g1 : o1.guard = none) (p1 : o1.op = .alloc t) (g2 : o2.guard = none) (p2 : o2.op = .alloc t) (g3 : o3.guard = none) (x3 y3 : Operand) (p3 : o3.op = .store t x3 y3) (d3 : o3.dst = none) (g4 : o4.guard = none) (x4 y4 : Operand) (p4 : o4.op = .store t x4 y4) (d4 : o4.dst = none)
    (e3 : ((a.put o1.dst (.pointer (some ⟨w.heap.size, 0, none⟩))).put o2.dst (.pointer (some ⟨w.heap.size + 1, 0, none⟩))).eval x3 = .pointer (some ⟨w.heap.size, 0, none⟩))
    (f3 : ((a.put o1.dst (.pointer (some ⟨w.heap.size, 0, none⟩))).put o2.dst (.pointer (some ⟨w.heap.size + 1, 0, none⟩))).eval y3 = .agg cs1)
    (e4 : ((a.put o1.dst (.pointer (some ⟨w.heap.size, 0, none⟩))).put o2.dst (.pointer (some ⟨w.heap.size + 1, 0, none⟩))).eval x4 = .pointer (some ⟨w.heap.size + 1, 0, none⟩))
    (f4 : ((a.put o1.dst (.pointer (some ⟨w.heap.size, 0, none⟩))).put o2.dst (.pointer (some ⟨w.heap.size + 1, 0, none⟩))).eval y4 = .agg cs2)
    (h : wpList P ops Q rest ((a.put o1.dst (.pointer (some ⟨w.heap.size, 0, none⟩))).put o2.dst (.pointer (some ⟨w.heap.size + 1, 0, none⟩))) ((w.alloc (.cells cs1 t)).alloc (.cells cs2 t))) :
    wpList P ops Q (o1 :: o2 :: o3 :: o4 :: rest) a w := by
  have hsz : (w.alloc (.cells Z t)).heap.size = w.heap.size + 1 := by simp
  have hsz1 : (w.alloc (.cells cs1 t)).heap.size = w.heap.size + 1 := by simp
  refine wpl_alloc Z hz g1 p1 ?_
  refine wpl_alloc Z hz g2 p2 ?_
  rw [hsz]
  refine wpl_storeB ((Blk.new w t Z).alloc _) ht hs1 hZ g3 x3 y3 p3 e3 f3 d3 ?_
  rw [setRow_alloc2]
  refine wpl_storeB (g := w.heap.size + 1) (e := t) (cur := Z) (by have := Blk.new (w.alloc (.cells cs1 t)) t Z; rwa [hsz1] at this) ht hs2 hZ g4 x4 y4 p4 e4 f4 d4 ?_
  have := setRow_alloc (w.alloc (.cells cs1 t)) Z cs2 t
  rw [hsz1] at this
  rw [this]
  exact h
/-- the same load where a guard lets it by -/
theorem wpl_loadBW {P : Program} {ops : Array Oper} {rest : List Oper} {o : Oper} {a : Act} {w : World} {Q : Exit → Act → World → Prop} {t g e n : Nat} {cs : Array Value} (hb : Blk w g e cs) (ht : Agg P t n) (hn : cs.size = n) (hw : Region.wanted o (yielded ops a.tmps) = true) (x : Operand) (ho : o.op = .load t x) (hx : a.eval x = .pointer (some ⟨g, 0, none⟩))
    (h : wpList P ops Q rest (a.put o.dst (.agg cs)) w) : wpList P ops Q (o :: rest) a w := by
  refine wpList_want hw fun K hK => ?_
  unfold Oper.wp execOp
  simp only [ho, hx, Instr.loadAt, Instr.sureAddr, Sem.run_bind, Sem.run_pure, Result.andThen_ok, run_loadB hb ht hn]
  exact hK _ _ h
end Go.Proofs.Ytmndkbheehcoaaa
/- The two nodes of an answer are nodes. No condition. -/
namespace Go.Proofs.Ytmndkbheehcoaaa
open Go.RowKit
set_option linter.unusedVariables false
theorem clR_ok {L : List En} {s : ByteArray} {P : List Nd} (hL : ∀ e ∈ L, tEnt.ok e) (hP : ∀ x ∈ P, tNd.ok x) : (clR L s P).1.ok ∧ (clR L s P).2.1.ok := by
  unfold clR
  split
  · rename_i h
    have h1 : okE L = true := by simp only [Bool.and_eq_true] at h; exact h.1.1
    split
    · split
      · exact ⟨zeroN_ok, zeroN_ok⟩
      · exact ⟨getD_ok (Tr.sel_ok (fun o => ltB s o) (fun o => ltB o s) _ (trF_ok _ _ (good_of h1 hL))) _, getD_ok hP _⟩
    · exact ⟨zeroN_ok, zeroN_ok⟩
  · exact ⟨zeroN_ok, zeroN_ok⟩
theorem eqNdE_any (a : Nd) (ha : a.ok) (w : World) : Calls Try.prog 18 #[.agg a.enc.toArray, .agg a.enc.toArray] w fun e w' => e = .returned (.bool true) ∧ Ext w w' := eqNdT_any a ha w
end Go.Proofs.Ytmndkbheehcoaaa
/- The walk of the law FnExactClashOfName. No condition. -/
namespace Go.Proofs.Ytmndkbheehcoaaa
open Go.RowKit
set_option linter.unusedVariables false
set_option linter.unusedSimpArgs false

set_option maxHeartbeats 16000000 in
set_option maxRecDepth 100000 in
theorem FnExactClashOfName_any (w : World) (v0 : Value) (x0 : List En) (S0 : Nat → Prop) (h0 : RdL tEnt w S0 v0 x0) (s1 : ByteArray) (hs1 : s1.size ≤ 140737488351232) (v2 : Value) (x2 : List Nd) (S2 : Nat → Prop) (h2 : RdL tNd w S2 v2 x2) :
    Calls Try.prog 3 #[v0, .string s1, v2] w fun e w' => e = .returned (.bool true) ∧ Ext w w' := by
  obtain ⟨A0, cap0, rfl, _, hlen0, _⟩ := id h0
  have H0 := Lib.hid h0
  clear h0
  obtain ⟨A2, cap2, rfl, _, hlen2, _⟩ := id h2
  have H2 := Lib.hid h2
  clear h2
  by_cases hl1 : (1048576 : Int) < (s1.size : Int)
  · go_enter Try.func3, Try.ntmps3
    go_wp2_with fail
    go_ret
    exact ⟨rfl, (Ext.refl _)⟩
  have hm1 : s1.size ≤ 1048576 := by omega
  by_cases hz0 : (1048576 - (entsN x0 : Nat) : Int) < 0
  · go_enter Try.func3, Try.ntmps3
    go_wp2_with fail
    refine (szEntryS_u _ x0 (1048576) _ _ (H0.out.ext (by decide) (Ext.refl _)) (by omega) (by omega)).mono ?_
    rintro e w1 ⟨rfl, hx⟩
    rw [if_pos (by omega)]
    have XW := Lib.hid hx
    clear hx
    go_wp2_with fail
    go_ret
    exact ⟨rfl, XW.out⟩
  by_cases hz2 : (1048576 - (entsN x0 : Nat) - (ndsN x2 : Nat) : Int) < 0
  · go_enter Try.func3, Try.ntmps3
    go_wp2_with fail
    refine (szEntryS_u _ x0 (1048576) _ _ (H0.out.ext (by decide) (Ext.refl _)) (by omega) (by omega)).mono ?_
    rintro e w1 ⟨rfl, hx⟩
    rw [if_neg (by omega)]
    have XW := Lib.hid hx
    clear hx
    go_wp2_with fail
    refine (szMapNodeS_u _ x2 (1048576 - (entsN x0 : Nat)) _ _ (H2.out.ext (by decide) XW.out) (by omega) (by omega)).mono ?_
    rintro e w2 ⟨rfl, hx⟩
    rw [if_pos (by omega)]
    replace XW := Lib.hid (XW.out.trans hx)
    clear hx
    go_wp2_with fail
    go_ret
    exact ⟨rfl, XW.out⟩
  have hln0 : x0.length ≤ 1048576 := by have := entsN_eq x0; omega
  have hln2 : x2.length ≤ 1048576 := by have := ndsN_eq x2; omega
  obtain ⟨R1, R2, R3, hR⟩ : ∃ R1 R2 R3, clR x0 s1 x2 = (R1, R2, R3) := ⟨_, _, _, rfl⟩
  have hRo := clR_ok (s := s1) H0.out.choose_spec.choose_spec.2.2.2.2 H2.out.choose_spec.choose_spec.2.2.2.2
  rw [hR] at hRo
  have HR1 := Lib.hid (show R1.ok from hRo.1)
  have HR2 := Lib.hid (show R2.ok from hRo.2)
  have HS1 := Lib.hid (Nd.st HR1.out)
  have HS2 := Lib.hid (Nd.st HR2.out)
  clear hRo
  have HR := Lib.hid hR
  clear hR
  have hq3 : (R3 != R3) = false := by simp
  go_enter Try.func3, Try.ntmps3
  go_wp2_with fail
  refine (szEntryS_u _ x0 (1048576) _ _ (H0.out.ext (by decide) (Ext.refl _)) (by omega) (by omega)).mono ?_
  rintro e w1 ⟨rfl, hx⟩
  rw [if_neg (by omega)]
  have XW := Lib.hid hx
  clear hx
  go_wp2_with fail
  refine (szMapNodeS_u _ x2 (1048576 - (entsN x0 : Nat)) _ _ (H2.out.ext (by decide) XW.out) (by omega) (by omega)).mono ?_
  rintro e w2 ⟨rfl, hx⟩
  rw [if_neg (by omega)]
  replace XW := Lib.hid (XW.out.trans hx)
  clear hx
  go_wp2_with fail
  refine (toEntryS_u _ x0 _ _ (H0.out.ext (by decide) XW.out) hln0).mono ?_
  rintro e w3 ⟨vs0, rfl, ho, hx⟩
  replace XW := Lib.hid (XW.out.trans hx)
  obtain ⟨As0, cs0, rfl⟩ := ho.shape
  have Os0 := Lib.hid ho.rd
  clear ho
  clear hx
  go_wp2_with fail
  refine (toMapNodeS_u _ x2 _ _ (H2.out.ext (by decide) XW.out) hln2).mono ?_
  rintro e w4 ⟨vs2, rfl, ho, hx⟩
  replace Os0 := Lib.hid (Os0.out.ext (by decide) hx)
  replace XW := Lib.hid (XW.out.trans hx)
  obtain ⟨As2, cs2, rfl⟩ := ho.shape
  have Os2 := Lib.hid ho.rd
  clear ho
  clear hx
  go_wp2_with fail
  refine (specClash_any _ _ x0 s1 hs1 x2 _ _ _ Os0.out Os2.out).mono ?_
  rintro e w5 ⟨he, hx⟩
  rw [HR.out] at he
  subst he
  replace Os0 := Lib.hid (Os0.out.ext (by decide) hx)
  replace Os2 := Lib.hid (Os2.out.ext (by decide) hx)
  replace XW := Lib.hid (XW.out.trans hx)
  clear hx
  clear Os0
  clear Os2
  go_wp2_with (first | (refine wpl_two aggNodeI HS1.out HS2.out rfl rfl rfl rfl rfl rfl rfl _ _ rfl rfl rfl _ _ rfl rfl rfl rfl rfl rfl ?_) | (refine wpl_loadB ((Blk.new w5 31 R1.enc.toArray).alloc (.cells R2.enc.toArray 31)) aggNodeI HS1.out.size rfl _ rfl rfl ?_) | (refine wpl_loadB (Blk.new' (g := w5.heap.size + 1) (w := World.alloc w5 (.cells R1.enc.toArray 31)) (by simp) 31 R2.enc.toArray) aggNodeI HS2.out.size rfl _ rfl rfl ?_))
  have V1 := Lib.hid ((Blk.new w5 31 R1.enc.toArray).alloc (.cells R2.enc.toArray 31))
  have V2 := Lib.hid (Blk.new' (g := w5.heap.size + 1) (w := World.alloc w5 (.cells R1.enc.toArray 31)) (by simp) 31 R2.enc.toArray)
  have hE : Ext w5 ((w5.alloc (.cells R1.enc.toArray 31)).alloc (.cells R2.enc.toArray 31)) := (ext_alloc _ _).alloc _
  replace XW := Lib.hid (XW.out.trans hE)
  clear hE
  generalize (w5.alloc (.cells R1.enc.toArray 31)).alloc (.cells R2.enc.toArray 31) = w6 at V1 V2 XW ⊢
  refine (toEntryS_u _ x0 _ _ (H0.out.ext (by decide) XW.out) hln0).mono ?_
  rintro e w7 ⟨vx0, rfl, ho, hx⟩
  replace V1 := Lib.hid (V1.out.ext hx)
  replace V2 := Lib.hid (V2.out.ext hx)
  replace XW := Lib.hid (XW.out.trans hx)
  obtain ⟨Ax0, cx0, rfl⟩ := ho.shape
  have Ox0 := Lib.hid ho.rd
  clear ho
  clear hx
  go_wp2_with (first | (refine wpl_loadB V1.out aggNodeI HS1.out.size rfl _ rfl rfl ?_) | (refine wpl_loadB V2.out aggNodeI HS2.out.size rfl _ rfl rfl ?_))
  refine (toMapNodeS_u _ x2 _ _ (H2.out.ext (by decide) XW.out) hln2).mono ?_
  rintro e w8 ⟨vx2, rfl, ho, hx⟩
  replace Ox0 := Lib.hid (Ox0.out.ext (by decide) hx)
  replace V1 := Lib.hid (V1.out.ext hx)
  replace V2 := Lib.hid (V2.out.ext hx)
  replace XW := Lib.hid (XW.out.trans hx)
  obtain ⟨Ax2, cx2, rfl⟩ := ho.shape
  have Ox2 := Lib.hid ho.rd
  clear ho
  clear hx
  go_wp2_with (first | (refine wpl_loadB V1.out aggNodeI HS1.out.size rfl _ rfl rfl ?_) | (refine wpl_loadB V2.out aggNodeI HS2.out.size rfl _ rfl rfl ?_))
  refine (implClash_any _ _ x0 s1 hs1 x2 _ _ _ Ox0.out Ox2.out).mono ?_
  rintro e w9 ⟨he, hx⟩
  rw [HR.out] at he
  subst he
  replace Ox0 := Lib.hid (Ox0.out.ext (by decide) hx)
  replace Ox2 := Lib.hid (Ox2.out.ext (by decide) hx)
  replace V1 := Lib.hid (V1.out.ext hx)
  replace V2 := Lib.hid (V2.out.ext hx)
  replace XW := Lib.hid (XW.out.trans hx)
  clear hx
  go_wp2_with (first | (refine wpl_two aggNodeI HS1.out HS2.out rfl rfl rfl rfl rfl rfl rfl _ _ rfl rfl rfl _ _ rfl rfl rfl rfl rfl rfl ?_) | (refine wpl_loadB ((Blk.new w9 31 R1.enc.toArray).alloc (.cells R2.enc.toArray 31)) aggNodeI HS1.out.size rfl _ rfl rfl ?_) | (refine wpl_loadB (Blk.new' (g := w9.heap.size + 1) (w := World.alloc w9 (.cells R1.enc.toArray 31)) (by simp) 31 R2.enc.toArray) aggNodeI HS2.out.size rfl _ rfl rfl ?_) | (refine wpl_loadB ((V1.out.alloc _).alloc _) aggNodeI HS1.out.size rfl _ rfl rfl ?_))
  have G1 := Lib.hid ((Blk.new w9 31 R1.enc.toArray).alloc (.cells R2.enc.toArray 31))
  have G2 := Lib.hid (Blk.new' (g := w9.heap.size + 1) (w := World.alloc w9 (.cells R1.enc.toArray 31)) (by simp) 31 R2.enc.toArray)
  have hE : Ext w9 ((w9.alloc (.cells R1.enc.toArray 31)).alloc (.cells R2.enc.toArray 31)) := (ext_alloc _ _).alloc _
  replace Ox0 := Lib.hid (Ox0.out.ext (by decide) hE)
  replace Ox2 := Lib.hid (Ox2.out.ext (by decide) hE)
  replace V1 := Lib.hid (V1.out.ext hE)
  replace V2 := Lib.hid (V2.out.ext hE)
  replace XW := Lib.hid (XW.out.trans hE)
  clear hE
  generalize (w9.alloc (.cells R1.enc.toArray 31)).alloc (.cells R2.enc.toArray 31) = w10 at G1 G2 Ox0 Ox2 V1 V2 XW ⊢
  refine (eqNdE_any R1 HR1.out _).mono ?_
  rintro e w11 ⟨rfl, hx⟩
  replace Ox0 := Lib.hid (Ox0.out.ext (by decide) hx)
  replace Ox2 := Lib.hid (Ox2.out.ext (by decide) hx)
  replace V1 := Lib.hid (V1.out.ext hx)
  replace V2 := Lib.hid (V2.out.ext hx)
  replace G1 := Lib.hid (G1.out.ext hx)
  replace G2 := Lib.hid (G2.out.ext hx)
  replace XW := Lib.hid (XW.out.trans hx)
  clear hx
  go_wp2_with (first | (refine wpl_loadB V1.out aggNodeI HS1.out.size rfl _ rfl rfl ?_) | (refine wpl_loadB V2.out aggNodeI HS2.out.size rfl _ rfl rfl ?_) | (refine wpl_loadB G1.out aggNodeI HS1.out.size rfl _ rfl rfl ?_) | (refine wpl_loadB G2.out aggNodeI HS2.out.size rfl _ rfl rfl ?_) | (refine wpl_loadBW V1.out aggNodeI HS1.out.size rfl _ rfl rfl ?_) | (refine wpl_loadBW V2.out aggNodeI HS2.out.size rfl _ rfl rfl ?_) | (refine wpl_loadBW G1.out aggNodeI HS1.out.size rfl _ rfl rfl ?_) | (refine wpl_loadBW G2.out aggNodeI HS2.out.size rfl _ rfl rfl ?_))
  refine (eqNdE_any R2 HR2.out _).mono ?_
  rintro e w12 ⟨rfl, hx⟩
  replace Ox0 := Lib.hid (Ox0.out.ext (by decide) hx)
  replace Ox2 := Lib.hid (Ox2.out.ext (by decide) hx)
  replace V1 := Lib.hid (V1.out.ext hx)
  replace V2 := Lib.hid (V2.out.ext hx)
  replace G1 := Lib.hid (G1.out.ext hx)
  replace G2 := Lib.hid (G2.out.ext hx)
  replace XW := Lib.hid (XW.out.trans hx)
  clear hx
  go_wp2_with (first | (refine wpl_loadB V1.out aggNodeI HS1.out.size rfl _ rfl rfl ?_) | (refine wpl_loadB V2.out aggNodeI HS2.out.size rfl _ rfl rfl ?_) | (refine wpl_loadB G1.out aggNodeI HS1.out.size rfl _ rfl rfl ?_) | (refine wpl_loadB G2.out aggNodeI HS2.out.size rfl _ rfl rfl ?_))
  refine (toEntryS_u _ x0 _ _ (H0.out.ext (by decide) XW.out) hln0).mono ?_
  rintro e w13 ⟨vy0, rfl, ho, hx⟩
  replace Ox0 := Lib.hid (Ox0.out.ext (by decide) hx)
  replace Ox2 := Lib.hid (Ox2.out.ext (by decide) hx)
  replace V1 := Lib.hid (V1.out.ext hx)
  replace V2 := Lib.hid (V2.out.ext hx)
  replace G1 := Lib.hid (G1.out.ext hx)
  replace G2 := Lib.hid (G2.out.ext hx)
  replace XW := Lib.hid (XW.out.trans hx)
  obtain ⟨Ay0, cy0, rfl⟩ := ho.shape
  have Oy0 := Lib.hid ho.rd
  clear ho
  clear hx
  go_wp2_with (first | (refine wpl_loadB V1.out aggNodeI HS1.out.size rfl _ rfl rfl ?_) | (refine wpl_loadB V2.out aggNodeI HS2.out.size rfl _ rfl rfl ?_) | (refine wpl_loadB G1.out aggNodeI HS1.out.size rfl _ rfl rfl ?_) | (refine wpl_loadB G2.out aggNodeI HS2.out.size rfl _ rfl rfl ?_))
  refine (eqEntryS_u _ _ x0 _ _ _ Ox0.out Oy0.out).mono ?_
  rintro e w14 ⟨rfl, hx⟩
  replace Ox0 := Lib.hid (Ox0.out.ext (by decide) hx)
  replace Ox2 := Lib.hid (Ox2.out.ext (by decide) hx)
  replace Oy0 := Lib.hid (Oy0.out.ext (by decide) hx)
  replace V1 := Lib.hid (V1.out.ext hx)
  replace V2 := Lib.hid (V2.out.ext hx)
  replace G1 := Lib.hid (G1.out.ext hx)
  replace G2 := Lib.hid (G2.out.ext hx)
  replace XW := Lib.hid (XW.out.trans hx)
  clear hx
  clear Oy0
  go_wp2_with (first | (refine wpl_loadB V1.out aggNodeI HS1.out.size rfl _ rfl rfl ?_) | (refine wpl_loadB V2.out aggNodeI HS2.out.size rfl _ rfl rfl ?_) | (refine wpl_loadB G1.out aggNodeI HS1.out.size rfl _ rfl rfl ?_) | (refine wpl_loadB G2.out aggNodeI HS2.out.size rfl _ rfl rfl ?_))
  refine (toMapNodeS_u _ x2 _ _ (H2.out.ext (by decide) XW.out) hln2).mono ?_
  rintro e w15 ⟨vy2, rfl, ho, hx⟩
  replace Ox0 := Lib.hid (Ox0.out.ext (by decide) hx)
  replace Ox2 := Lib.hid (Ox2.out.ext (by decide) hx)
  replace V1 := Lib.hid (V1.out.ext hx)
  replace V2 := Lib.hid (V2.out.ext hx)
  replace G1 := Lib.hid (G1.out.ext hx)
  replace G2 := Lib.hid (G2.out.ext hx)
  replace XW := Lib.hid (XW.out.trans hx)
  obtain ⟨Ay2, cy2, rfl⟩ := ho.shape
  have Oy2 := Lib.hid ho.rd
  clear ho
  clear hx
  go_wp2_with (first | (refine wpl_loadB V1.out aggNodeI HS1.out.size rfl _ rfl rfl ?_) | (refine wpl_loadB V2.out aggNodeI HS2.out.size rfl _ rfl rfl ?_) | (refine wpl_loadB G1.out aggNodeI HS1.out.size rfl _ rfl rfl ?_) | (refine wpl_loadB G2.out aggNodeI HS2.out.size rfl _ rfl rfl ?_))
  refine (eqMapNodeS_u _ _ x2 _ _ _ Ox2.out Oy2.out).mono ?_
  rintro e w16 ⟨rfl, hx⟩
  replace Ox0 := Lib.hid (Ox0.out.ext (by decide) hx)
  replace Ox2 := Lib.hid (Ox2.out.ext (by decide) hx)
  replace Oy2 := Lib.hid (Oy2.out.ext (by decide) hx)
  replace V1 := Lib.hid (V1.out.ext hx)
  replace V2 := Lib.hid (V2.out.ext hx)
  replace G1 := Lib.hid (G1.out.ext hx)
  replace G2 := Lib.hid (G2.out.ext hx)
  replace XW := Lib.hid (XW.out.trans hx)
  clear hx
  clear Oy2
  go_wp2_with (first | (refine wpl_loadB V1.out aggNodeI HS1.out.size rfl _ rfl rfl ?_) | (refine wpl_loadB V2.out aggNodeI HS2.out.size rfl _ rfl rfl ?_) | (refine wpl_loadB G1.out aggNodeI HS1.out.size rfl _ rfl rfl ?_) | (refine wpl_loadB G2.out aggNodeI HS2.out.size rfl _ rfl rfl ?_))
  go_ret
  exact ⟨rfl, XW.out⟩
end Go.Proofs.Ytmndkbheehcoaaa
/- A list of entries as an argument. No condition. -/
namespace Go.Proofs.Ytmndkbheehcoaaa
open Go.RowKit
theorem c_ent : ∀ {w : World} {S : Nat → Prop} (es : List Value) (x : ByteArray × ByteArray), cPair cStr cStr w S es x → es = tEnt.enc x ∧ tEnt.ok x := by
  rintro w S es x ⟨c1, c2, rfl, ⟨rfl, h1⟩, rfl, h2⟩
  exact ⟨rfl, h1, h2⟩
end Go.Proofs.Ytmndkbheehcoaaa
/- A list of nodes as an argument. No condition. -/
namespace Go.Proofs.Ytmndkbheehcoaaa
open Go.RowKit
def toNd (x : List Int × List Int × En) : Nd := ⟨x.1, x.2.1, x.2.2.1, x.2.2.2⟩
def tNdT : Ty (List Int × List Int × En) := ⟨66, fun x => (toNd x).enc, fun x => (toNd x).ok, fun _ h => Nd.enc_length h, fun x => Nd.enc_one (toNd x)⟩
theorem c_nd : ∀ {w : World} {S : Nat → Prop} (es : List Value) (x : List Int × List Int × En), cPair (cArr8 32) (cPair (cArr8 32) (cPair cStr cStr)) w S es x → es = tNdT.enc x ∧ tNdT.ok x := by
  rintro w S es x ⟨c1, c2, rfl, ⟨rfl, hl, hlb⟩, c3, c4, rfl, ⟨rfl, hr, hrb⟩, c5, c6, rfl, ⟨rfl, hn⟩, rfl, hs⟩
  exact ⟨by simp [tNdT, toNd, Nd.enc], ⟨⟨hl, hlb⟩, ⟨hr, hrb⟩, hn, hs⟩⟩
theorem rdl_nd {w : World} {S : Nat → Prop} {v : Value} {xs : List (List Int × List Int × En)} (h : RdL tNdT w S v xs) : RdL tNd w S v (xs.map toNd) := by
  obtain ⟨A, cap, e, h1, h2, h3, h4⟩ := h
  have e2 : (xs.map toNd).flatMap tNd.enc = xs.flatMap tNdT.enc := by rw [List.flatMap_map]; rfl
  refine ⟨A, cap, by rw [List.length_map]; exact e, by rw [List.length_map]; exact h1, by rw [List.length_map]; exact h2, by rw [List.length_map, e2]; exact h3, ?_⟩
  intro x hx
  obtain ⟨y, hy, rfl⟩ := List.mem_map.1 hx
  exact h4 y hy
end Go.Proofs.Ytmndkbheehcoaaa
