/- The nodes of a tree that are looked at. No condition. -/
import Derived.Test.YtikpakhccmdmcaaTreeM
namespace Go.Proofs.Ytikpakhccmdmcaa
open Go.RowKit
set_option linter.unusedVariables false
set_option linter.unusedSimpArgs false

theorem gt_eq (a b : ByteArray) : (!Op.bytesLess a.toList b.toList && !(a.toList == b.toList)) = ltB b a := by
  rw [ltB_eq]
  cases h : ltB a b with
  | true => rw [ltB_asymm h]; rfl
  | false =>
    cases k : ltB b a with
    | true =>
      have hne : a ≠ b := fun e => by subst e; rw [ltB_irrefl] at k; cases k
      have h2 : (a.toList == b.toList) = false := by rw [beq_eq_false_iff_ne]; exact fun e => hne (toList_inj e)
      rw [h2]; rfl
    | false =>
      have := ltB_total h k
      subst this
      simp
/-- the nodes that are met: to the left where p says so, to the right where q does -/
def Tr.sel (p q : ByteArray → Bool) : Tr → List Nd
  | .leaf => []
  | .node x l r => x :: ((if p x.n then l.sel p q else []) ++ (if q x.n then r.sel p q else []))
theorem Tr.sel_le (p q : ByteArray → Bool) (T : Tr) : (T.sel p q).length ≤ T.all.length := by
  induction T with
  | leaf => exact Nat.le_refl _
  | node x l r il ir =>
    simp only [Tr.sel, Tr.all, List.length_cons, List.length_append]
    have h1 : (if p x.n then l.sel p q else []).length ≤ l.all.length := by split; exact il; exact Nat.zero_le _
    have h2 : (if q x.n then r.sel p q else []).length ≤ r.all.length := by split; exact ir; exact Nat.zero_le _
    omega
theorem Tr.sel_all (T : Tr) : T.sel (fun _ => true) (fun _ => true) = T.all := by
  induction T with
  | leaf => rfl
  | node x l r il ir => simp only [Tr.sel, Tr.all, if_true, il, ir]
theorem Tr.sel_ok (p q : ByteArray → Bool) (T : Tr) (h : T.ok) : ∀ x ∈ T.sel p q, tNd.ok x := by
  induction T with
  | leaf => intro x hx; simp [Tr.sel] at hx
  | node y l r il ir =>
    obtain ⟨h1, h2, _, _, h5, h6⟩ := h
    intro x hx
    simp only [Tr.sel, List.mem_cons, List.mem_append] at hx
    rcases hx with rfl | hx | hx
    · exact h1
    · split at hx
      · exact il h5 x hx
      · simp at hx
    · split at hx
      · exact ir h6 x hx
      · simp at hx
theorem TrAt.cells {w : World} {g : Nat} {x : Nd} (hx : x.ok) {pl pr : Value} (h : Blk w g 131 (x.enc ++ [pl, pr]).toArray) : w.cell? ⟨g, 64, none⟩ = some (.string x.n) ∧ w.cell? ⟨g, 66, none⟩ = some pl ∧ w.cell? ⟨g, 67, none⟩ = some pr := by
  refine ⟨?_, h.at_ 66 (enc_66 hx _ _), h.at_ 67 (enc_67 hx _ _)⟩
  have := enc_in x pl pr 64 _ (Nd.at64 hx)
  rw [Nat.zero_add] at this
  exact h.at_ 64 this
set_option maxHeartbeats 1000000 in
set_option maxRecDepth 100000 in
theorem treeNodesA (p q : ByteArray → Bool) (w0 : World) (h1 : ∀ (s : ByteArray) W, Ext w0 W → Calls Try.prog 92 #[.string s] W fun e w' => e = .returned (.bool (p s)) ∧ Ext W w') (h2 : ∀ (s : ByteArray) W, Ext w0 W → Calls Try.prog 92 #[.string s] W fun e w' => e = .returned (.bool (q s)) ∧ Ext W w') (T : Tr) (hok : T.ok) (h64 : T.all.length ≤ 1000) (v : Value) (w : World) (hw : Ext w0 w) (h : TrAt w v T) :
    Calls Try.prog 57 #[v, .func (.func 92) #[] #[], .func (.func 92) #[] #[]] w fun e w' => ∃ v', e = .returned v' ∧ Own tNd 60 w' w.heap.size v' (T.sel p q) ∧ Ext w w' := by
  induction T generalizing v w with
  | leaf =>
    obtain rfl := h
    go_enter Try.func57, Try.ntmps57
    go_wp2
    go_ret
    exact ⟨_, rfl, Own.nil _ _ _ _, Ext.refl _⟩
  | node x l r il ir =>
    obtain ⟨g, pl, pr, rfl, hb, htl, htr⟩ := h
    obtain ⟨hx0, he, _, _, hl5, hr6⟩ := hok
    have hal : l.all.length ≤ 1000 ∧ r.all.length ≤ 1000 := by simp only [Tr.all, List.length_cons, List.length_append] at h64; omega
    have ill := fun W hW hT => il hl5 hal.1 pl W hW hT
    have irr := fun W hW hT => ir hr6 hal.2 pr W hW hT
    have hsl : (l.sel p q).length ≤ 1000 := Nat.le_trans (Tr.sel_le p q l) hal.1
    have hsr : (r.sel p q).length ≤ 1000 := Nat.le_trans (Tr.sel_le p q r) hal.2
    obtain ⟨ppl, rfl⟩ := htl.ptr
    obtain ⟨ppr, rfl⟩ := htr.ptr
    have HB := Lib.hid hb
    have HX0 := Lib.hid hx0
    have HTL := Lib.hid htl
    have HTR := Lib.hid htr
    have HW := Lib.hid hw
    have hsz := (Nd.st hx0).size
    have henc := Nd.enc_length hx0
    have HSL := Lib.hid hsl
    have HSR := Lib.hid hsr
    have HC1 := Lib.hid h1
    have HC2 := Lib.hid h2
    show Calls Try.prog 57 #[.pointer (some ⟨g, 0, none⟩), .func (.func 92) #[] #[], .func (.func 92) #[] #[]] w fun e w' => ∃ v', e = .returned v' ∧ Own tNd 60 w' w.heap.size v' (x :: ((if p x.n then l.sel p q else []) ++ (if q x.n then r.sel p q else []))) ∧ Ext w w'
    clear hb hx0 he htl htr hw il ir hl5 hr6 hal hsl hsr h64 h1 h2
    obtain ⟨wa, hwa⟩ : ∃ wa, wa = w.alloc (.cells x.enc.toArray 60) := ⟨_, rfl⟩
    have HA := Lib.hid (show Ext w wa by rw [hwa]; exact ext_alloc _ _)
    have OS := Lib.hid (show Own tNd 60 wa w.heap.size (.slice (some ⟨w.heap.size, 0, none⟩) 1 1) [x] by
      have := Own.of_blk tNd (w := w.alloc (.cells x.enc.toArray 60)) (base := w.heap.size) (xs := [x]) (by rw [show [x].flatMap tNd.enc = x.enc from by rw [List.flatMap_cons, List.flatMap_nil, List.append_nil]; rfl]; exact Blk.new w 60 x.enc.toArray) (Nat.le_refl _) (by simp) (by intro y hy; obtain rfl := List.mem_singleton.1 hy; exact HX0.out)
      rw [← hwa] at this
      exact this)
    have c64 := fun W hW => (TrAt.cells HX0.out (HB.out.ext (show Ext w W from hW))).1
    have c66 := fun W hW => (TrAt.cells HX0.out (HB.out.ext (show Ext w W from hW))).2.1
    have c67 := fun W hW => (TrAt.cells HX0.out (HB.out.ext (show Ext w W from hW))).2.2
    have C64 := Lib.hid c64
    have C66 := Lib.hid c66
    have C67 := Lib.hid c67
    clear c64 c66 c67
    have hw64 : ∀ o, (w.alloc o).cell? ⟨g, 64, none⟩ = some (.string x.n) := fun o => C64.out _ (ext_alloc w o)
    cases hp : p x.n with
    | true =>
      have h1n := HC1.out x.n wa (HW.out.trans HA.out)
      rw [hp] at h1n
      go_enter Try.func57, Try.ntmps57
      go_wp2_with (refine wpl_loadP (off := 0) (sub := x.enc.toArray) HB.out aggNodeI hsz (enc_in x (.pointer ppl) (.pointer ppr)) rfl _ rfl rfl ?_)
      rw [fold_fill x.enc _ (by rw [henc]; rfl), ← hwa]
      refine h1n.mono ?_
      rintro e w1 ⟨rfl, hx⟩
      have HX1 := Lib.hid (HA.out.trans hx)
      have OS1 := Lib.hid (OS.out.ext hx)
      have d66 := C66.out _ HX1.out
      have d64 := C64.out _ HX1.out
      clear hx h1n hw64
      go_wp2_with fail
      refine (ill _ (HW.out.trans HX1.out) (HTL.out.ext HX1.out)).mono ?_
      rintro e w2 ⟨vl, rfl, ho, hx⟩
      have HX2 := Lib.hid (HX1.out.trans hx)
      have OS2 := Lib.hid (OS1.out.ext hx)
      have ORl := Lib.hid ho.rd
      have d64b := C64.out _ HX2.out
      obtain ⟨Al, cl, rfl⟩ := ho.shape
      clear hx ho ill d64 d66
      go_wp2_with (at_builtin; refine wpl_append rowNd rfl _ _ rfl (v := .slice (some ⟨w.heap.size, 0, none⟩) 1 1) rfl OS2.out _ _ rfl (ys := l.sel p q) rfl (rd_nd ORl.out) (ok_nd ORl.out) (by have := HSL.out; simp only [List.length_singleton]; omega) HX2.out.size ?_; intro v5 w5 ho1 hg1 hat1; have HX5 := Lib.hid (OS2.out.ext_app HX2.out hg1); obtain ⟨B5, n5, c5, rfl⟩ := ho1.shape3; have HO5 := Lib.hid ho1; have d64c := C64.out _ HX5.out; clear ho1 hg1 hat1)
      cases hq : q x.n with
      | true =>
        have h2n := HC2.out x.n w5 (HW.out.trans HX5.out)
        rw [hq] at h2n
        go_wp2_with fail
        refine h2n.mono ?_
        rintro e w6 ⟨rfl, hx⟩
        have HX6 := Lib.hid (HX5.out.trans hx)
        have HO6 := Lib.hid (HO5.out.ext hx)
        have d67 := C67.out _ HX6.out
        clear hx h2n
        go_wp2_with fail
        refine (irr _ (HW.out.trans HX6.out) (HTR.out.ext HX6.out)).mono ?_
        rintro e w7 ⟨vr, rfl, ho, hx⟩
        have HX7 := Lib.hid (HX6.out.trans hx)
        have HO7 := Lib.hid (HO6.out.ext hx)
        have ORr := Lib.hid ho.rd
        obtain ⟨Ar, cr, rfl⟩ := ho.shape
        clear hx ho irr d67
        go_wp2_with (at_builtin; refine wpl_append rowNd rfl _ _ rfl (v := .slice B5 n5 c5) rfl HO7.out _ _ rfl (ys := r.sel p q) rfl (rd_nd ORr.out) (ok_nd ORr.out) (by have := HSL.out; have := HSR.out; simp only [List.length_append, List.length_singleton]; omega) HX7.out.size ?_; intro v8 w8 ho1 hg1 hat1; have HX8 := Lib.hid (HO7.out.ext_app HX7.out hg1); have HO8 := Lib.hid ho1; clear ho1 hg1 hat1)
        go_ret
        refine ⟨_, rfl, ?_, HX8.out⟩
        have := HO8.out
        simpa [hp, hq] using this
      | false =>
        have h2n := HC2.out x.n w5 (HW.out.trans HX5.out)
        rw [hq] at h2n
        go_wp2_with fail
        refine h2n.mono ?_
        rintro e w6 ⟨rfl, hx⟩
        have HX6 := Lib.hid (HX5.out.trans hx)
        have HO6 := Lib.hid (HO5.out.ext hx)
        have d67 := C67.out _ HX6.out
        clear hx h2n
        clear irr d67
        go_wp2
        go_ret
        refine ⟨_, rfl, ?_, HX6.out⟩
        have := HO6.out
        simpa [hp, hq] using this
    | false =>
      have h1n := HC1.out x.n wa (HW.out.trans HA.out)
      rw [hp] at h1n
      go_enter Try.func57, Try.ntmps57
      go_wp2_with (refine wpl_loadP (off := 0) (sub := x.enc.toArray) HB.out aggNodeI hsz (enc_in x (.pointer ppl) (.pointer ppr)) rfl _ rfl rfl ?_)
      rw [fold_fill x.enc _ (by rw [henc]; rfl), ← hwa]
      refine h1n.mono ?_
      rintro e w1 ⟨rfl, hx⟩
      have HX1 := Lib.hid (HA.out.trans hx)
      have OS1 := Lib.hid (OS.out.ext hx)
      have d66 := C66.out _ HX1.out
      have d64 := C64.out _ HX1.out
      clear hx h1n hw64
      have HX5 := HX1
      have HO5 := OS1
      clear ill d66
      cases hq : q x.n with
      | true =>
        have h2n := HC2.out x.n w1 (HW.out.trans HX5.out)
        rw [hq] at h2n
        go_wp2_with fail
        refine h2n.mono ?_
        rintro e w6 ⟨rfl, hx⟩
        have HX6 := Lib.hid (HX5.out.trans hx)
        have HO6 := Lib.hid (HO5.out.ext hx)
        have d67 := C67.out _ HX6.out
        clear hx h2n
        go_wp2_with fail
        refine (irr _ (HW.out.trans HX6.out) (HTR.out.ext HX6.out)).mono ?_
        rintro e w7 ⟨vr, rfl, ho, hx⟩
        have HX7 := Lib.hid (HX6.out.trans hx)
        have HO7 := Lib.hid (HO6.out.ext hx)
        have ORr := Lib.hid ho.rd
        obtain ⟨Ar, cr, rfl⟩ := ho.shape
        clear hx ho irr d67
        go_wp2_with (at_builtin; refine wpl_append rowNd rfl _ _ rfl (v := .slice (some ⟨w.heap.size, 0, none⟩) 1 1) rfl HO7.out _ _ rfl (ys := r.sel p q) rfl (rd_nd ORr.out) (ok_nd ORr.out) (by have := HSL.out; have := HSR.out; simp only [List.length_append, List.length_singleton]; omega) HX7.out.size ?_; intro v8 w8 ho1 hg1 hat1; have HX8 := Lib.hid (HO7.out.ext_app HX7.out hg1); have HO8 := Lib.hid ho1; clear ho1 hg1 hat1)
        go_ret
        refine ⟨_, rfl, ?_, HX8.out⟩
        have := HO8.out
        simpa [hp, hq] using this
      | false =>
        have h2n := HC2.out x.n w1 (HW.out.trans HX5.out)
        rw [hq] at h2n
        go_wp2_with fail
        refine h2n.mono ?_
        rintro e w6 ⟨rfl, hx⟩
        have HX6 := Lib.hid (HX5.out.trans hx)
        have HO6 := Lib.hid (HO5.out.ext hx)
        have d67 := C67.out _ HX6.out
        clear hx h2n
        clear irr d67
        go_wp2
        go_ret
        refine ⟨_, rfl, ?_, HX6.out⟩
        have := HO6.out
        simpa [hp, hq] using this
set_option maxHeartbeats 1000000 in
set_option maxRecDepth 100000 in
theorem treeNodesP (p q : ByteArray → Bool) (c1 c2 : Option Addr) (w0 : World) (h1 : ∀ (s : ByteArray) W, Ext w0 W → Calls Try.prog 87 #[.string s, .pointer c1] W fun e w' => e = .returned (.bool (p s)) ∧ Ext W w') (h2 : ∀ (s : ByteArray) W, Ext w0 W → Calls Try.prog 88 #[.string s, .pointer c2] W fun e w' => e = .returned (.bool (q s)) ∧ Ext W w') (T : Tr) (hok : T.ok) (h64 : T.all.length ≤ 1000) (v : Value) (w : World) (hw : Ext w0 w) (h : TrAt w v T) :
    Calls Try.prog 57 #[v, .func (.func 87) #[] #[.pointer c1], .func (.func 88) #[] #[.pointer c2]] w fun e w' => ∃ v', e = .returned v' ∧ Own tNd 60 w' w.heap.size v' (T.sel p q) ∧ Ext w w' := by
  induction T generalizing v w with
  | leaf =>
    obtain rfl := h
    go_enter Try.func57, Try.ntmps57
    go_wp2
    go_ret
    exact ⟨_, rfl, Own.nil _ _ _ _, Ext.refl _⟩
  | node x l r il ir =>
    obtain ⟨g, pl, pr, rfl, hb, htl, htr⟩ := h
    obtain ⟨hx0, he, _, _, hl5, hr6⟩ := hok
    have hal : l.all.length ≤ 1000 ∧ r.all.length ≤ 1000 := by simp only [Tr.all, List.length_cons, List.length_append] at h64; omega
    have ill := fun W hW hT => il hl5 hal.1 pl W hW hT
    have irr := fun W hW hT => ir hr6 hal.2 pr W hW hT
    have hsl : (l.sel p q).length ≤ 1000 := Nat.le_trans (Tr.sel_le p q l) hal.1
    have hsr : (r.sel p q).length ≤ 1000 := Nat.le_trans (Tr.sel_le p q r) hal.2
    obtain ⟨ppl, rfl⟩ := htl.ptr
    obtain ⟨ppr, rfl⟩ := htr.ptr
    have HB := Lib.hid hb
    have HX0 := Lib.hid hx0
    have HTL := Lib.hid htl
    have HTR := Lib.hid htr
    have HW := Lib.hid hw
    have hsz := (Nd.st hx0).size
    have henc := Nd.enc_length hx0
    have HSL := Lib.hid hsl
    have HSR := Lib.hid hsr
    have HC1 := Lib.hid h1
    have HC2 := Lib.hid h2
    show Calls Try.prog 57 #[.pointer (some ⟨g, 0, none⟩), .func (.func 87) #[] #[.pointer c1], .func (.func 88) #[] #[.pointer c2]] w fun e w' => ∃ v', e = .returned v' ∧ Own tNd 60 w' w.heap.size v' (x :: ((if p x.n then l.sel p q else []) ++ (if q x.n then r.sel p q else []))) ∧ Ext w w'
    clear hb hx0 he htl htr hw il ir hl5 hr6 hal hsl hsr h64 h1 h2
    obtain ⟨wa, hwa⟩ : ∃ wa, wa = w.alloc (.cells x.enc.toArray 60) := ⟨_, rfl⟩
    have HA := Lib.hid (show Ext w wa by rw [hwa]; exact ext_alloc _ _)
    have OS := Lib.hid (show Own tNd 60 wa w.heap.size (.slice (some ⟨w.heap.size, 0, none⟩) 1 1) [x] by
      have := Own.of_blk tNd (w := w.alloc (.cells x.enc.toArray 60)) (base := w.heap.size) (xs := [x]) (by rw [show [x].flatMap tNd.enc = x.enc from by rw [List.flatMap_cons, List.flatMap_nil, List.append_nil]; rfl]; exact Blk.new w 60 x.enc.toArray) (Nat.le_refl _) (by simp) (by intro y hy; obtain rfl := List.mem_singleton.1 hy; exact HX0.out)
      rw [← hwa] at this
      exact this)
    have c64 := fun W hW => (TrAt.cells HX0.out (HB.out.ext (show Ext w W from hW))).1
    have c66 := fun W hW => (TrAt.cells HX0.out (HB.out.ext (show Ext w W from hW))).2.1
    have c67 := fun W hW => (TrAt.cells HX0.out (HB.out.ext (show Ext w W from hW))).2.2
    have C64 := Lib.hid c64
    have C66 := Lib.hid c66
    have C67 := Lib.hid c67
    clear c64 c66 c67
    have hw64 : ∀ o, (w.alloc o).cell? ⟨g, 64, none⟩ = some (.string x.n) := fun o => C64.out _ (ext_alloc w o)
    cases hp : p x.n with
    | true =>
      have h1n := HC1.out x.n wa (HW.out.trans HA.out)
      rw [hp] at h1n
      go_enter Try.func57, Try.ntmps57
      go_wp2_with (refine wpl_loadP (off := 0) (sub := x.enc.toArray) HB.out aggNodeI hsz (enc_in x (.pointer ppl) (.pointer ppr)) rfl _ rfl rfl ?_)
      rw [fold_fill x.enc _ (by rw [henc]; rfl), ← hwa]
      refine h1n.mono ?_
      rintro e w1 ⟨rfl, hx⟩
      have HX1 := Lib.hid (HA.out.trans hx)
      have OS1 := Lib.hid (OS.out.ext hx)
      have d66 := C66.out _ HX1.out
      have d64 := C64.out _ HX1.out
      clear hx h1n hw64
      go_wp2_with fail
      refine (ill _ (HW.out.trans HX1.out) (HTL.out.ext HX1.out)).mono ?_
      rintro e w2 ⟨vl, rfl, ho, hx⟩
      have HX2 := Lib.hid (HX1.out.trans hx)
      have OS2 := Lib.hid (OS1.out.ext hx)
      have ORl := Lib.hid ho.rd
      have d64b := C64.out _ HX2.out
      obtain ⟨Al, cl, rfl⟩ := ho.shape
      clear hx ho ill d64 d66
      go_wp2_with (at_builtin; refine wpl_append rowNd rfl _ _ rfl (v := .slice (some ⟨w.heap.size, 0, none⟩) 1 1) rfl OS2.out _ _ rfl (ys := l.sel p q) rfl (rd_nd ORl.out) (ok_nd ORl.out) (by have := HSL.out; simp only [List.length_singleton]; omega) HX2.out.size ?_; intro v5 w5 ho1 hg1 hat1; have HX5 := Lib.hid (OS2.out.ext_app HX2.out hg1); obtain ⟨B5, n5, c5, rfl⟩ := ho1.shape3; have HO5 := Lib.hid ho1; have d64c := C64.out _ HX5.out; clear ho1 hg1 hat1)
      cases hq : q x.n with
      | true =>
        have h2n := HC2.out x.n w5 (HW.out.trans HX5.out)
        rw [hq] at h2n
        go_wp2_with fail
        refine h2n.mono ?_
        rintro e w6 ⟨rfl, hx⟩
        have HX6 := Lib.hid (HX5.out.trans hx)
        have HO6 := Lib.hid (HO5.out.ext hx)
        have d67 := C67.out _ HX6.out
        clear hx h2n
        go_wp2_with fail
        refine (irr _ (HW.out.trans HX6.out) (HTR.out.ext HX6.out)).mono ?_
        rintro e w7 ⟨vr, rfl, ho, hx⟩
        have HX7 := Lib.hid (HX6.out.trans hx)
        have HO7 := Lib.hid (HO6.out.ext hx)
        have ORr := Lib.hid ho.rd
        obtain ⟨Ar, cr, rfl⟩ := ho.shape
        clear hx ho irr d67
        go_wp2_with (at_builtin; refine wpl_append rowNd rfl _ _ rfl (v := .slice B5 n5 c5) rfl HO7.out _ _ rfl (ys := r.sel p q) rfl (rd_nd ORr.out) (ok_nd ORr.out) (by have := HSL.out; have := HSR.out; simp only [List.length_append, List.length_singleton]; omega) HX7.out.size ?_; intro v8 w8 ho1 hg1 hat1; have HX8 := Lib.hid (HO7.out.ext_app HX7.out hg1); have HO8 := Lib.hid ho1; clear ho1 hg1 hat1)
        go_ret
        refine ⟨_, rfl, ?_, HX8.out⟩
        have := HO8.out
        simpa [hp, hq] using this
      | false =>
        have h2n := HC2.out x.n w5 (HW.out.trans HX5.out)
        rw [hq] at h2n
        go_wp2_with fail
        refine h2n.mono ?_
        rintro e w6 ⟨rfl, hx⟩
        have HX6 := Lib.hid (HX5.out.trans hx)
        have HO6 := Lib.hid (HO5.out.ext hx)
        have d67 := C67.out _ HX6.out
        clear hx h2n
        clear irr d67
        go_wp2
        go_ret
        refine ⟨_, rfl, ?_, HX6.out⟩
        have := HO6.out
        simpa [hp, hq] using this
    | false =>
      have h1n := HC1.out x.n wa (HW.out.trans HA.out)
      rw [hp] at h1n
      go_enter Try.func57, Try.ntmps57
      go_wp2_with (refine wpl_loadP (off := 0) (sub := x.enc.toArray) HB.out aggNodeI hsz (enc_in x (.pointer ppl) (.pointer ppr)) rfl _ rfl rfl ?_)
      rw [fold_fill x.enc _ (by rw [henc]; rfl), ← hwa]
      refine h1n.mono ?_
      rintro e w1 ⟨rfl, hx⟩
      have HX1 := Lib.hid (HA.out.trans hx)
      have OS1 := Lib.hid (OS.out.ext hx)
      have d66 := C66.out _ HX1.out
      have d64 := C64.out _ HX1.out
      clear hx h1n hw64
      have HX5 := HX1
      have HO5 := OS1
      clear ill d66
      cases hq : q x.n with
      | true =>
        have h2n := HC2.out x.n w1 (HW.out.trans HX5.out)
        rw [hq] at h2n
        go_wp2_with fail
        refine h2n.mono ?_
        rintro e w6 ⟨rfl, hx⟩
        have HX6 := Lib.hid (HX5.out.trans hx)
        have HO6 := Lib.hid (HO5.out.ext hx)
        have d67 := C67.out _ HX6.out
        clear hx h2n
        go_wp2_with fail
        refine (irr _ (HW.out.trans HX6.out) (HTR.out.ext HX6.out)).mono ?_
        rintro e w7 ⟨vr, rfl, ho, hx⟩
        have HX7 := Lib.hid (HX6.out.trans hx)
        have HO7 := Lib.hid (HO6.out.ext hx)
        have ORr := Lib.hid ho.rd
        obtain ⟨Ar, cr, rfl⟩ := ho.shape
        clear hx ho irr d67
        go_wp2_with (at_builtin; refine wpl_append rowNd rfl _ _ rfl (v := .slice (some ⟨w.heap.size, 0, none⟩) 1 1) rfl HO7.out _ _ rfl (ys := r.sel p q) rfl (rd_nd ORr.out) (ok_nd ORr.out) (by have := HSL.out; have := HSR.out; simp only [List.length_append, List.length_singleton]; omega) HX7.out.size ?_; intro v8 w8 ho1 hg1 hat1; have HX8 := Lib.hid (HO7.out.ext_app HX7.out hg1); have HO8 := Lib.hid ho1; clear ho1 hg1 hat1)
        go_ret
        refine ⟨_, rfl, ?_, HX8.out⟩
        have := HO8.out
        simpa [hp, hq] using this
      | false =>
        have h2n := HC2.out x.n w1 (HW.out.trans HX5.out)
        rw [hq] at h2n
        go_wp2_with fail
        refine h2n.mono ?_
        rintro e w6 ⟨rfl, hx⟩
        have HX6 := Lib.hid (HX5.out.trans hx)
        have HO6 := Lib.hid (HO5.out.ext hx)
        have d67 := C67.out _ HX6.out
        clear hx h2n
        clear irr d67
        go_wp2
        go_ret
        refine ⟨_, rfl, ?_, HX6.out⟩
        have := HO6.out
        simpa [hp, hq] using this
set_option maxHeartbeats 1000000 in
set_option maxRecDepth 100000 in
theorem treeNodesR (p q : ByteArray → Bool) (c1 c2 : Option Addr) (w0 : World) (h1 : ∀ (s : ByteArray) W, Ext w0 W → Calls Try.prog 58 #[.string s, .pointer c1] W fun e w' => e = .returned (.bool (p s)) ∧ Ext W w') (h2 : ∀ (s : ByteArray) W, Ext w0 W → Calls Try.prog 59 #[.string s, .pointer c2] W fun e w' => e = .returned (.bool (q s)) ∧ Ext W w') (T : Tr) (hok : T.ok) (h64 : T.all.length ≤ 1000) (v : Value) (w : World) (hw : Ext w0 w) (h : TrAt w v T) :
    Calls Try.prog 57 #[v, .func (.func 58) #[] #[.pointer c1], .func (.func 59) #[] #[.pointer c2]] w fun e w' => ∃ v', e = .returned v' ∧ Own tNd 60 w' w.heap.size v' (T.sel p q) ∧ Ext w w' := by
  induction T generalizing v w with
  | leaf =>
    obtain rfl := h
    go_enter Try.func57, Try.ntmps57
    go_wp2
    go_ret
    exact ⟨_, rfl, Own.nil _ _ _ _, Ext.refl _⟩
  | node x l r il ir =>
    obtain ⟨g, pl, pr, rfl, hb, htl, htr⟩ := h
    obtain ⟨hx0, he, _, _, hl5, hr6⟩ := hok
    have hal : l.all.length ≤ 1000 ∧ r.all.length ≤ 1000 := by simp only [Tr.all, List.length_cons, List.length_append] at h64; omega
    have ill := fun W hW hT => il hl5 hal.1 pl W hW hT
    have irr := fun W hW hT => ir hr6 hal.2 pr W hW hT
    have hsl : (l.sel p q).length ≤ 1000 := Nat.le_trans (Tr.sel_le p q l) hal.1
    have hsr : (r.sel p q).length ≤ 1000 := Nat.le_trans (Tr.sel_le p q r) hal.2
    obtain ⟨ppl, rfl⟩ := htl.ptr
    obtain ⟨ppr, rfl⟩ := htr.ptr
    have HB := Lib.hid hb
    have HX0 := Lib.hid hx0
    have HTL := Lib.hid htl
    have HTR := Lib.hid htr
    have HW := Lib.hid hw
    have hsz := (Nd.st hx0).size
    have henc := Nd.enc_length hx0
    have HSL := Lib.hid hsl
    have HSR := Lib.hid hsr
    have HC1 := Lib.hid h1
    have HC2 := Lib.hid h2
    show Calls Try.prog 57 #[.pointer (some ⟨g, 0, none⟩), .func (.func 58) #[] #[.pointer c1], .func (.func 59) #[] #[.pointer c2]] w fun e w' => ∃ v', e = .returned v' ∧ Own tNd 60 w' w.heap.size v' (x :: ((if p x.n then l.sel p q else []) ++ (if q x.n then r.sel p q else []))) ∧ Ext w w'
    clear hb hx0 he htl htr hw il ir hl5 hr6 hal hsl hsr h64 h1 h2
    obtain ⟨wa, hwa⟩ : ∃ wa, wa = w.alloc (.cells x.enc.toArray 60) := ⟨_, rfl⟩
    have HA := Lib.hid (show Ext w wa by rw [hwa]; exact ext_alloc _ _)
    have OS := Lib.hid (show Own tNd 60 wa w.heap.size (.slice (some ⟨w.heap.size, 0, none⟩) 1 1) [x] by
      have := Own.of_blk tNd (w := w.alloc (.cells x.enc.toArray 60)) (base := w.heap.size) (xs := [x]) (by rw [show [x].flatMap tNd.enc = x.enc from by rw [List.flatMap_cons, List.flatMap_nil, List.append_nil]; rfl]; exact Blk.new w 60 x.enc.toArray) (Nat.le_refl _) (by simp) (by intro y hy; obtain rfl := List.mem_singleton.1 hy; exact HX0.out)
      rw [← hwa] at this
      exact this)
    have c64 := fun W hW => (TrAt.cells HX0.out (HB.out.ext (show Ext w W from hW))).1
    have c66 := fun W hW => (TrAt.cells HX0.out (HB.out.ext (show Ext w W from hW))).2.1
    have c67 := fun W hW => (TrAt.cells HX0.out (HB.out.ext (show Ext w W from hW))).2.2
    have C64 := Lib.hid c64
    have C66 := Lib.hid c66
    have C67 := Lib.hid c67
    clear c64 c66 c67
    have hw64 : ∀ o, (w.alloc o).cell? ⟨g, 64, none⟩ = some (.string x.n) := fun o => C64.out _ (ext_alloc w o)
    cases hp : p x.n with
    | true =>
      have h1n := HC1.out x.n wa (HW.out.trans HA.out)
      rw [hp] at h1n
      go_enter Try.func57, Try.ntmps57
      go_wp2_with (refine wpl_loadP (off := 0) (sub := x.enc.toArray) HB.out aggNodeI hsz (enc_in x (.pointer ppl) (.pointer ppr)) rfl _ rfl rfl ?_)
      rw [fold_fill x.enc _ (by rw [henc]; rfl), ← hwa]
      refine h1n.mono ?_
      rintro e w1 ⟨rfl, hx⟩
      have HX1 := Lib.hid (HA.out.trans hx)
      have OS1 := Lib.hid (OS.out.ext hx)
      have d66 := C66.out _ HX1.out
      have d64 := C64.out _ HX1.out
      clear hx h1n hw64
      go_wp2_with fail
      refine (ill _ (HW.out.trans HX1.out) (HTL.out.ext HX1.out)).mono ?_
      rintro e w2 ⟨vl, rfl, ho, hx⟩
      have HX2 := Lib.hid (HX1.out.trans hx)
      have OS2 := Lib.hid (OS1.out.ext hx)
      have ORl := Lib.hid ho.rd
      have d64b := C64.out _ HX2.out
      obtain ⟨Al, cl, rfl⟩ := ho.shape
      clear hx ho ill d64 d66
      go_wp2_with (at_builtin; refine wpl_append rowNd rfl _ _ rfl (v := .slice (some ⟨w.heap.size, 0, none⟩) 1 1) rfl OS2.out _ _ rfl (ys := l.sel p q) rfl (rd_nd ORl.out) (ok_nd ORl.out) (by have := HSL.out; simp only [List.length_singleton]; omega) HX2.out.size ?_; intro v5 w5 ho1 hg1 hat1; have HX5 := Lib.hid (OS2.out.ext_app HX2.out hg1); obtain ⟨B5, n5, c5, rfl⟩ := ho1.shape3; have HO5 := Lib.hid ho1; have d64c := C64.out _ HX5.out; clear ho1 hg1 hat1)
      cases hq : q x.n with
      | true =>
        have h2n := HC2.out x.n w5 (HW.out.trans HX5.out)
        rw [hq] at h2n
        go_wp2_with fail
        refine h2n.mono ?_
        rintro e w6 ⟨rfl, hx⟩
        have HX6 := Lib.hid (HX5.out.trans hx)
        have HO6 := Lib.hid (HO5.out.ext hx)
        have d67 := C67.out _ HX6.out
        clear hx h2n
        go_wp2_with fail
        refine (irr _ (HW.out.trans HX6.out) (HTR.out.ext HX6.out)).mono ?_
        rintro e w7 ⟨vr, rfl, ho, hx⟩
        have HX7 := Lib.hid (HX6.out.trans hx)
        have HO7 := Lib.hid (HO6.out.ext hx)
        have ORr := Lib.hid ho.rd
        obtain ⟨Ar, cr, rfl⟩ := ho.shape
        clear hx ho irr d67
        go_wp2_with (at_builtin; refine wpl_append rowNd rfl _ _ rfl (v := .slice B5 n5 c5) rfl HO7.out _ _ rfl (ys := r.sel p q) rfl (rd_nd ORr.out) (ok_nd ORr.out) (by have := HSL.out; have := HSR.out; simp only [List.length_append, List.length_singleton]; omega) HX7.out.size ?_; intro v8 w8 ho1 hg1 hat1; have HX8 := Lib.hid (HO7.out.ext_app HX7.out hg1); have HO8 := Lib.hid ho1; clear ho1 hg1 hat1)
        go_ret
        refine ⟨_, rfl, ?_, HX8.out⟩
        have := HO8.out
        simpa [hp, hq] using this
      | false =>
        have h2n := HC2.out x.n w5 (HW.out.trans HX5.out)
        rw [hq] at h2n
        go_wp2_with fail
        refine h2n.mono ?_
        rintro e w6 ⟨rfl, hx⟩
        have HX6 := Lib.hid (HX5.out.trans hx)
        have HO6 := Lib.hid (HO5.out.ext hx)
        have d67 := C67.out _ HX6.out
        clear hx h2n
        clear irr d67
        go_wp2
        go_ret
        refine ⟨_, rfl, ?_, HX6.out⟩
        have := HO6.out
        simpa [hp, hq] using this
    | false =>
      have h1n := HC1.out x.n wa (HW.out.trans HA.out)
      rw [hp] at h1n
      go_enter Try.func57, Try.ntmps57
      go_wp2_with (refine wpl_loadP (off := 0) (sub := x.enc.toArray) HB.out aggNodeI hsz (enc_in x (.pointer ppl) (.pointer ppr)) rfl _ rfl rfl ?_)
      rw [fold_fill x.enc _ (by rw [henc]; rfl), ← hwa]
      refine h1n.mono ?_
      rintro e w1 ⟨rfl, hx⟩
      have HX1 := Lib.hid (HA.out.trans hx)
      have OS1 := Lib.hid (OS.out.ext hx)
      have d66 := C66.out _ HX1.out
      have d64 := C64.out _ HX1.out
      clear hx h1n hw64
      have HX5 := HX1
      have HO5 := OS1
      clear ill d66
      cases hq : q x.n with
      | true =>
        have h2n := HC2.out x.n w1 (HW.out.trans HX5.out)
        rw [hq] at h2n
        go_wp2_with fail
        refine h2n.mono ?_
        rintro e w6 ⟨rfl, hx⟩
        have HX6 := Lib.hid (HX5.out.trans hx)
        have HO6 := Lib.hid (HO5.out.ext hx)
        have d67 := C67.out _ HX6.out
        clear hx h2n
        go_wp2_with fail
        refine (irr _ (HW.out.trans HX6.out) (HTR.out.ext HX6.out)).mono ?_
        rintro e w7 ⟨vr, rfl, ho, hx⟩
        have HX7 := Lib.hid (HX6.out.trans hx)
        have HO7 := Lib.hid (HO6.out.ext hx)
        have ORr := Lib.hid ho.rd
        obtain ⟨Ar, cr, rfl⟩ := ho.shape
        clear hx ho irr d67
        go_wp2_with (at_builtin; refine wpl_append rowNd rfl _ _ rfl (v := .slice (some ⟨w.heap.size, 0, none⟩) 1 1) rfl HO7.out _ _ rfl (ys := r.sel p q) rfl (rd_nd ORr.out) (ok_nd ORr.out) (by have := HSL.out; have := HSR.out; simp only [List.length_append, List.length_singleton]; omega) HX7.out.size ?_; intro v8 w8 ho1 hg1 hat1; have HX8 := Lib.hid (HO7.out.ext_app HX7.out hg1); have HO8 := Lib.hid ho1; clear ho1 hg1 hat1)
        go_ret
        refine ⟨_, rfl, ?_, HX8.out⟩
        have := HO8.out
        simpa [hp, hq] using this
      | false =>
        have h2n := HC2.out x.n w1 (HW.out.trans HX5.out)
        rw [hq] at h2n
        go_wp2_with fail
        refine h2n.mono ?_
        rintro e w6 ⟨rfl, hx⟩
        have HX6 := Lib.hid (HX5.out.trans hx)
        have HO6 := Lib.hid (HO5.out.ext hx)
        have d67 := C67.out _ HX6.out
        clear hx h2n
        clear irr d67
        go_wp2
        go_ret
        refine ⟨_, rfl, ?_, HX6.out⟩
        have := HO6.out
        simpa [hp, hq] using this
set_option maxHeartbeats 1000000 in
set_option maxRecDepth 100000 in
theorem allFn_any (s : ByteArray) (w : World) : Calls Try.prog 92 #[.string s] w fun e w' => e = .returned (.bool true) ∧ Ext w w' := by
  go_enter Try.func92, Try.ntmps92
  go_wp2
  go_ret
  exact ⟨rfl, Ext.refl _⟩
set_option maxHeartbeats 1000000 in
set_option maxRecDepth 100000 in
theorem pathFn1_any (s own : ByteArray) (c : Nat) (w : World) (hc : w.cell? ⟨c, 0, none⟩ = some (.string s)) : Calls Try.prog 87 #[.string own, .pointer (some ⟨c, 0, none⟩)] w fun e w' => e = .returned (.bool (ltB s own)) ∧ Ext w w' := by
  have hl := ltB_eq s own
  go_enter Try.func87, Try.ntmps87
  go_wp2
  go_ret
  exact ⟨by rw [← hl]; rfl, Ext.refl _⟩
set_option maxHeartbeats 1000000 in
set_option maxRecDepth 100000 in
theorem pathFn2_any (s own : ByteArray) (c : Nat) (w : World) (hc : w.cell? ⟨c, 0, none⟩ = some (.string s)) : Calls Try.prog 88 #[.string own, .pointer (some ⟨c, 0, none⟩)] w fun e w' => e = .returned (.bool (ltB own s)) ∧ Ext w w' := by
  go_enter Try.func88, Try.ntmps88
  go_wp2
  go_ret
  exact ⟨by rw [← gt_eq]; rfl, Ext.refl _⟩
set_option maxHeartbeats 1000000 in
set_option maxRecDepth 100000 in
theorem rangeFn1_any (s own : ByteArray) (c : Nat) (w : World) (hc : w.cell? ⟨c, 0, none⟩ = some (.string s)) : Calls Try.prog 58 #[.string own, .pointer (some ⟨c, 0, none⟩)] w fun e w' => e = .returned (.bool (ltB s own)) ∧ Ext w w' := by
  go_enter Try.func58, Try.ntmps58
  go_wp2
  go_ret
  exact ⟨by rw [← gt_eq]; rfl, Ext.refl _⟩
set_option maxHeartbeats 1000000 in
set_option maxRecDepth 100000 in
theorem rangeFn2_any (s own : ByteArray) (c : Nat) (w : World) (hc : w.cell? ⟨c, 0, none⟩ = some (.string s)) : Calls Try.prog 59 #[.string own, .pointer (some ⟨c, 0, none⟩)] w fun e w' => e = .returned (.bool (ltB own s)) ∧ Ext w w' := by
  have hl := ltB_eq own s
  go_enter Try.func59, Try.ntmps59
  go_wp2
  go_ret
  exact ⟨by rw [← hl]; rfl, Ext.refl _⟩
set_option maxHeartbeats 1000000 in
set_option maxRecDepth 100000 in
theorem allNodes_any (v : Value) (L : List En) (h64 : L.length ≤ 64) (hg : good L) (w : World) (S : Nat → Prop) (h : RdL tEnt w S v L) :
    Calls Try.prog 52 #[v] w fun e w' => ∃ v', e = .returned v' ∧ Own tNd 60 w' w.heap.size v' (trF L.length L).all ∧ Ext w w' := by
  have ht := treeOf_any v L h64 hg w S h
  have hok := trF_ok L.length L hg
  have hl := trF_len L.length L
  obtain ⟨A, cap, rfl, _⟩ := h
  obtain ⟨T, hT⟩ : ∃ T, trF L.length L = T := ⟨_, rfl⟩
  rw [hT] at ht hok hl ⊢
  have hn := fun v W hv => treeNodesA (fun _ => true) (fun _ => true) W (fun s W' _ => allFn_any s W') (fun s W' _ => allFn_any s W') T hok (by omega) v W (Ext.refl _) hv
  rw [Tr.sel_all] at hn
  clear hT hok hl
  go_enter Try.func52, Try.ntmps52
  go_wp2_with fail
  refine ht.mono ?_
  rintro e w1 ⟨v1, rfl, htr, hx⟩
  have HX := Lib.hid hx
  have HT := Lib.hid htr
  obtain ⟨p, rfl⟩ := htr.ptr
  clear hx htr ht
  go_wp2_with fail
  refine (hn _ _ HT.out).mono ?_
  rintro e w2 ⟨v2, rfl, ho, hx⟩
  have HO := Lib.hid (ho.le (base' := w.heap.size) HX.out.size)
  have HX2 := Lib.hid (HX.out.trans hx)
  obtain ⟨A2, n2, c2, rfl⟩ := ho.shape3
  clear ho hx hn
  go_wp2
  go_ret
  exact ⟨_, rfl, HO.out, HX2.out⟩
set_option maxHeartbeats 1000000 in
set_option maxRecDepth 100000 in
theorem path_any (v : Value) (L : List En) (s : ByteArray) (h64 : L.length ≤ 64) (hg : good L) (w : World) (S : Nat → Prop) (h : RdL tEnt w S v L) :
    Calls Try.prog 48 #[v, .string s] w fun e w' => ∃ v', e = .returned v' ∧ Own tNd 60 w' w.heap.size v' ((trF L.length L).sel (fun o => ltB s o) (fun o => ltB o s)) ∧ Ext w w' := by
  have hwx : ∃ wx, wx = w.alloc (.cells #[.string s] 9) := ⟨_, rfl⟩
  obtain ⟨wx, hwx⟩ := hwx
  have HB := Lib.hid (show ∀ W, Ext wx W → W.cell? ⟨w.heap.size, 0, none⟩ = some (.string s) from fun W hW => by
    subst hwx
    exact hW.cell (by rw [(Blk.new w _ _).cell]; rfl))
  have HXX := Lib.hid (show Ext w wx by subst hwx; exact ext_alloc _ _)
  have ht := treeOf_any v L h64 hg wx S (h.ext (by decide) HXX.out)
  have hok := trF_ok L.length L hg
  have hl := trF_len L.length L
  obtain ⟨A, cap, rfl, _⟩ := h
  obtain ⟨T, hT⟩ : ∃ T, trF L.length L = T := ⟨_, rfl⟩
  rw [hT] at ht hok hl ⊢
  have hn := fun v W hW hv => treeNodesP (fun o => ltB s o) (fun o => ltB o s) (some ⟨w.heap.size, 0, none⟩) (some ⟨w.heap.size, 0, none⟩) wx (fun o W' hW' => pathFn1_any s o _ W' (HB.out W' hW')) (fun o W' hW' => pathFn2_any s o _ W' (HB.out W' hW')) T hok (by omega) v W hW hv
  clear hT hok hl
  go_enter Try.func48, Try.ntmps48
  go_wp2_with fail
  rw [← hwx]
  refine ht.mono ?_
  rintro e w1 ⟨v1, rfl, htr, hx⟩
  have HX := Lib.hid hx
  have HT := Lib.hid htr
  obtain ⟨p, rfl⟩ := htr.ptr
  clear hx htr ht hwx
  go_wp2_with fail
  refine (hn _ _ HX.out HT.out).mono ?_
  rintro e w2 ⟨v2, rfl, ho, hx⟩
  have HO := Lib.hid (ho.le (base' := w.heap.size) (HXX.out.trans HX.out).size)
  have HX2 := Lib.hid ((HXX.out.trans HX.out).trans hx)
  obtain ⟨A2, n2, c2, rfl⟩ := ho.shape3
  clear ho hx hn
  go_wp2
  go_ret
  exact ⟨_, rfl, HO.out, HX2.out⟩
end Go.Proofs.Ytikpakhccmdmcaa
