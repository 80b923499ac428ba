/- What the walk of the law FnExactFindCommit needs, part 5 of 5. No condition. -/
import Derived.Test.YtnklgkmpcochfaaPFnExactFindCommit4
/- The program's ledger of a book. No condition. -/
namespace Go.Proofs.Ytnklgkmpcochfaa
open Go.RowKit
set_option linter.unusedVariables false
set_option linter.unusedSimpArgs false

theorem stB_parts (x : Bk) (n : Nat) (h1 : n < x.1.length) (h2 : n < x.2.length) (c : Cm) (m : Ens) (ks : List (List Int)) (hc : x.1[n] = c) (hm : x.2[n] = m) (hk : ksL (x.1.take n) = ks) : stB x n = (okCm c && okE m && decide ((trF m.length m).key = c.root) && knB ks c.par c.par.length && decide (c.num = nmL x.1 ks c.par c.par.length) && !ks.contains (ckL c)) := by
  rw [stB_eq x n h1 h2, hc, hm, hk]
def zCmL : List Value := List.replicate 32 (Value.int .u8 0) ++ [.slice none 0 0, .int .i64 0, .string ⟨#[]⟩]
theorem built_lg (v1 v2 : Value) : Try.prog.built 140 [(0, .agg #[v1, v2])] = some #[v1, v2, .slice none 0 0] := by kernel_rfl
set_option maxHeartbeats 8000000 in
set_option maxRecDepth 100000 in
theorem newLedger_any (v1 v2 : Value) (x : Bk) (w : World) (S S2 : Nat → Prop) (hr : RdN nrCommit w S v1 x.1) (hr2 : RdN nrEnts w S2 v2 x.2) :
    Calls Try.prog 54 #[.agg #[v1, v2]] w fun q w' => ((okBk x = false ∧ q = .returned (.tuple #[.pointer none, .bool false])) ∨ (okBk x = true ∧ ∃ lb vk, q = .returned (.tuple #[.pointer (some ⟨lb, 0, none⟩), .bool true]) ∧ Blk w' lb 140 (lgC v1 v2 vk) ∧ RdL tKey w' (fun _ => True) vk (ksL x.1))) ∧ Ext w w' := by
  obtain ⟨A1, c1, rfl, hc1, hn1⟩ := id hr.shape
  obtain ⟨A2, c2, rfl, hc2, hn2⟩ := id hr2.shape
  have HB := Lib.hid (Blk.new w 51 #[.slice A1 x.1.length c1, .slice A2 x.2.length c2])
  have HE0 := Lib.hid (ext_alloc w (.cells #[.slice A1 x.1.length c1, .slice A2 x.2.length c2] 51))
  have HR := Lib.hid hr
  have HR2 := Lib.hid hr2
  have HOK := Lib.hid (okBk_eq x)
  clear hr hr2
  by_cases h40 : x.1.length ≤ 40
  rotate_left
  · have e : okBk x = false := by rw [HOK.out, decide_eq_false h40]; rfl
    have HEE := Lib.hid e
    have p1 : (40 : Int) < (x.1.length : Int) := by omega
    clear e HOK
    go_enter Try.func54, Try.ntmps54
    go_wp2
    go_ret2
    exact ⟨.inl ⟨HEE.out, rfl⟩, HE0.out⟩
  have p1 : decide ((40 : Int) < (x.1.length : Int)) = false := decide_eq_false (by omega)
  by_cases hle : x.2.length = x.1.length
  rotate_left
  · have e : okBk x = false := by rw [HOK.out, decide_eq_false hle]; simp
    have HEE := Lib.hid e
    have p2 : ((x.2.length : Int) != (x.1.length : Int)) = true := by rw [bne_iff_ne]; omega
    clear e HOK hle
    go_enter Try.func54, Try.ntmps54
    go_wp2
    go_ret2
    exact ⟨.inl ⟨HEE.out, rfl⟩, HE0.out⟩
  have hOK : okBk x = stN x x.1.length := by rw [HOK.out, decide_eq_true h40, decide_eq_true hle]; rfl
  replace HOK := Lib.hid hOK
  have HBAD := Lib.hid (fun n h1 h2 => okBk_bad (x := x) n h1 h2)
  have HSTB := Lib.hid (fun n (h1 : n < x.1.length) (h2 : n < x.2.length) c m ks a b d => stB_parts x n h1 h2 c m ks a b d)
  have HSTN := Lib.hid (fun n => stN_succ x n)
  have HNUM := Lib.hid (fun n h hl => stB_num (x := x) (n := n) h hl hle)
  obtain ⟨n, hnn⟩ : ∃ n, x.1.length = n := ⟨_, rfl⟩
  have HN := Lib.hid hnn
  have HM := Lib.hid (show x.2.length = n by rw [hle, hnn])
  have HBn := Lib.hid (show Blk _ w.heap.size 51 #[.slice A1 n c1, .slice A2 n c2] by have := HB.out; rw [HN.out, HM.out] at this; exact this)
  have HE1 := Lib.hid (show Ext w _ by have := HE0.out; rw [HN.out, HM.out] at this; exact this)
  have HRn := Lib.hid (show RdN nrCommit w S (.slice A1 n c1) x.1 by have := HR.out; rwa [HN.out] at this)
  have HR2n := Lib.hid (show RdN nrEnts w S2 (.slice A2 n c2) x.2 by have := HR2.out; rwa [HM.out] at this)
  have hm2 : x.2.length = n := HM.out
  rw [hnn] at h40 p1 hc1 hOK ⊢
  rw [hm2] at hc2 ⊢
  have p3 : ((n : Int) != (n : Int)) = false := by simp
  have hbl := built_lg (.slice A1 n c1) (.slice A2 n c2)
  have HBL := Lib.hid ((HBn.out).alloc (.cells #[.slice A1 n c1, .slice A2 n c2, .slice none 0 0] 140))
  clear hle hOK hnn hn1 hn2 HB HR HR2 HE0 hm2
  go_enter Try.func54, Try.ntmps54
  go_wp2_with (first
    | (refine wpl_loadB HBn.out aggBookI rfl rfl _ rfl rfl ?_)
    | (refine wpl_buildN rfl rfl hbl ?_))
  have BL0 := Lib.hid (Blk.new' (g := w.heap.size + 1) (w := w.alloc (.cells #[.slice A1 n c1, .slice A2 n c2] 51)) (by simp) 140 #[.slice A1 n c1, .slice A2 n c2, .slice none 0 0])
  have HEX := Lib.hid ((HE1.out).alloc (.cells #[.slice A1 n c1, .slice A2 n c2, .slice none 0 0] 140))
  generalize (w.alloc (.cells #[.slice A1 n c1, .slice A2 n c2] 51)).alloc (.cells #[.slice A1 n c1, .slice A2 n c2, .slice none 0 0] 140) = w1 at HBL BL0 HEX ⊢
  clear HBn HE1 hbl
  go_loopw [5, 6, 7, 8, 9, 10, 11, 31] (fun _ _ _ _ _ _ _ i wr => ∃ (k : Nat) (vk : Value), k ≤ n ∧ i = .int .i64 k ∧ Own tKey 53 wr (w.heap.size + 2) vk (ksL (x.1.take k)) ∧ stN x k = true ∧ Blk wr w.heap.size 51 #[.slice A1 n c1, .slice A2 n c2] ∧ Blk wr (w.heap.size + 1) 140 (lgC (.slice A1 n c1) (.slice A2 n c2) vk) ∧ Ext w wr) (fun _ _ _ _ _ _ _ i _ => n - (intOf i).toNat)
  case atStart => exact ⟨0, _, by omega, rfl, by rw [List.take_zero]; exact Own.nil _ _ _ _, stN_zero x, HBL.out, BL0.out, HEX.out⟩
  case round =>
    obtain ⟨k, vk, hk, rfl, ho, hst, hbk, hlg, hx⟩ := hrel
    obtain ⟨Ck, nk, ck, rfl⟩ := ho.shape3
    have HX := Lib.hid hx
    have HO := Lib.hid ho
    have HST := Lib.hid hst
    have hB := Lib.hid hbk
    have hL := Lib.hid hlg
    clear hx ho hst hbk hlg HBL BL0 HEX
    by_cases hlt : k < n
    · have hlt1 : k < x.1.length := by rw [HN.out]; exact hlt
      have hlt2 : k < x.2.length := by rw [HM.out]; exact hlt
      obtain ⟨gc, oc, rfl, _, es, hes, hce, hRc⟩ := RdN.elem (N := nrCommit) (A := A1) (cap := c1) (by have := HRn.out.ext HX.out; rwa [← HN.out] at this) k hlt1
      obtain ⟨gm, om, rfl, _, em, hem, hcm, hRm⟩ := RdN.elem (N := nrEnts) (A := A2) (cap := c2) (by have := HR2n.out.ext HX.out; rwa [← HM.out] at this) k hlt2
      obtain ⟨vm, e2, hRL⟩ := hRm
      have hvm : wr.cell? ⟨gm, om + k, none⟩ = some vm := by
        have := hcm 0 vm (by
          have h9 := congrArg Array.toList e2
          simp only at h9
          rw [h9]; rfl)
        simpa [nrEnts] using this
      obtain ⟨vc, e1, hpar, hroot, hnum, hnote⟩ := id hRc
      obtain ⟨Ap, cp, rfl, hcp, hlp, hrp, hkp⟩ := id hpar
      have hat := Cm.at_ hroot (.slice Ap x.1[k].par.length cp)
      have HRC := Lib.hid (show RCommit wr S es.toArray x.1[k] from hRc)
      have hst35 := hRc
      have hS35 : St 35 es.toArray := (show RCommit wr S es.toArray x.1[k] from hRc).st
      have HCE := Lib.hid (show ∀ j u, es[j]? = some u → wr.cell? ((⟨gc, oc + k * 35, none⟩ : Addr).add j) = some u from fun j u hu => by rw [Addr.add_lit]; exact hce j u hu)
      have hlen35 : es.length = 35 := hes
      have HEP : Hid (es.toArray[32]? = some (.slice Ap x.1[k].par.length cp)) := Lib.hid (by rw [e1]; exact hat.1)
      have HEN : Hid (es.toArray[33]? = some (.int .i64 x.1[k].num)) := Lib.hid (by rw [e1]; exact hat.2.1)
      have HER := Lib.hid (show ∀ j u, (nums .u8 x.1[k].root)[j]? = some u → es.toArray[0 + j]? = some u from fun j u hu => by
        rw [e1]
        exact Cm.root_at (x := x.1[k]) (.slice Ap x.1[k].par.length cp) j u (by simpa [numsA] using hu))
      obtain ⟨ks, hks⟩ : ∃ ks, ksL (x.1.take k) = ks := ⟨_, rfl⟩
      obtain ⟨c, hcx⟩ : ∃ c, x.1[k] = c := ⟨_, rfl⟩
      obtain ⟨m, hmx⟩ : ∃ m, x.2[k] = m := ⟨_, rfl⟩
      have HSB := Lib.hid (HSTB.out k hlt1 hlt2 c m ks hcx hmx hks)
      have HBD := Lib.hid (fun h => HBAD.out k hlt1 h)
      have HMAP := Lib.hid (show RdL tEnt wr S2 vm x.2[k] from hRL)
      have HPAR := Lib.hid hpar
      have HROOT := Lib.hid hroot
      have HNK := Lib.hid (HNUM.out k HST.out (by omega))
      have HKS := Lib.hid (ksL_snoc x.1 k hlt1)
      have HKL := Lib.hid (show (ksL (x.1.take k)).length = k by rw [ksL_length, List.length_take]; omega)
      have hkI : (k : Int) < (n : Int) := by omega
      have hk0 : (0 : Int) ≤ (k : Int) := by omega
      have hvsl : ∃ A n c, vm = .slice A n c := by obtain ⟨A, c, e, _⟩ := HMAP.out; exact ⟨A, _, c, e⟩
      obtain ⟨Av, nv, cv, rfl⟩ := hvsl
      rw [hks] at HO HNK HKS HKL
      rw [hcx] at HRC HEP HEN HER HPAR HROOT HKS
      rw [hmx] at HMAP
      have HVM := Lib.hid hvm
      have HKO := Lib.hid (ckL_ok c)
      have HCK := Lib.hid (ckL_eq c)
      have hzC : (Try.prog.info? 124).map (·.zero) = some (some (.agg zCmL.toArray)) := by kernel_rfl
      have hzs : zCmL.toArray.size = 35 := rfl
      generalize zCmL.toArray = ZC at hzC hzs
      have BC0 := Lib.hid (Blk.new wr 124 es.toArray)
      have hE := ext_alloc wr (.cells es.toArray 124)
      have HY0 := Lib.hid hE
      have hsz35 := hS35.size
      clear hce hRc hcm e2 hRL hvm e1 hpar hroot hnum hnote hes hem hrp hkp hat hks hcx hmx hlp hcp hst35 hE
      go_wp2_with (first
        | (refine wpl_load ⟨gc, oc + k * 35, none⟩ es (by rw [hlen35]; exact aggCommitI) rfl _ rfl rfl HCE.out ?_)
        | (refine wpl_alloc ZC hzC rfl rfl ?_)
        | (refine wpl_storeNewB aggCommitI hS35 hzs rfl _ _ rfl rfl rfl rfl ?_))
      obtain ⟨gC, hgC⟩ : ∃ gC, wr.heap.size = gC := ⟨_, rfl⟩
      rw [hgC] at BC0 ⊢
      have hgCl : gC < (wr.alloc (.cells es.toArray 124)).heap.size := by rw [size_alloc]; omega
      generalize wr.alloc (.cells es.toArray 124) = w3 at BC0 HY0 hgCl ⊢
      clear hgC hzC hzs
      have hB3 := Lib.hid (hB.out.ext HY0.out)
      have HVL := Lib.hid (fun W hW => validCommit_any es.toArray c W S (HRC.out.ext hW))
      have HVE := Lib.hid (fun W hW => validEntries_any (.slice Av nv cv) m W S2 (HMAP.out.ext (by decide) hW))
      have HVM3 := Lib.hid (fun W (h : Ext w3 W) => (HY0.out.trans h).cell HVM.out)
      cases hok : okCm c with
      | false =>
        have hs := HBD.out (by rw [HSB.out, hok]; rfl)
        have HS := Lib.hid hs
        rw [hok] at HVL
        clear hs hok
        go_wp2_with fail
        refine wp_region_held_drew (S := fun W => Ext w3 W) (by kernel_rfl) (Ext.refl _).drew (fun hHeld => ?_)
        refine tkI 0 (v := (.agg es.toArray)) (by simp only [List.getElem?_toArray, List.getElem?_cons_zero, List.getElem?_cons_succ]; rfl) (by kernel_rfl) (by exact fun _ _ _ h => h) (by refine yields_loadBSP (fun W hW => BC0.out.ext hW) aggCommitI hsz35 ?_ _ rfl rfl; rfl) (by assumption) ?_
        try simp only [Act.put, List.setIfInBounds_toArray, List.set_cons_zero, List.set_cons_succ]
        refine wpAnyH_ready (rs := [1]) (by kernel_rfl) (by simp) (AllReadyH.cons (o := ?oy21) ?hy21 (fun K hK => ?sy21) AllReadyH.nil)
        case hy21 => simp only [List.getElem?_toArray, List.getElem?_cons_zero, List.getElem?_cons_succ]; rfl
        go_simp
        refine (HVL.out _ (HY0.out.trans hHeld)).mono ?_
        rintro e w4 ⟨rfl, hx⟩
        have hH2 := hHeld.trans hx
        refine hK.out _ _ hH2 (fun _ => ?_)
        clear hHeld hK K
        have hHeld := hH2
        clear hH2
        try simp only [Act.put, List.setIfInBounds_toArray, List.set_cons_zero, List.set_cons_succ]
        iterate 2
          refine tkD 0 (by simp only [List.size_toArray, List.length_cons, List.length_nil]; rfl) (by simp only [List.getElem?_toArray, List.getElem?_cons_zero, List.getElem?_cons_succ]; rfl) (by kernel_rfl) (by exact fun _ _ _ h => h) (by first | (exact Or.inl ⟨by rfl, by intro w hSw; (try dsimp only at hSw); go_simp; with_reducible rfl⟩) | (exact Or.inr ⟨by rfl, by rfl⟩)) (by assumption) ?_
          try simp only [Act.put, List.setIfInBounds_toArray, List.set_cons_zero, List.set_cons_succ]
        refine tkI 4 (v := undef) (by simp only [List.getElem?_toArray, List.getElem?_cons_zero, List.getElem?_cons_succ]; rfl) (by kernel_rfl) (by exact fun _ _ _ h => h) (by exact Or.inr ⟨by rfl, rfl⟩) (by assumption) ?_
        try simp only [Act.put, List.setIfInBounds_toArray, List.set_cons_zero, List.set_cons_succ]
        refine tkI 5 (v := undef) (by simp only [List.getElem?_toArray, List.getElem?_cons_zero, List.getElem?_cons_succ]; rfl) (by kernel_rfl) (by exact fun _ _ _ h => h) (by exact Or.inr ⟨by rfl, rfl⟩) (by assumption) ?_
        try simp only [Act.put, List.setIfInBounds_toArray, List.set_cons_zero, List.set_cons_succ]
        refine tkI 6 (v := undef) (by simp only [List.getElem?_toArray, List.getElem?_cons_zero, List.getElem?_cons_succ]; rfl) (by kernel_rfl) (by exact fun _ _ _ h => h) (by exact Or.inr ⟨by rfl, rfl⟩) (by assumption) ?_
        try simp only [Act.put, List.setIfInBounds_toArray, List.set_cons_zero, List.set_cons_succ]
        refine tkI 7 (v := undef) (by simp only [List.getElem?_toArray, List.getElem?_cons_zero, List.getElem?_cons_succ]; rfl) (by kernel_rfl) (by exact fun _ _ _ h => h) (by exact Or.inr ⟨by rfl, rfl⟩) (by assumption) ?_
        try simp only [Act.put, List.setIfInBounds_toArray, List.set_cons_zero, List.set_cons_succ]
        refine tkI 8 (v := undef) (by simp only [List.getElem?_toArray, List.getElem?_cons_zero, List.getElem?_cons_succ]; rfl) (by kernel_rfl) (by exact fun _ _ _ h => h) (by exact Or.inr ⟨by rfl, rfl⟩) (by assumption) ?_
        try simp only [Act.put, List.setIfInBounds_toArray, List.set_cons_zero, List.set_cons_succ]
        refine tkI 9 (v := undef) (by simp only [List.getElem?_toArray, List.getElem?_cons_zero, List.getElem?_cons_succ]; rfl) (by kernel_rfl) (by exact fun _ _ _ h => h) (by exact Or.inr ⟨by rfl, rfl⟩) (by assumption) ?_
        try simp only [Act.put, List.setIfInBounds_toArray, List.set_cons_zero, List.set_cons_succ]
        refine tkI 10 (v := undef) (by simp only [List.getElem?_toArray, List.getElem?_cons_zero, List.getElem?_cons_succ]; rfl) (by kernel_rfl) (by exact fun _ _ _ h => h) (by exact Or.inr ⟨by rfl, rfl⟩) (by assumption) ?_
        try simp only [Act.put, List.setIfInBounds_toArray, List.set_cons_zero, List.set_cons_succ]
        iterate 2
          refine tkD 0 (by simp only [List.size_toArray, List.length_cons, List.length_nil]; rfl) (by simp only [List.getElem?_toArray, List.getElem?_cons_zero, List.getElem?_cons_succ]; rfl) (by kernel_rfl) (by exact fun _ _ _ h => h) (by first | (exact Or.inl ⟨by rfl, by intro w hSw; (try dsimp only at hSw); go_simp; with_reducible rfl⟩) | (exact Or.inr ⟨by rfl, by rfl⟩)) (by assumption) ?_
          try simp only [Act.put, List.setIfInBounds_toArray, List.set_cons_zero, List.set_cons_succ]
        refine tkI 13 (v := undef) (by simp only [List.getElem?_toArray, List.getElem?_cons_zero, List.getElem?_cons_succ]; rfl) (by kernel_rfl) (by exact fun _ _ _ h => h) (by exact Or.inr ⟨by rfl, rfl⟩) (by assumption) ?_
        try simp only [Act.put, List.setIfInBounds_toArray, List.set_cons_zero, List.set_cons_succ]
        refine tkI 14 (v := undef) (by simp only [List.getElem?_toArray, List.getElem?_cons_zero, List.getElem?_cons_succ]; rfl) (by kernel_rfl) (by exact fun _ _ _ h => h) (by exact Or.inr ⟨by rfl, rfl⟩) (by assumption) ?_
        try simp only [Act.put, List.setIfInBounds_toArray, List.set_cons_zero, List.set_cons_succ]
        refine tkI 15 (v := undef) (by simp only [List.getElem?_toArray, List.getElem?_cons_zero, List.getElem?_cons_succ]; rfl) (by kernel_rfl) (by exact fun _ _ _ h => h) (by exact Or.inr ⟨by rfl, rfl⟩) (by assumption) ?_
        try simp only [Act.put, List.setIfInBounds_toArray, List.set_cons_zero, List.set_cons_succ]
        refine tkI 16 (v := undef) (by simp only [List.getElem?_toArray, List.getElem?_cons_zero, List.getElem?_cons_succ]; rfl) (by kernel_rfl) (by exact fun _ _ _ h => h) (by exact Or.inr ⟨by rfl, rfl⟩) (by assumption) ?_
        try simp only [Act.put, List.setIfInBounds_toArray, List.set_cons_zero, List.set_cons_succ]
        refine tkI 17 (v := undef) (by simp only [List.getElem?_toArray, List.getElem?_cons_zero, List.getElem?_cons_succ]; rfl) (by kernel_rfl) (by exact fun _ _ _ h => h) (by exact Or.inr ⟨by rfl, rfl⟩) (by assumption) ?_
        try simp only [Act.put, List.setIfInBounds_toArray, List.set_cons_zero, List.set_cons_succ]
        refine tkI 18 (v := undef) (by simp only [List.getElem?_toArray, List.getElem?_cons_zero, List.getElem?_cons_succ]; rfl) (by kernel_rfl) (by exact fun _ _ _ h => h) (by exact Or.inr ⟨by rfl, rfl⟩) (by assumption) ?_
        try simp only [Act.put, List.setIfInBounds_toArray, List.set_cons_zero, List.set_cons_succ]
        refine tkI 19 (v := undef) (by simp only [List.getElem?_toArray, List.getElem?_cons_zero, List.getElem?_cons_succ]; rfl) (by kernel_rfl) (by exact fun _ _ _ h => h) (by exact Or.inr ⟨by rfl, rfl⟩) (by assumption) ?_
        try simp only [Act.put, List.setIfInBounds_toArray, List.set_cons_zero, List.set_cons_succ]
        refine tkI 20 (v := undef) (by simp only [List.getElem?_toArray, List.getElem?_cons_zero, List.getElem?_cons_succ]; rfl) (by kernel_rfl) (by exact fun _ _ _ h => h) (by exact Or.inr ⟨by rfl, rfl⟩) (by assumption) ?_
        try simp only [Act.put, List.setIfInBounds_toArray, List.set_cons_zero, List.set_cons_succ]
        refine tkI 21 (v := undef) (by simp only [List.getElem?_toArray, List.getElem?_cons_zero, List.getElem?_cons_succ]; rfl) (by kernel_rfl) (by exact fun _ _ _ h => h) (by exact Or.inr ⟨by rfl, rfl⟩) (by assumption) ?_
        try simp only [Act.put, List.setIfInBounds_toArray, List.set_cons_zero, List.set_cons_succ]
        refine tkI 22 (v := undef) (by simp only [List.getElem?_toArray, List.getElem?_cons_zero, List.getElem?_cons_succ]; rfl) (by kernel_rfl) (by exact fun _ _ _ h => h) (by exact Or.inr ⟨by rfl, rfl⟩) (by assumption) ?_
        try simp only [Act.put, List.setIfInBounds_toArray, List.set_cons_zero, List.set_cons_succ]
        refine tkI 23 (by simp only [List.getElem?_toArray, List.getElem?_cons_zero, List.getElem?_cons_succ]; rfl) (by kernel_rfl) (by exact fun _ _ _ h => h) (by first | (exact Or.inl ⟨by rfl, by intro w hSw; (try dsimp only at hSw); go_simp; with_reducible rfl⟩) | (exact Or.inr ⟨by rfl, by rfl⟩)) (by assumption) ?_
        try simp only [Act.put, List.setIfInBounds_toArray, List.set_cons_zero, List.set_cons_succ]
        refine wpAnyH_done (by kernel_rfl) ?_ _
        have HXF := Lib.hid (HX.out.trans (HY0.out.trans hHeld))
        clear hHeld
        go_wp2
        go_ret2
        exact ⟨.inl ⟨HS.out, rfl⟩, HXF.out⟩
      | true =>
        have HOKC := Lib.hid hok
        rw [hok] at HVL
        have hp3 : c.par.length ≤ 3 := (okCm_le hok).1
        clear hok
        cases hoe : okE m with
        | false =>
          have hs := HBD.out (by rw [HSB.out, hoe]; simp)
          have HS := Lib.hid hs
          rw [hoe] at HVE
          clear hs hoe
          go_wp2_with fail
          refine wp_region_held_drew (S := fun W => Ext w3 W) (by kernel_rfl) (Ext.refl _).drew (fun hHeld => ?_)
          refine tkI 0 (v := (.agg es.toArray)) (by simp only [List.getElem?_toArray, List.getElem?_cons_zero, List.getElem?_cons_succ]; rfl) (by kernel_rfl) (by exact fun _ _ _ h => h) (by refine yields_loadBSP (fun W hW => BC0.out.ext hW) aggCommitI hsz35 ?_ _ rfl rfl; rfl) (by assumption) ?_
          try simp only [Act.put, List.setIfInBounds_toArray, List.set_cons_zero, List.set_cons_succ]
          refine wpAnyH_ready (rs := [1]) (by kernel_rfl) (by simp) (AllReadyH.cons (o := ?oy261) ?hy261 (fun K hK => ?sy261) AllReadyH.nil)
          case hy261 => simp only [List.getElem?_toArray, List.getElem?_cons_zero, List.getElem?_cons_succ]; rfl
          go_simp
          refine (HVL.out _ (HY0.out.trans hHeld)).mono ?_
          rintro e w4 ⟨rfl, hx⟩
          have hH2 := hHeld.trans hx
          refine hK.out _ _ hH2 (fun _ => ?_)
          clear hHeld hK K
          have hHeld := hH2
          clear hH2
          try simp only [Act.put, List.setIfInBounds_toArray, List.set_cons_zero, List.set_cons_succ]
          iterate 3
            refine tkD 0 (by simp only [List.size_toArray, List.length_cons, List.length_nil]; rfl) (by simp only [List.getElem?_toArray, List.getElem?_cons_zero, List.getElem?_cons_succ]; rfl) (by kernel_rfl) (by exact fun _ _ _ h => h) (by first | (exact Or.inl ⟨by rfl, by intro w hSw; (try dsimp only at hSw); go_simp; with_reducible rfl⟩) | (exact Or.inr ⟨by rfl, by rfl⟩)) (by assumption) ?_
            try simp only [Act.put, List.setIfInBounds_toArray, List.set_cons_zero, List.set_cons_succ]
          refine tkI 5 (by simp only [List.getElem?_toArray, List.getElem?_cons_zero, List.getElem?_cons_succ]; rfl) (by kernel_rfl) (by exact fun _ _ _ h => h) (by exact Or.inl ⟨by rfl, by intro W hSw; have e0 := (hB3.out.ext hSw).at_ 1 rfl; go_simp; with_reducible rfl⟩) (by assumption) ?_
          try simp only [Act.put, List.setIfInBounds_toArray, List.set_cons_zero, List.set_cons_succ]
          iterate 2
            refine tkD 0 (by simp only [List.size_toArray, List.length_cons, List.length_nil]; rfl) (by simp only [List.getElem?_toArray, List.getElem?_cons_zero, List.getElem?_cons_succ]; rfl) (by kernel_rfl) (by exact fun _ _ _ h => h) (by first | (exact Or.inl ⟨by rfl, by intro w hSw; (try dsimp only at hSw); go_simp; with_reducible rfl⟩) | (exact Or.inr ⟨by rfl, by rfl⟩)) (by assumption) ?_
            try simp only [Act.put, List.setIfInBounds_toArray, List.set_cons_zero, List.set_cons_succ]
          refine tkI 8 (by simp only [List.getElem?_toArray, List.getElem?_cons_zero, List.getElem?_cons_succ]; rfl) (by kernel_rfl) (by exact fun _ _ _ h => h) (by exact Or.inl ⟨by rfl, by intro W hSw; have e0 := HVM3.out W hSw; go_simp; with_reducible rfl⟩) (by assumption) ?_
          try simp only [Act.put, List.setIfInBounds_toArray, List.set_cons_zero, List.set_cons_succ]
          refine wpAnyH_ready (rs := [9]) (by kernel_rfl) (by simp) (AllReadyH.cons (o := ?oy349) ?hy349 (fun K hK => ?sy349) AllReadyH.nil)
          case hy349 => simp only [List.getElem?_toArray, List.getElem?_cons_zero, List.getElem?_cons_succ]; rfl
          go_simp
          refine (HVE.out _ (HY0.out.trans hHeld)).mono ?_
          rintro e w5 ⟨rfl, hx⟩
          have hH2 := hHeld.trans hx
          refine hK.out _ _ hH2 (fun _ => ?_)
          clear hHeld hK K
          have hHeld := hH2
          clear hH2
          try simp only [Act.put, List.setIfInBounds_toArray, List.set_cons_zero, List.set_cons_succ]
          iterate 3
            refine tkD 0 (by simp only [List.size_toArray, List.length_cons, List.length_nil]; rfl) (by simp only [List.getElem?_toArray, List.getElem?_cons_zero, List.getElem?_cons_succ]; rfl) (by kernel_rfl) (by exact fun _ _ _ h => h) (by first | (exact Or.inl ⟨by rfl, by intro w hSw; (try dsimp only at hSw); go_simp; with_reducible rfl⟩) | (exact Or.inr ⟨by rfl, by rfl⟩)) (by assumption) ?_
            try simp only [Act.put, List.setIfInBounds_toArray, List.set_cons_zero, List.set_cons_succ]
          refine tkI 13 (v := undef) (by simp only [List.getElem?_toArray, List.getElem?_cons_zero, List.getElem?_cons_succ]; rfl) (by kernel_rfl) (by exact fun _ _ _ h => h) (by exact Or.inr ⟨by rfl, rfl⟩) (by assumption) ?_
          try simp only [Act.put, List.setIfInBounds_toArray, List.set_cons_zero, List.set_cons_succ]
          refine tkI 14 (v := undef) (by simp only [List.getElem?_toArray, List.getElem?_cons_zero, List.getElem?_cons_succ]; rfl) (by kernel_rfl) (by exact fun _ _ _ h => h) (by exact Or.inr ⟨by rfl, rfl⟩) (by assumption) ?_
          try simp only [Act.put, List.setIfInBounds_toArray, List.set_cons_zero, List.set_cons_succ]
          refine tkI 15 (v := undef) (by simp only [List.getElem?_toArray, List.getElem?_cons_zero, List.getElem?_cons_succ]; rfl) (by kernel_rfl) (by exact fun _ _ _ h => h) (by exact Or.inr ⟨by rfl, rfl⟩) (by assumption) ?_
          try simp only [Act.put, List.setIfInBounds_toArray, List.set_cons_zero, List.set_cons_succ]
          refine tkI 16 (v := undef) (by simp only [List.getElem?_toArray, List.getElem?_cons_zero, List.getElem?_cons_succ]; rfl) (by kernel_rfl) (by exact fun _ _ _ h => h) (by exact Or.inr ⟨by rfl, rfl⟩) (by assumption) ?_
          try simp only [Act.put, List.setIfInBounds_toArray, List.set_cons_zero, List.set_cons_succ]
          refine tkI 17 (v := undef) (by simp only [List.getElem?_toArray, List.getElem?_cons_zero, List.getElem?_cons_succ]; rfl) (by kernel_rfl) (by exact fun _ _ _ h => h) (by exact Or.inr ⟨by rfl, rfl⟩) (by assumption) ?_
          try simp only [Act.put, List.setIfInBounds_toArray, List.set_cons_zero, List.set_cons_succ]
          refine tkI 18 (v := undef) (by simp only [List.getElem?_toArray, List.getElem?_cons_zero, List.getElem?_cons_succ]; rfl) (by kernel_rfl) (by exact fun _ _ _ h => h) (by exact Or.inr ⟨by rfl, rfl⟩) (by assumption) ?_
          try simp only [Act.put, List.setIfInBounds_toArray, List.set_cons_zero, List.set_cons_succ]
          refine tkI 19 (v := undef) (by simp only [List.getElem?_toArray, List.getElem?_cons_zero, List.getElem?_cons_succ]; rfl) (by kernel_rfl) (by exact fun _ _ _ h => h) (by exact Or.inr ⟨by rfl, rfl⟩) (by assumption) ?_
          try simp only [Act.put, List.setIfInBounds_toArray, List.set_cons_zero, List.set_cons_succ]
          refine tkI 20 (v := undef) (by simp only [List.getElem?_toArray, List.getElem?_cons_zero, List.getElem?_cons_succ]; rfl) (by kernel_rfl) (by exact fun _ _ _ h => h) (by exact Or.inr ⟨by rfl, rfl⟩) (by assumption) ?_
          try simp only [Act.put, List.setIfInBounds_toArray, List.set_cons_zero, List.set_cons_succ]
          refine tkI 21 (v := undef) (by simp only [List.getElem?_toArray, List.getElem?_cons_zero, List.getElem?_cons_succ]; rfl) (by kernel_rfl) (by exact fun _ _ _ h => h) (by exact Or.inr ⟨by rfl, rfl⟩) (by assumption) ?_
          try simp only [Act.put, List.setIfInBounds_toArray, List.set_cons_zero, List.set_cons_succ]
          refine tkI 22 (v := undef) (by simp only [List.getElem?_toArray, List.getElem?_cons_zero, List.getElem?_cons_succ]; rfl) (by kernel_rfl) (by exact fun _ _ _ h => h) (by exact Or.inr ⟨by rfl, rfl⟩) (by assumption) ?_
          try simp only [Act.put, List.setIfInBounds_toArray, List.set_cons_zero, List.set_cons_succ]
          refine tkI 23 (by simp only [List.getElem?_toArray, List.getElem?_cons_zero, List.getElem?_cons_succ]; rfl) (by kernel_rfl) (by exact fun _ _ _ h => h) (by first | (exact Or.inl ⟨by rfl, by intro w hSw; (try dsimp only at hSw); go_simp; with_reducible rfl⟩) | (exact Or.inr ⟨by rfl, by rfl⟩)) (by assumption) ?_
          try simp only [Act.put, List.setIfInBounds_toArray, List.set_cons_zero, List.set_cons_succ]
          refine wpAnyH_done (by kernel_rfl) ?_ _
          have HXF := Lib.hid (HX.out.trans (HY0.out.trans hHeld))
          clear hHeld
          go_wp2
          go_ret2
          exact ⟨.inl ⟨HS.out, rfl⟩, HXF.out⟩
        | true =>
          have HOE := Lib.hid hoe
          rw [hoe] at HVE
          rw [HOKC.out, HOE.out] at HSB
          have hm64 : m.length ≤ 64 := by have := hoe; rw [okE_eq, Bool.and_eq_true] at this; simpa using this.2
          have hgood := good_of hoe HMAP.out.choose_spec.choose_spec.2.2.2.2
          have HTO := Lib.hid (fun W hW => treeOf_any (.slice Av nv cv) m hm64 hgood W S2 (HMAP.out.ext (by decide) hW))
          have HTK := Lib.hid (fun W v h => treeKey_any (trF m.length m) (trF_ok m.length m hgood) v W h)
          have HKK := Lib.hid ((trF m.length m).key_ok)
          obtain ⟨TT, hTT⟩ : ∃ TT, trF m.length m = TT := ⟨_, rfl⟩
          rw [hTT] at HKK HSB
          simp only [hTT] at HTO HTK
          have heq := run_neqKey c.root TT.key HROOT.out HKK.out
          have hsym : decide (c.root = TT.key) = decide (TT.key = c.root) := by rw [Bool.eq_iff_iff, decide_eq_true_iff, decide_eq_true_iff]; exact eq_comm
          rw [hsym] at heq
          obtain ⟨Q, hQ⟩ : ∃ Q, decide (TT.key = c.root) = Q := ⟨_, rfl⟩
          rw [hQ] at heq HSB
          have hrl : (nums .u8 c.root).length = 32 := by rw [nums_length, HROOT.out.1]
          generalize TT.key = KT at HTK HKK heq
          clear hoe hm64 hgood hTT hQ hsym
          go_wp2_with fail
          refine wp_region_held_drew (S := fun W => Ext w3 W) (by kernel_rfl) (Ext.refl _).drew (fun hHeld => ?_)
          refine tkI 0 (v := (.agg es.toArray)) (by simp only [List.getElem?_toArray, List.getElem?_cons_zero, List.getElem?_cons_succ]; rfl) (by kernel_rfl) (by exact fun _ _ _ h => h) (by refine yields_loadBSP (fun W hW => BC0.out.ext hW) aggCommitI hsz35 ?_ _ rfl rfl; rfl) (by assumption) ?_
          try simp only [Act.put, List.setIfInBounds_toArray, List.set_cons_zero, List.set_cons_succ]
          refine wpAnyH_ready (rs := [1]) (by kernel_rfl) (by simp) (AllReadyH.cons (o := ?oy501) ?hy501 (fun K hK => ?sy501) AllReadyH.nil)
          case hy501 => simp only [List.getElem?_toArray, List.getElem?_cons_zero, List.getElem?_cons_succ]; rfl
          go_simp
          refine (HVL.out _ (HY0.out.trans hHeld)).mono ?_
          rintro e w4 ⟨rfl, hx⟩
          have hH2 := hHeld.trans hx
          refine hK.out _ _ hH2 (fun _ => ?_)
          clear hHeld hK K
          have hHeld := hH2
          clear hH2
          try simp only [Act.put, List.setIfInBounds_toArray, List.set_cons_zero, List.set_cons_succ]
          iterate 3
            refine tkD 0 (by simp only [List.size_toArray, List.length_cons, List.length_nil]; rfl) (by simp only [List.getElem?_toArray, List.getElem?_cons_zero, List.getElem?_cons_succ]; rfl) (by kernel_rfl) (by exact fun _ _ _ h => h) (by first | (exact Or.inl ⟨by rfl, by intro w hSw; (try dsimp only at hSw); go_simp; with_reducible rfl⟩) | (exact Or.inr ⟨by rfl, by rfl⟩)) (by assumption) ?_
            try simp only [Act.put, List.setIfInBounds_toArray, List.set_cons_zero, List.set_cons_succ]
          refine tkI 5 (by simp only [List.getElem?_toArray, List.getElem?_cons_zero, List.getElem?_cons_succ]; rfl) (by kernel_rfl) (by exact fun _ _ _ h => h) (by exact Or.inl ⟨by rfl, by intro W hSw; have e0 := (hB3.out.ext hSw).at_ 1 rfl; go_simp; with_reducible rfl⟩) (by assumption) ?_
          try simp only [Act.put, List.setIfInBounds_toArray, List.set_cons_zero, List.set_cons_succ]
          iterate 2
            refine tkD 0 (by simp only [List.size_toArray, List.length_cons, List.length_nil]; rfl) (by simp only [List.getElem?_toArray, List.getElem?_cons_zero, List.getElem?_cons_succ]; rfl) (by kernel_rfl) (by exact fun _ _ _ h => h) (by first | (exact Or.inl ⟨by rfl, by intro w hSw; (try dsimp only at hSw); go_simp; with_reducible rfl⟩) | (exact Or.inr ⟨by rfl, by rfl⟩)) (by assumption) ?_
            try simp only [Act.put, List.setIfInBounds_toArray, List.set_cons_zero, List.set_cons_succ]
          refine tkI 8 (by simp only [List.getElem?_toArray, List.getElem?_cons_zero, List.getElem?_cons_succ]; rfl) (by kernel_rfl) (by exact fun _ _ _ h => h) (by exact Or.inl ⟨by rfl, by intro W hSw; have e0 := HVM3.out W hSw; go_simp; with_reducible rfl⟩) (by assumption) ?_
          try simp only [Act.put, List.setIfInBounds_toArray, List.set_cons_zero, List.set_cons_succ]
          refine wpAnyH_ready (rs := [9]) (by kernel_rfl) (by simp) (AllReadyH.cons (o := ?oy589) ?hy589 (fun K hK => ?sy589) AllReadyH.nil)
          case hy589 => simp only [List.getElem?_toArray, List.getElem?_cons_zero, List.getElem?_cons_succ]; rfl
          go_simp
          refine (HVE.out _ (HY0.out.trans hHeld)).mono ?_
          rintro e w5 ⟨rfl, hx⟩
          have hH2 := hHeld.trans hx
          refine hK.out _ _ hH2 (fun _ => ?_)
          clear hHeld hK K
          have hHeld := hH2
          clear hH2
          try simp only [Act.put, List.setIfInBounds_toArray, List.set_cons_zero, List.set_cons_succ]
          iterate 4
            refine tkD 0 (by simp only [List.size_toArray, List.length_cons, List.length_nil]; rfl) (by simp only [List.getElem?_toArray, List.getElem?_cons_zero, List.getElem?_cons_succ]; rfl) (by kernel_rfl) (by exact fun _ _ _ h => h) (by first | (exact Or.inl ⟨by rfl, by intro w hSw; (try dsimp only at hSw); go_simp; with_reducible rfl⟩) | (exact Or.inr ⟨by rfl, by rfl⟩)) (by assumption) ?_
            try simp only [Act.put, List.setIfInBounds_toArray, List.set_cons_zero, List.set_cons_succ]
          refine tkI 14 (v := (.agg (numsA .u8 c.root))) (by simp only [List.getElem?_toArray, List.getElem?_cons_zero, List.getElem?_cons_succ]; rfl) (by kernel_rfl) (by exact fun _ _ _ h => h) (by refine yields_loadSP gC 0 (nums .u8 c.root) (by rw [hrl]; exact aggKey) (fun W hW j u hu => (BC0.out.ext hW).at_ _ (HER.out j u hu)) ?_ _ rfl rfl; rfl) (by assumption) ?_
          try simp only [Act.put, List.setIfInBounds_toArray, List.set_cons_zero, List.set_cons_succ]
          refine tkI 15 (by simp only [List.getElem?_toArray, List.getElem?_cons_zero, List.getElem?_cons_succ]; rfl) (by kernel_rfl) (by exact fun _ _ _ h => h) (by first | (exact Or.inl ⟨by rfl, by intro w hSw; (try dsimp only at hSw); go_simp; with_reducible rfl⟩) | (exact Or.inr ⟨by rfl, by rfl⟩)) (by assumption) ?_
          try simp only [Act.put, List.setIfInBounds_toArray, List.set_cons_zero, List.set_cons_succ]
          refine tkI 16 (by simp only [List.getElem?_toArray, List.getElem?_cons_zero, List.getElem?_cons_succ]; rfl) (by kernel_rfl) (by exact fun _ _ _ h => h) (by exact Or.inl ⟨by rfl, by intro W hSw; have e0 := (hB3.out.ext hSw).at_ 1 rfl; go_simp; with_reducible rfl⟩) (by assumption) ?_
          try simp only [Act.put, List.setIfInBounds_toArray, List.set_cons_zero, List.set_cons_succ]
          iterate 2
            refine tkD 0 (by simp only [List.size_toArray, List.length_cons, List.length_nil]; rfl) (by simp only [List.getElem?_toArray, List.getElem?_cons_zero, List.getElem?_cons_succ]; rfl) (by kernel_rfl) (by exact fun _ _ _ h => h) (by first | (exact Or.inl ⟨by rfl, by intro w hSw; (try dsimp only at hSw); go_simp; with_reducible rfl⟩) | (exact Or.inr ⟨by rfl, by rfl⟩)) (by assumption) ?_
            try simp only [Act.put, List.setIfInBounds_toArray, List.set_cons_zero, List.set_cons_succ]
          refine tkI 19 (by simp only [List.getElem?_toArray, List.getElem?_cons_zero, List.getElem?_cons_succ]; rfl) (by kernel_rfl) (by exact fun _ _ _ h => h) (by exact Or.inl ⟨by rfl, by intro W hSw; have e0 := HVM3.out W hSw; go_simp; with_reducible rfl⟩) (by assumption) ?_
          try simp only [Act.put, List.setIfInBounds_toArray, List.set_cons_zero, List.set_cons_succ]
          refine wpAnyH_ready (rs := [20]) (by kernel_rfl) (by simp) (AllReadyH.cons (o := ?oy6920) ?hy6920 (fun K hK => ?sy6920) AllReadyH.nil)
          case hy6920 => simp only [List.getElem?_toArray, List.getElem?_cons_zero, List.getElem?_cons_succ]; rfl
          go_simp
          refine (HTO.out _ (HY0.out.trans hHeld)).mono ?_
          rintro e w6 ⟨vt, rfl, ht, hx⟩
          obtain ⟨pt, rfl⟩ := ht.ptr
          have HTA := Lib.hid ht
          clear ht
          have hH2 := hHeld.trans hx
          refine hK.out _ _ hH2 (fun _ => ?_)
          clear hHeld hK K
          have hHeld := hH2
          clear hH2
          try simp only [Act.put, List.setIfInBounds_toArray, List.set_cons_zero, List.set_cons_succ]
          refine wpAnyH_ready (rs := [21]) (by kernel_rfl) (by simp) (AllReadyH.cons (o := ?oy7021) ?hy7021 (fun K hK => ?sy7021) AllReadyH.nil)
          case hy7021 => simp only [List.getElem?_toArray, List.getElem?_cons_zero, List.getElem?_cons_succ]; rfl
          go_simp
          refine (HTK.out _ _ HTA.out).mono ?_
          rintro e w7 ⟨rfl, hx⟩
          have hH2 := hHeld.trans hx
          refine hK.out _ _ hH2 (fun _ => ?_)
          clear hHeld hK K
          have hHeld := hH2
          clear hH2
          try simp only [Act.put, List.setIfInBounds_toArray, List.set_cons_zero, List.set_cons_succ]
          iterate 2
            refine tkD 0 (by simp only [List.size_toArray, List.length_cons, List.length_nil]; rfl) (by simp only [List.getElem?_toArray, List.getElem?_cons_zero, List.getElem?_cons_succ]; rfl) (by kernel_rfl) (by exact fun _ _ _ h => h) (by first | (exact Or.inl ⟨by rfl, by intro w hSw; (try dsimp only at hSw); go_simp; with_reducible rfl⟩) | (exact Or.inr ⟨by rfl, by rfl⟩)) (by assumption) ?_
            try simp only [Act.put, List.setIfInBounds_toArray, List.set_cons_zero, List.set_cons_succ]
          refine wpAnyH_done (by kernel_rfl) ?_ _

          replace HY0 := Lib.hid (HY0.out.trans hHeld)
          have BC := Lib.hid (BC0.out.ext hHeld)
          clear hHeld heq HTO HTK HKK HTA hB3 HVL HVE HVM3 BC0
          generalize hw7 : w7 = w8 at HY0 BC ⊢
          clear hw7
          cases Q with
          | false =>
            have hs := HBD.out (by rw [HSB.out]; simp)
            have HXF := Lib.hid (HX.out.trans HY0.out)
            have HS := Lib.hid hs
            clear hs
            go_wp2
            go_ret2
            exact ⟨.inl ⟨HS.out, rfl⟩, HXF.out⟩
          | true =>
            simp only [Bool.not_true]
            have dP := BC.out.at_ 32 HEP.out
            have HRDK := Lib.hid HO.out.rd
            have HLN := Lib.hid (show ks.length ≤ x.1.length by rw [HKL.out]; omega)
            have HNB := Lib.hid (lgNumber_any (w.heap.size + 1) (.slice (some ⟨gc, oc, none⟩) n c1) (.slice (some ⟨gm, om, none⟩) n c2) (.slice Ck nk ck) (.slice Ap c.par.length cp) x.1 ks c.par w8 S _ S (hL.out.ext HY0.out) (HRn.out.ext (HX.out.trans HY0.out)) (HRDK.out.ext (by decide) HY0.out) (HPAR.out.ext (by decide) HY0.out) HLN.out HNK.out)
            obtain ⟨KN, hKN⟩ : ∃ KN, knB ks c.par c.par.length = KN := ⟨_, rfl⟩
            obtain ⟨NM, hNM⟩ : ∃ NM, nmL x.1 ks c.par c.par.length = NM := ⟨_, rfl⟩
            rw [hKN, hNM] at HNB
            rw [hKN, hNM] at HSB
            clear hKN hNM HNK HLN
            go_wp2_with fail
            refine HNB.out.mono ?_
            rintro e w9 ⟨z, rfl, hz, hx⟩
            have HZ := Lib.hid hz
            have HY9 := Lib.hid (HY0.out.trans hx)
            have BC9 := Lib.hid (BC.out.ext hx)
            clear hx hz dP HNB HY0 BC
            go_wp2_with (refine wpl_loadB BC9.out aggCommitI hsz35 rfl _ rfl rfl ?_)
            refine (commitKey_any es.toArray c HOKC.out w9 S (HRC.out.ext HY9.out)).mono ?_
            rintro e w10 ⟨rfl, hx⟩
            rw [← HCK.out]
            have hstO := St.nums (k := .u8) HKO.out.1
            have hszO := sizeN (k := .u8) HKO.out.1
            obtain ⟨own, hown⟩ : ∃ own, ckL c = own := ⟨_, rfl⟩
            rw [hown] at hstO hszO HKO HKS HSB ⊢
            have hE := hx.trans (ext_alloc w10 (.cells (numsA .u8 own) 53))
            have BO := Lib.hid (Blk.new w10 53 (numsA .u8 own))
            have HYA := Lib.hid (HY9.out.trans hE)
            have BCA := Lib.hid (BC9.out.ext hE)
            have hzA : (Try.prog.info? 53).map (·.zero) = some (some (.agg (numsA .u8 (List.replicate 32 0)))) := by kernel_rfl
            have hzsA : (numsA .u8 (List.replicate 32 0)).size = 32 := by simp [numsA, nums]
            generalize numsA .u8 (List.replicate 32 0) = ZA at hzA hzsA
            clear hx hE hown HCK HY9 BC9
            go_wp2_with (first
              | (refine wpl_alloc ZA hzA rfl rfl ?_)
              | (refine wpl_storeNewB aggKey hstO hzsA rfl _ _ rfl rfl rfl rfl ?_)
              | (refine wpl_loadB BO.out aggKey hszO rfl _ rfl rfl ?_))
            generalize w10.alloc (.cells (numsA .u8 own) 53) = w11 at BO HYA BCA ⊢
            have HFD := Lib.hid (lgFind_any (w.heap.size + 1) (.slice (some ⟨gc, oc, none⟩) n c1) (.slice (some ⟨gm, om, none⟩) n c2) (.slice Ck nk ck) ks own HKO.out w11 _ (hL.out.ext HYA.out) (HRDK.out.ext (by decide) HYA.out))
            rw [fdI_pos] at HFD
            generalize fdI ks own = I at HFD
            obtain ⟨B2, hB2⟩ : ∃ B2, ks.contains own = B2 := ⟨_, rfl⟩
            rw [hB2] at HFD HSB
            clear hB2
            refine HFD.out.mono ?_
            rintro e w12 ⟨rfl, hx⟩
            have HYB := Lib.hid (HYA.out.trans hx)
            have BOB := Lib.hid (BO.out.ext hx)
            have dN := (BCA.out.ext hx).at_ 33 HEN.out
            clear hx HYA BO BCA HFD
            have HXB := Lib.hid (HX.out.trans HYB.out)
            cases KN with
            | false =>
              have hs := HBD.out (by rw [HSB.out]; simp)
              have HS := Lib.hid hs
              clear hs
              go_wp2
              go_ret2
              exact ⟨.inl ⟨HS.out, rfl⟩, HXB.out⟩
            | true =>
              obtain rfl := HZ.out rfl
              cases B2 with
              | true =>
                have hs := HBD.out (by rw [HSB.out]; simp)
                have HS := Lib.hid hs
                clear hs
                go_wp2
                go_ret2
                exact ⟨.inl ⟨HS.out, rfl⟩, HXB.out⟩
              | false =>
                obtain ⟨E, hE⟩ : ∃ E, decide (c.num = z) = E := ⟨_, rfl⟩
                rw [hE] at HSB
                have hne : (z != c.num) = !E := by
                  rw [← hE]
                  by_cases e : c.num = z
                  · rw [decide_eq_true e, e]; simp
                  · rw [decide_eq_false e, bne_iff_ne.2 (fun q => e q.symm)]; rfl
                clear hE
                cases E with
                | false =>
                  have hs := HBD.out (by rw [HSB.out]; simp)
                  have HS := Lib.hid hs
                  simp only [Bool.not_false] at hne
                  clear hs
                  go_wp2
                  go_ret2
                  exact ⟨.inl ⟨HS.out, rfl⟩, HXB.out⟩
                | true =>
                  simp only [Bool.not_true] at hne
                  have hst2 : stB x k = true := by rw [HSB.out]; rfl
                  have HS2 := Lib.hid (show stN x (k + 1) = true by rw [HSTN.out, HST.out, hst2]; rfl)
                  have hkl2 : (ks ++ [own]).length ≤ 100 := by rw [List.length_append, HKL.out]; simp; omega
                  have HLL := Lib.hid hkl2
                  have HOB := Lib.hid (HO.out.ext HYB.out)
                  have HLB := Lib.hid (hL.out.ext HYB.out)
                  have HBB := Lib.hid (hB.out.ext HYB.out)
                  clear hst2 hkl2 HZ
                  go_wp2_with fail
                  refine wp_region_f [7, 8, 9, 10] (S := fun W => Ext w12 W) (by kernel_rfl) (Ext.refl _).drew (fun hHeld => ?_)
                  refine wpF_take (i := 1) (oi := ?oiz73) (v := ?vz73) ?hiz73 (by kernel_rfl) (by kernel_rfl) (by kernel_rfl) (by kernel_rfl) ?hQz73 ?hyz73 (by assumption) ?restz73
                  case hiz73 => simp only [List.getElem?_toArray, List.getElem?_cons_zero, List.getElem?_cons_succ]; rfl
                  case hQz73 => exact fun _ _ _ h => h
                  case hyz73 => exact Or.inl ⟨by rfl, by intro w hSw; (try dsimp only at hSw); go_simp; with_reducible rfl⟩
                  try simp only [Act.put, List.setIfInBounds_toArray, List.set_cons_zero, List.set_cons_succ]
                  refine wpF_take (i := 2) (oi := ?oiz74) (v := ?vz74) ?hiz74 (by kernel_rfl) (by kernel_rfl) (by kernel_rfl) (by kernel_rfl) ?hQz74 ?hyz74 (by assumption) ?restz74
                  case hiz74 => simp only [List.getElem?_toArray, List.getElem?_cons_zero, List.getElem?_cons_succ]; rfl
                  case hQz74 => exact fun _ _ _ h => h
                  case hyz74 => exact Or.inl ⟨by rfl, by intro w hSw; (try dsimp only at hSw); go_simp; with_reducible rfl⟩
                  try simp only [Act.put, List.setIfInBounds_toArray, List.set_cons_zero, List.set_cons_succ]
                  refine wpF_take (i := 3) (oi := ?oiz75) (v := ?vz75) ?hiz75 (by kernel_rfl) (by kernel_rfl) (by kernel_rfl) (by kernel_rfl) ?hQz75 ?hyz75 (by assumption) ?restz75
                  case hiz75 => simp only [List.getElem?_toArray, List.getElem?_cons_zero, List.getElem?_cons_succ]; rfl
                  case hQz75 => exact fun _ _ _ h => h
                  case hyz75 => exact Or.inl ⟨by rfl, by intro w hSw; (try dsimp only at hSw); go_simp; with_reducible rfl⟩
                  try simp only [Act.put, List.setIfInBounds_toArray, List.set_cons_zero, List.set_cons_succ]
                  refine wpF_take (i := 4) (oi := ?oiz76) (v := ?vz76) ?hiz76 (by kernel_rfl) (by kernel_rfl) (by kernel_rfl) (by kernel_rfl) ?hQz76 ?hyz76 (by assumption) ?restz76
                  case hiz76 => simp only [List.getElem?_toArray, List.getElem?_cons_zero, List.getElem?_cons_succ]; rfl
                  case hQz76 => exact fun _ _ _ h => h
                  case hyz76 => exact Or.inl ⟨by rfl, by intro W hSw; have e0 := (HLB.out.ext hSw).at_ 2 rfl; go_simp; with_reducible rfl⟩
                  try simp only [Act.put, List.setIfInBounds_toArray, List.set_cons_zero, List.set_cons_succ]
                  refine wpF_take (i := 5) (oi := ?oiz77) (v := (.agg (numsA .u8 own))) ?hiz77 (by kernel_rfl) (by kernel_rfl) (by kernel_rfl) (by kernel_rfl) ?hQz77 ?hyz77 (by assumption) ?restz77
                  case hiz77 => simp only [List.getElem?_toArray, List.getElem?_cons_zero, List.getElem?_cons_succ]; rfl
                  case hQz77 => exact fun _ _ _ h => h
                  case hyz77 => refine yields_loadBSP (fun W hW => BOB.out.ext hW) aggKey hszO ?_ _ rfl rfl; rfl
                  try simp only [Act.put, List.setIfInBounds_toArray, List.set_cons_zero, List.set_cons_succ]
                  refine wpF_late (i := 0) (oi := ?oiz78) (v := ?vz78) ?hiz78 (by kernel_rfl) (by kernel_rfl) (by kernel_rfl) ?hQz78 ?hyz78 ?restz78
                  case hiz78 => simp only [List.getElem?_toArray, List.getElem?_cons_zero, List.getElem?_cons_succ]; rfl
                  case hQz78 => exact fun _ _ _ h => h
                  case hyz78 => exact Or.inl ⟨by rfl, by intro w hSw; (try dsimp only at hSw); go_simp; with_reducible rfl⟩
                  try simp only [Act.put, List.setIfInBounds_toArray, List.set_cons_zero, List.set_cons_succ]
                  refine wpF_ready (rs := [6]) (by kernel_rfl) (by simp) (AllF.cons (o := ?oy796) ?hy796 (fun K hK => ?sy796) AllF.nil)
                  case hy796 => simp only [List.getElem?_toArray, List.getElem?_cons_zero, List.getElem?_cons_succ]; rfl
                  refine stp_one rowKeyL (by decide) own HKO.out rfl _ rfl rfl ?_
                  have hE6 := ext_alloc w12.drew (.cells (tKey.enc own).toArray 53)
                  have hH2 := hHeld.trans hE6
                  refine hK.out _ _ (fun _ _ => hH2) ?_
                  clear hHeld hK K
                  have hHeld := hH2
                  clear hH2
                  try simp only [Act.put, List.setIfInBounds_toArray, List.set_cons_zero, List.set_cons_succ]
                  clear hE6
                  refine wpF_ready (rs := [7]) (by kernel_rfl) (by simp) (AllF.cons (o := ?oy807) ?hy807 (fun K hK => ?sy807) AllF.nil)
                  case hy807 => simp only [List.getElem?_toArray, List.getElem?_cons_zero, List.getElem?_cons_succ]; rfl
                  refine stp_append rowKeyL rfl _ _ rfl (v := .slice Ck nk ck) rfl (HOB.out.drew.alloc (.cells (tKey.enc own).toArray 53)) _ _ rfl (A := some ⟨w12.drew.heap.size, 0, none⟩) (ys := [own]) rfl (rd_one (T := tKey) w12.drew own HKO.out _) (by intro y hy; obtain rfl := List.mem_singleton.1 hy; exact HKO.out) (by have := HLL.out; rw [List.length_append] at this; omega) (by have h1 := HOB.out; have h2 := HLB.out.lt; simp; omega) ?_
                  intro v13 w13 ho13 hg13 hat13
                  have HOC := Lib.hid ho13
                  have hne1 : ∀ q, (Value.slice Ck nk ck).ownBlock = some q → w.heap.size + 2 ≤ q := fun q hq => (HOB.out.base_le q hq).1
                  have HXC := Lib.hid ((HXB.out.drew.alloc (.cells (tKey.enc own).toArray 53)).grown hg13 (fun q hq => by have := hne1 q hq; omega))
                  have HLC := Lib.hid ((HLB.out.alloc (w := w12.drew) (.cells (tKey.enc own).toArray 53)).grown hg13 (fun e => by have := hne1 _ e.symm; omega))
                  have HBC := Lib.hid ((HBB.out.alloc (w := w12.drew) (.cells (tKey.enc own).toArray 53)).grown hg13 (fun e => by have := hne1 _ e.symm; omega))
                  obtain ⟨C13, n13, c13, rfl⟩ := ho13.shape3
                  clear ho13 hg13 hat13 hne1
                  refine hK.out _ _ (fun h => absurd (by decide) h) ?_
                  clear hHeld hK K
                  try simp only [Act.put, List.setIfInBounds_toArray, List.set_cons_zero, List.set_cons_succ]
                  refine wpF_late (i := 8) (oi := ?oiz81) (v := ?vz81) ?hiz81 (by kernel_rfl) (by kernel_rfl) (by kernel_rfl) ?hQz81 ?hyz81 ?restz81
                  case hiz81 => simp only [List.getElem?_toArray, List.getElem?_cons_zero, List.getElem?_cons_succ]; rfl
                  case hQz81 => exact fun _ _ _ h => h
                  case hyz81 => exact Or.inl ⟨by rfl, by intro w hSw; (try dsimp only at hSw); go_simp; with_reducible rfl⟩
                  try simp only [Act.put, List.setIfInBounds_toArray, List.set_cons_zero, List.set_cons_succ]
                  refine wpF_late (i := 9) (oi := ?oiz82) (v := ?vz82) ?hiz82 (by kernel_rfl) (by kernel_rfl) (by kernel_rfl) ?hQz82 ?hyz82 ?restz82
                  case hiz82 => simp only [List.getElem?_toArray, List.getElem?_cons_zero, List.getElem?_cons_succ]; rfl
                  case hQz82 => exact fun _ _ _ h => h
                  case hyz82 => exact Or.inl ⟨by rfl, by intro w hSw; (try dsimp only at hSw); go_simp; with_reducible rfl⟩
                  try simp only [Act.put, List.setIfInBounds_toArray, List.set_cons_zero, List.set_cons_succ]
                  refine wpF_ready (rs := [10]) (by kernel_rfl) (by simp) (AllF.cons (o := ?oy8310) ?hy8310 (fun K hK => ?sy8310) AllF.nil)
                  case hy8310 => simp only [List.getElem?_toArray, List.getElem?_cons_zero, List.getElem?_cons_succ]; rfl
                  have d9 := HLC.out.at_ 2 rfl
                  have f9 := HLC.out.free 2
                  have HLD := Lib.hid (HLC.out.set 2 (.slice C13 n13 c13))
                  have HBD2 := Lib.hid (HBC.out.far (p := ⟨w.heap.size + 1, 2, none⟩) (by show w.heap.size ≠ w.heap.size + 1; omega) (.slice C13 n13 c13))
                  have HOD := Lib.hid (HOC.out.set_below (p := ⟨w.heap.size + 1, 2, none⟩) (by show w.heap.size + 1 < w.heap.size + 2; omega) (.slice C13 n13 c13))
                  have HXD := Lib.hid (HXC.out.set (p := ⟨w.heap.size + 1, 2, none⟩) (by show w.heap.size ≤ w.heap.size + 1; omega) (.slice C13 n13 c13))
                  go_simp
                  refine hK.out _ _ (fun h => absurd (by decide) h) ?_
                  clear hK K
                  try simp only [Act.put, List.setIfInBounds_toArray, List.set_cons_zero, List.set_cons_succ]
                  refine wpF_done (by kernel_rfl) ?_ _
                  go_wp2
                  go_roundw
                  case rel => exact ⟨k + 1, _, by omega, by go_num, by rw [HKS.out]; exact HOD.out, HS2.out, HBD2.out, HLD.out, HXD.out⟩
                  case measure => simp [intOf]; omega
    · obtain rfl : k = n := by omega
      have hR : okBk x = true := by rw [HOK.out, HN.out]; exact HST.out
      have HRR := Lib.hid hR
      have HKF := Lib.hid (show ksL (x.1.take k) = ksL x.1 by rw [List.take_of_length_le (by rw [HN.out]; exact Nat.le_refl _)])
      clear hR
      go_wp2
      go_ret2
      exact ⟨.inr ⟨HRR.out, w.heap.size + 1, _, rfl, hL.out, by have := HO.out.rd; rw [HKF.out] at this; exact this.mono (fun _ _ => trivial)⟩, HX.out⟩
end Go.Proofs.Ytnklgkmpcochfaa
/- Whether a book is valid: the reference and the program. No condition. -/
namespace Go.Proofs.Ytnklgkmpcochfaa
open Go.RowKit
set_option linter.unusedVariables false
set_option linter.unusedSimpArgs false

end Go.Proofs.Ytnklgkmpcochfaa
/- Where a commit stands in a book: the reference and the program. No condition. -/
namespace Go.Proofs.Ytnklgkmpcochfaa
open Go.RowKit
set_option linter.unusedVariables false
set_option linter.unusedSimpArgs false

/-- the answer and the code -/
def fcR (x : Bk) (K : List Int) : Int × Int := if okBk x then (if (ksL x.1).contains K then (fdI (ksL x.1) K, 0) else (0, 6)) else (0, 1)
theorem okBk_all {x : Bk} (h : okBk x = true) : ∀ i (hi : i < x.1.length), okCm x.1[i] = true := fun i hi => by
  rw [okBk_eq, Bool.and_eq_true, Bool.and_eq_true, decide_eq_true_iff, decide_eq_true_iff] at h
  have hst : stB x i = true := by
    cases e : stB x i with
    | true => rfl
    | false => rw [stN_bad x i _ hi e] at h; cases h.2
  rw [stB_eq x i hi (by omega)] at hst
  simp only [Bool.and_eq_true] at hst
  exact hst.1.1.1.1.1
theorem okBk_40 {x : Bk} (h : okBk x = true) : x.1.length ≤ 40 := by
  rw [okBk_eq, Bool.and_eq_true, Bool.and_eq_true, decide_eq_true_iff] at h
  exact h.1.1
set_option maxHeartbeats 2000000 in
set_option maxRecDepth 100000 in
theorem l07Keys_any (pb : Nat) (v1 v2 : Value) (cs : List Cm) (w : World) (S : Nat → Prop) (hb : Blk w pb 51 #[v1, v2]) (hr : RdN nrCommit w S v1 cs) (h40 : cs.length ≤ 40) (hok : ∀ i (hi : i < cs.length), okCm cs[i] = true) :
    Calls Try.prog 72 #[.pointer (some ⟨pb, 0, none⟩)] w fun q w' => ∃ v', q = .returned v' ∧ Own tKey 53 w' w.heap.size v' (ksL cs) ∧ Ext w w' := by
  obtain ⟨A1, c1, rfl, hc1, hn1⟩ := id hr.shape
  have HB := Lib.hid hb
  have HR := Lib.hid hr
  have HOK := Lib.hid hok
  have d0 := hb.at_ 0 rfl
  clear hb hr hok
  go_enter Try.func72, Try.ntmps72
  go_wp2
  go_loopw [3, 4] (fun o i wr => ∃ k : Nat, k ≤ cs.length ∧ i = .int .i64 k ∧ Own tKey 53 wr w.heap.size o (ksL (cs.take k)) ∧ Ext w wr) (fun _ i _ => cs.length - (intOf i).toNat)
  case atStart => exact ⟨0, by omega, rfl, by rw [List.take_zero]; exact Own.empty tKey w 53 w.heap.size (Nat.le_refl _), ext_alloc _ _⟩
  case round =>
    obtain ⟨k, hk, rfl, ho, hx⟩ := hrel
    obtain ⟨C, cn, cc, rfl⟩ := ho.shape3
    have HX := Lib.hid hx
    have HO := Lib.hid ho
    have d1 := (HB.out.ext hx).at_ 0 rfl
    clear hx ho d0
    by_cases hlt : k < cs.length
    · obtain ⟨gc, oc, rfl, _, es, hes, hce, hRc⟩ := (HR.out.ext HX.out).elem k hlt
      have HKC := Lib.hid (l07Key_at es.toArray cs[k] (HOK.out k hlt) wr S hRc gc (oc + k * 35) (fun j u hu => hce j u (by simpa using hu)))
      have HCK := Lib.hid (ckL_eq cs[k])
      have HKS := Lib.hid (ksL_snoc cs k hlt)
      have HKO := Lib.hid (ckL_ok cs[k])
      have HKL := Lib.hid (show (ksL (cs.take k)).length = k by rw [ksL_length, List.length_take]; omega)
      rw [← HCK.out] at HKC
      generalize ckL cs[k] = y at HKC HKS HKO
      have hkI : (k : Int) < (cs.length : Int) := by omega
      have hk0 : (0 : Int) ≤ (k : Int) := by omega
      clear hce hRc hes HCK
      go_wp2_with fail
      refine HKC.out.mono ?_
      rintro e w2 ⟨rfl, hx⟩
      have HX2 := Lib.hid (HX.out.trans hx)
      have HO2 := Lib.hid (HO.out.ext hx)
      clear hx HKC HX HO d1
      go_wp2_with (first
        | (refine wpl_one rowKeyL (by decide) y HKO.out rfl _ rfl rfl ?_)
        | (at_builtin; refine wpl_append rowKeyL rfl _ _ rfl (v := .slice C cn cc) rfl (HO2.out.alloc (.cells (tKey.enc y).toArray 53)) _ _ rfl (A := some ⟨w2.heap.size, 0, none⟩) (ys := [y]) rfl (rd_one (T := tKey) w2 y HKO.out _) (by intro z hz; obtain rfl := List.mem_singleton.1 hz; exact HKO.out) (by rw [HKL.out]; simp; omega) (HX2.out.alloc _).size ?_; intro v9 w9 ho9 hg9 hat9; have HX9 := Lib.hid ((HO2.out.alloc (.cells (tKey.enc y).toArray 53)).ext_app (HX2.out.alloc _) hg9); have HO9 := Lib.hid ho9; obtain ⟨C9, n9, c9, rfl⟩ := ho9.shape3; clear ho9 hg9 hat9))
      go_roundw
      case rel => exact ⟨k + 1, by omega, by go_num, by rw [HKS.out]; exact HO9.out, HX9.out⟩
      case measure => simp [intOf]; omega
    · obtain rfl : k = cs.length := by omega
      rw [List.take_length] at HO
      go_wp2
      go_ret
      exact ⟨_, rfl, HO.out, HX.out⟩
set_option maxHeartbeats 2000000 in
set_option maxRecDepth 100000 in
theorem l07At_any (pb : Nat) (v1 v2 : Value) (x : Bk) (K : List Int) (hK : K32 K) (w : World) (S S2 : Nat → Prop) (hb : Blk w pb 51 #[v1, v2]) (hr : RdN nrCommit w S v1 x.1) (hr2 : RdN nrEnts w S2 v2 x.2) :
    Calls Try.prog 46 #[.pointer (some ⟨pb, 0, none⟩), .agg (numsA .u8 K)] w fun q w' => q = .returned (.tuple #[.int .i64 (fcR x K).1, .int .i64 (fcR x K).2]) ∧ Ext w w' := by
  have HE0 := Lib.hid (ext_alloc w (.cells (numsA .u8 K) 53))
  have BK := Lib.hid (Blk.new w 53 (numsA .u8 K))
  have HBO := Lib.hid (l07Book_any pb v1 v2 x _ S S2 (hb.ext HE0.out) (hr.ext HE0.out) (hr2.ext HE0.out))
  have HKE := Lib.hid (fun (h : okBk x = true) W (hW : Ext w W) => l07Keys_any pb v1 v2 x.1 W S (hb.ext hW) (hr.ext hW) (okBk_40 h) (okBk_all h))
  have HFI := Lib.hid (fun W S1 v hv => l07Find_any v (ksL x.1) K hK W S1 hv)
  have hks := sizeN (k := .u8) hK.1
  clear hb hr hr2 hK
  cases hok : okBk x with
  | false =>
    have e : fcR x K = (0, 1) := by unfold fcR; rw [hok]; rfl
    rw [e]
    rw [hok] at HBO
    clear hok HKE HFI e
    go_enter Try.func46, Try.ntmps46
    go_wp2_with fail
    refine HBO.out.mono ?_
    rintro e w1 ⟨rfl, hx⟩
    have HX := Lib.hid (HE0.out.trans hx)
    clear hx HBO
    go_wp2
    go_ret2
    exact ⟨rfl, HX.out⟩
  | true =>
    have e : fcR x K = if (ksL x.1).contains K then (fdI (ksL x.1) K, 0) else (0, 6) := by unfold fcR; rw [hok]; rfl
    rw [e]
    have HKE2 := Lib.hid (HKE.out hok)
    rw [hok] at HBO
    have hp := fdI_pos (ks := ksL x.1) (k := K)
    generalize fdI (ksL x.1) K = I at HFI hp ⊢
    obtain ⟨B, hB⟩ : ∃ B, (ksL x.1).contains K = B := ⟨_, rfl⟩
    rw [hB] at hp ⊢
    clear hok HKE e hB
    go_enter Try.func46, Try.ntmps46
    go_wp2_with fail
    refine HBO.out.mono ?_
    rintro e w1 ⟨rfl, hx⟩
    have HX := Lib.hid (HE0.out.trans hx)
    have BK1 := Lib.hid (BK.out.ext hx)
    clear hx HBO BK
    go_wp2_with fail
    refine wp_region_held_drew (S := fun W => Ext w1 W) (by kernel_rfl) (Ext.refl _).drew (fun hHeld => ?_)
    refine tkI 0 (by simp only [List.getElem?_toArray, List.getElem?_cons_zero, List.getElem?_cons_succ]; rfl) (by kernel_rfl) (by exact fun _ _ _ h => h) (by first | (exact Or.inl ⟨by rfl, by intro w hSw; (try dsimp only at hSw); go_simp; with_reducible rfl⟩) | (exact Or.inr ⟨by rfl, by rfl⟩)) (by assumption) ?_
    try simp only [Act.put, List.setIfInBounds_toArray, List.set_cons_zero, List.set_cons_succ]
    refine tkI 2 (v := (.agg (numsA .u8 K))) (by simp only [List.getElem?_toArray, List.getElem?_cons_zero, List.getElem?_cons_succ]; rfl) (by kernel_rfl) (by exact fun _ _ _ h => h) (by refine yields_loadBSP (fun W hW => BK1.out.ext hW) aggKey hks ?_ _ rfl rfl; rfl) (by assumption) ?_
    try simp only [Act.put, List.setIfInBounds_toArray, List.set_cons_zero, List.set_cons_succ]
    refine wpAnyH_ready (rs := [1]) (by kernel_rfl) (by simp) (AllReadyH.cons (o := ?oy31) ?hy31 (fun K hK => ?sy31) AllReadyH.nil)
    case hy31 => simp only [List.getElem?_toArray, List.getElem?_cons_zero, List.getElem?_cons_succ]; rfl
    go_simp
    refine (HKE2.out _ (HX.out.trans hHeld)).mono ?_
    rintro e w2 ⟨v2k, rfl, ho, hx⟩
    obtain ⟨A2k, n2k, c2k, rfl⟩ := ho.shape3
    have HRK := Lib.hid ho.rd
    clear ho
    have hH2 := hHeld.trans hx
    refine hK.out _ _ hH2 (fun _ => ?_)
    clear hHeld hK K
    have hHeld := hH2
    clear hH2
    try simp only [Act.put, List.setIfInBounds_toArray, List.set_cons_zero, List.set_cons_succ]
    refine wpAnyH_ready (rs := [3]) (by kernel_rfl) (by simp) (AllReadyH.cons (o := ?oy43) ?hy43 (fun K hK => ?sy43) AllReadyH.nil)
    case hy43 => simp only [List.getElem?_toArray, List.getElem?_cons_zero, List.getElem?_cons_succ]; rfl
    go_simp
    refine (HFI.out _ _ _ HRK.out).mono ?_
    rintro e w3 ⟨rfl, hx⟩
    have hH2 := hHeld.trans hx
    refine hK.out _ _ hH2 (fun _ => ?_)
    clear hHeld hK K
    have hHeld := hH2
    clear hH2
    try simp only [Act.put, List.setIfInBounds_toArray, List.set_cons_zero, List.set_cons_succ]
    refine tkI 4 (by simp only [List.getElem?_toArray, List.getElem?_cons_zero, List.getElem?_cons_succ]; rfl) (by kernel_rfl) (by exact fun _ _ _ h => h) (by first | (exact Or.inl ⟨by rfl, by intro w hSw; (try dsimp only at hSw); go_simp; with_reducible rfl⟩) | (exact Or.inr ⟨by rfl, by rfl⟩)) (by assumption) ?_
    try simp only [Act.put, List.setIfInBounds_toArray, List.set_cons_zero, List.set_cons_succ]
    refine wpAnyH_done (by kernel_rfl) ?_ _
    have HXF := Lib.hid (HX.out.trans hHeld)
    clear hHeld
    cases B with
    | true =>
      have hI : 0 ≤ I := by simpa using hp
      have hI2 : ¬ I < 0 := by omega
      have hI3 : decide (I < 0) = false := decide_eq_false hI2
      clear hp
      go_wp2
      go_ret2
      exact ⟨rfl, HXF.out⟩
    | false =>
      have hI : I < 0 := by have : ¬ 0 ≤ I := by simpa using hp
                            omega
      clear hp
      go_wp2
      go_ret2
      exact ⟨rfl, HXF.out⟩
set_option maxHeartbeats 1000000 in
set_option maxRecDepth 100000 in
theorem specFindCommit_u (cs : Array Value) (x : Bk) (K : List Int) (hK : K32 K) (w : World) (S : Nat → Prop) (h : RBook w S cs x) :
    Calls Try.prog 22 #[.agg cs, .agg (numsA .u8 K)] w fun e w' => e = .returned (.tuple #[.int .i64 (fcR x K).1, .int .i64 (fcR x K).2]) ∧ Ext w w' := by
  obtain ⟨v1, v2, rfl, hr, hr2⟩ := h
  have HE := Lib.hid ((ext_alloc w (.cells #[v1, v2] 51)).alloc (.cells (numsA .u8 K) 53))
  have BK := Lib.hid (Blk.new' (g := w.heap.size + 1) (w := w.alloc (.cells #[v1, v2] 51)) (by simp) 53 (numsA .u8 K))
  have HC := Lib.hid (l07At_any w.heap.size v1 v2 x K hK _ S S ((Blk.new w 51 #[v1, v2]).alloc (.cells (numsA .u8 K) 53)) (hr.ext HE.out) (hr2.ext HE.out))
  have hks := sizeN (k := .u8) hK.1
  obtain ⟨A1, c1, rfl, _⟩ := hr.shape
  obtain ⟨A2, c2, rfl, _⟩ := hr2.shape
  generalize (fcR x K).1 = I at HC ⊢
  generalize (fcR x K).2 = J at HC ⊢
  clear hr hr2 hK
  go_enter Try.func22, Try.ntmps22
  go_wp2_with (refine wpl_loadB BK.out aggKey hks rfl _ rfl rfl ?_)
  refine HC.out.mono ?_
  rintro e w1 ⟨rfl, hx⟩
  have HX := Lib.hid (HE.out.trans hx)
  clear hx HC
  go_wp2
  go_ret2
  exact ⟨rfl, HX.out⟩
set_option maxHeartbeats 2000000 in
set_option maxRecDepth 100000 in
theorem open_any (v1 v2 : Value) (x : Bk) (K : List Int) (hK : K32 K) (gk : Nat) (w : World) (S : Nat → Prop) (hr : RdN nrCommit w S v1 x.1) (hr2 : RdN nrEnts w S v2 x.2) (hk : ∀ j u, (nums .u8 K)[j]? = some u → w.cell? ⟨gk, 0 + j, none⟩ = some u) :
    Calls Try.prog 49 #[.agg #[v1, v2], .slice (some ⟨gk, 0, none⟩) 1 1] w fun q w' => ((okBk x = false ∧ q = .returned (.tuple #[.pointer none, .int .i64 1])) ∨ (okBk x = true ∧ (ksL x.1).contains K = false ∧ q = .returned (.tuple #[.pointer none, .int .i64 6])) ∨ (okBk x = true ∧ (ksL x.1).contains K = true ∧ ∃ lb vk, q = .returned (.tuple #[.pointer (some ⟨lb, 0, none⟩), .int .i64 0]) ∧ Blk w' lb 140 (lgC v1 v2 vk) ∧ RdL tKey w' (fun _ => True) vk (ksL x.1))) ∧ Ext w w' := by
  have HC := Lib.hid (fun W (hW : Ext w W) => newLedger_any v1 v2 x W S S (hr.ext hW) (hr2.ext hW))
  obtain ⟨A1, c1, rfl, _⟩ := hr.shape
  obtain ⟨A2, c2, rfl, _⟩ := hr2.shape
  have HB := Lib.hid (Blk.new w 51 #[.slice A1 x.1.length c1, .slice A2 x.2.length c2])
  have HFD := Lib.hid (fun lb v1 v2 vk W S1 hb hv => lgFind_any lb v1 v2 vk (ksL x.1) K hK W S1 hb hv)
  rw [fdI_pos] at HFD
  generalize fdI (ksL x.1) K = I at HFD
  obtain ⟨B, hB⟩ : ∃ B, (ksL x.1).contains K = B := ⟨_, rfl⟩
  rw [hB] at HFD ⊢
  have HKC := Lib.hid hk
  have hkl := hK.1
  have hstK := St.nums (k := .u8) hkl
  have hszK := sizeN (k := .u8) hkl
  have hnl : (nums .u8 K).length = 32 := by rw [nums_length, hkl]
  have hzA : (Try.prog.info? 53).map (·.zero) = some (some (.agg (numsA .u8 (List.replicate 32 0)))) := by kernel_rfl
  have hzsA : (numsA .u8 (List.replicate 32 0)).size = 32 := by simp [numsA, nums]
  generalize numsA .u8 (List.replicate 32 0) = ZA at hzA hzsA
  clear hr hr2 hK hk hB
  go_enter Try.func49, Try.ntmps49
  go_wp2_with (refine wpl_loadB HB.out aggBookI rfl rfl _ rfl rfl ?_)
  refine (HC.out _ (ext_alloc _ _)).mono ?_
  rintro e w1 ⟨hq, hx⟩
  have HX := Lib.hid ((ext_alloc w _).trans hx)
  clear hx HC
  rcases hq with ⟨h1, rfl⟩ | ⟨h1, lb, vk, rfl, hlb, hvk⟩
  · have H1 := Lib.hid h1
    clear h1
    go_wp2
    go_ret2
    exact ⟨.inl ⟨H1.out, rfl⟩, HX.out⟩
  · have H1 := Lib.hid h1
    have HLB := Lib.hid hlb
    have HVK := Lib.hid hvk
    clear h1 hlb hvk
    go_wp2
    go_loopw [9, 10, 11, 21] (fun _ _ _ i wr => ((i = .int .i64 0) ∨ (i = .int .i64 1 ∧ B = true)) ∧ Ext w1 wr) (fun _ _ _ i _ => 1 - (intOf i).toNat)
    case atStart => exact ⟨.inl rfl, Ext.refl _⟩
    case round =>
      obtain ⟨hi, hx⟩ := hrel
      have HY := Lib.hid hx
      clear hx
      rcases hi with rfl | ⟨rfl, hBt⟩
      · have HKW := Lib.hid (show ∀ j u, (nums .u8 K)[j]? = some u → wr.cell? ((⟨gk, 0, none⟩ : Addr).add j) = some u from fun j u hu => by rw [Addr.add_lit]; exact (HX.out.trans HY.out).cell (HKC.out j u hu))
        have hE := ext_alloc wr (.cells (numsA .u8 K) 53)
        have BN := Lib.hid (Blk.new wr 53 (numsA .u8 K))
        have HZ := Lib.hid (HY.out.trans hE)
        clear hE
        go_wp2_with (first
          | (refine wpl_load ⟨gk, 0, none⟩ (nums .u8 K) (by rw [hnl]; exact aggKey) rfl _ rfl rfl HKW.out ?_)
          | (refine wpl_alloc ZA hzA rfl rfl ?_)
          | (refine wpl_storeNewB aggKey hstK hzsA rfl _ _ rfl rfl rfl rfl ?_)
          | (refine wpl_loadB BN.out aggKey hszK rfl _ rfl rfl ?_))
        refine (HFD.out lb _ _ vk _ _ (HLB.out.ext HZ.out) (HVK.out.ext (by decide) HZ.out)).mono ?_
        rintro e w3 ⟨rfl, hx⟩
        have HZ3 := Lib.hid (HZ.out.trans hx)
        clear hx
        cases B with
        | true =>
          go_wp2
          go_roundw
          case rel => exact ⟨.inr ⟨rfl, by first | trivial | rfl⟩, HZ3.out⟩
          case measure => simp [intOf]
        | false =>
          go_wp2
          go_ret2
          first | exact ⟨.inr ⟨H1.out, rfl⟩, HX.out.trans HZ3.out⟩ | exact ⟨.inr (.inl ⟨H1.out, rfl, rfl⟩), HX.out.trans HZ3.out⟩
      · subst hBt
        go_wp2
        go_ret2
        refine ⟨.inr ⟨H1.out, ?_⟩, HX.out.trans HY.out⟩
        first | exact ⟨lb, rfl, vk, HLB.out.ext HY.out, HVK.out.ext (by decide) HY.out⟩ | exact ⟨lb, vk, rfl, HLB.out.ext HY.out, HVK.out.ext (by decide) HY.out⟩
end Go.Proofs.Ytnklgkmpcochfaa
/- FindCommit, the program. -/
namespace Go.Proofs.Ytnklgkmpcochfaa
open Go.RowKit
set_option linter.unusedVariables false
set_option linter.unusedSimpArgs false
set_option maxHeartbeats 1000000 in
set_option maxRecDepth 100000 in
theorem lgAt_any (lb : Nat) (v1 v2 vk : Value) (ks : List (List Int)) (K : List Int) (hK : K32 K) (w : World) (S : Nat → Prop) (hb : Blk w lb 140 (lgC v1 v2 vk)) (hk : RdL tKey w S vk ks) :
    Calls Try.prog 50 #[.pointer (some ⟨lb, 0, none⟩), .agg (numsA .u8 K)] w fun q w' => q = .returned (.int .i64 (fdI ks K)) ∧ Ext w w' := by
  have HE := Lib.hid (ext_alloc w (.cells (numsA .u8 K) 53))
  have BK := Lib.hid (Blk.new w 53 (numsA .u8 K))
  have HFD := Lib.hid (lgFind_any lb v1 v2 vk ks K hK _ S (hb.ext HE.out) (hk.ext (by decide) HE.out))
  have hks := sizeN (k := .u8) hK.1
  generalize decide (0 ≤ fdI ks K) = B at HFD
  generalize fdI ks K = I at HFD ⊢
  clear hb hk hK
  go_enter Try.func50, Try.ntmps50
  go_wp2_with (refine wpl_loadB BK.out aggKey hks rfl _ rfl rfl ?_)
  refine HFD.out.mono ?_
  rintro e w1 ⟨rfl, hx⟩
  have HX := Lib.hid (HE.out.trans hx)
  clear hx HFD
  go_wp2
  go_ret
  exact ⟨rfl, HX.out⟩
set_option maxHeartbeats 2000000 in
set_option maxRecDepth 100000 in
theorem implFindCommit_u (cs : Array Value) (x : Bk) (K : List Int) (hK : K32 K) (w : World) (S : Nat → Prop) (h : RBook w S cs x) :
    Calls Try.prog 25 #[.agg cs, .agg (numsA .u8 K)] w fun e w' => e = .returned (.tuple #[.int .i64 (fcR x K).1, .int .i64 (fcR x K).2]) ∧ Ext w w' := by
  obtain ⟨v1, v2, rfl, hr, hr2⟩ := h
  obtain ⟨A1, c1, rfl, _⟩ := hr.shape
  obtain ⟨A2, c2, rfl, _⟩ := hr2.shape
  have HE := Lib.hid ((ext_alloc w (.cells #[.slice A1 x.1.length c1, .slice A2 x.2.length c2] 51)).alloc (.cells (numsA .u8 K) 53))
  have BB := Lib.hid ((Blk.new w 51 #[.slice A1 x.1.length c1, .slice A2 x.2.length c2]).alloc (.cells (numsA .u8 K) 53))
  have BK := Lib.hid (Blk.new' (g := w.heap.size + 1) (w := w.alloc (.cells #[.slice A1 x.1.length c1, .slice A2 x.2.length c2] 51)) (by simp) 53 (numsA .u8 K))
  have HR := Lib.hid hr
  have HR2 := Lib.hid hr2
  have HK := Lib.hid hK
  have HKT := Lib.hid (show tKey.ok K from hK)
  have hks := sizeN (k := .u8) hK.1
  have HFC := Lib.hid (show fcR x K = if okBk x then (if (ksL x.1).contains K then (fdI (ksL x.1) K, 0) else (0, 6)) else (0, 1) from rfl)
  clear hr hr2 hK
  go_enter Try.func25, Try.ntmps25
  go_wp2_with (first
    | (refine wpl_loadB BB.out aggBookI rfl rfl _ rfl rfl ?_)
    | (refine wpl_loadB BK.out aggKey hks rfl _ rfl rfl ?_)
    | (refine wpl_one rowKeyL (by decide) K HKT.out rfl _ rfl rfl ?_))
  have hsz : ((w.alloc (.cells #[.slice A1 x.1.length c1, .slice A2 x.2.length c2] 51)).alloc (.cells (numsA .u8 K) 53)).heap.size = w.heap.size + 1 + 1 := by simp
  generalize (w.alloc (.cells #[.slice A1 x.1.length c1, .slice A2 x.2.length c2] 51)).alloc (.cells (numsA .u8 K) 53) = w1 at HE BK BB hsz ⊢
  have hE := ext_alloc w1 (.cells (tKey.enc K).toArray 53)
  have HE2 := Lib.hid (HE.out.trans hE)
  have BK2 := Lib.hid (BK.out.ext hE)
  have BL := Lib.hid (Blk.new' (g := w.heap.size + 1 + 1) (w := w1) (by omega) 53 (tKey.enc K).toArray)
  clear hE BK BB
  refine (open_any _ _ x K HK.out (w.heap.size + 1 + 1) _ S (HR.out.ext HE2.out) (HR2.out.ext HE2.out) (fun j u hu => by rw [BL.out.cell, Nat.zero_add]; simpa [tKey] using hu)).mono ?_
  rintro e w2 ⟨hq, hx⟩
  have HX := Lib.hid (HE2.out.trans hx)
  have BK3 := Lib.hid (BK2.out.ext hx)
  clear hx BK2 BL
  rcases hq with ⟨h1, rfl⟩ | ⟨h1, h2, rfl⟩ | ⟨h1, h2, lb, vk, rfl, hlb, hvk⟩
  · have e : fcR x K = (0, 1) := by rw [HFC.out, h1]; rfl
    have HEQ := Lib.hid e
    clear e h1
    go_wp2
    go_ret2
    exact ⟨by rw [HEQ.out]; rfl, HX.out⟩
  · have e : fcR x K = (0, 6) := by rw [HFC.out, h1, h2]; rfl
    have HEQ := Lib.hid e
    clear e h1 h2
    go_wp2
    go_ret2
    exact ⟨by rw [HEQ.out]; rfl, HX.out⟩
  · have e : fcR x K = (fdI (ksL x.1) K, 0) := by rw [HFC.out, h1, h2]; rfl
    have HEQ := Lib.hid e
    have HAT := Lib.hid (lgAt_any lb _ _ vk (ksL x.1) K HK.out w2 _ hlb hvk)
    clear e h1 h2 hlb hvk
    go_wp2_with (refine wpl_loadB BK3.out aggKey hks rfl _ rfl rfl ?_)
    refine HAT.out.mono ?_
    rintro e w3 ⟨rfl, hx⟩
    have HX3 := Lib.hid (HX.out.trans hx)
    clear hx HAT
    go_wp2
    go_ret2
    exact ⟨by rw [HEQ.out]; rfl, HX3.out⟩
end Go.Proofs.Ytnklgkmpcochfaa
/- The walk of the law FnExactFindCommit. No condition. -/
namespace Go.Proofs.Ytnklgkmpcochfaa
open Go.RowKit
set_option linter.unusedVariables false
set_option linter.unusedSimpArgs false

set_option maxHeartbeats 1000000 in
set_option maxRecDepth 100000 in
theorem FnExactFindCommit_any (w : World) (cs0 : Array Value) (x0 : Bk) (S0 : Nat → Prop) (h0 : RBook w S0 cs0 x0) (x1 : List Int) (hk1 : K32 x1) :
    Calls Try.prog 6 #[.agg cs0, .agg (numsA .u8 x1)] w fun e w' => e = .returned (.bool true) ∧ Ext w w' := by
  have H0 := Lib.hid h0
  clear h0
  have hn0 := H0.out.st.size
  have Hs0 := Lib.hid H0.out.st
  have hn1 : ((numsA .u8 x1) : Array Value).size = 32 := sizeN hk1.1
  by_cases hz0 : (1048576 - (wBook x0 : Nat) : Int) < 0
  · go_enter Try.func6, Try.ntmps6
    go_wp2_with (first | (refine wpl_loadB ((Blk.new' (g := w.heap.size) (w := w) (by simp) 44 cs0).alloc _) aggBookL hn0 rfl _ rfl rfl ?_) | (refine wpl_loadB (Blk.new' (g := w.heap.size + 1) (w := (World.alloc w _)) (by simp) 45 (numsA .u8 x1)) aggB32 hn1 rfl _ rfl rfl ?_))
    refine (szBook_u _ x0 (1048576) _ _ (H0.out.ext ((ext_alloc _ _).alloc _)) (by omega) (by omega)).mono ?_
    rintro e w1 ⟨rfl, hx⟩
    rw [if_pos (by omega)]
    have B0 := Lib.hid (((Blk.new' (g := w.heap.size) (w := w) (by simp) 44 cs0).alloc _).ext hx)
    have B1 := Lib.hid ((Blk.new' (g := w.heap.size + 1) (w := (World.alloc w _)) (by simp) 45 (numsA .u8 x1)).ext hx)
    have XW := Lib.hid (((ext_alloc _ _).alloc _).trans hx)
    clear hx
    go_wp2_with (first | (refine wpl_loadB B0.out aggBookL hn0 rfl _ rfl rfl ?_) | (refine wpl_loadB B1.out aggB32 hn1 rfl _ rfl rfl ?_))
    go_ret
    exact ⟨rfl, XW.out⟩
  have hln0 : smallBook x0 := smallBook_of (by omega)
  obtain ⟨I, J, hR⟩ : ∃ I J, fcR x0 x1 = (I, J) := ⟨_, _, rfl⟩
  have HR := Lib.hid hR
  clear hR
  have hq1 : (I != I) = false := by simp
  have hq2 : (J != J) = false := by simp
  go_enter Try.func6, Try.ntmps6
  go_wp2_with (first | (refine wpl_loadB ((Blk.new' (g := w.heap.size) (w := w) (by simp) 44 cs0).alloc _) aggBookL hn0 rfl _ rfl rfl ?_) | (refine wpl_loadB (Blk.new' (g := w.heap.size + 1) (w := (World.alloc w _)) (by simp) 45 (numsA .u8 x1)) aggB32 hn1 rfl _ rfl rfl ?_))
  refine (szBook_u _ x0 (1048576) _ _ (H0.out.ext ((ext_alloc _ _).alloc _)) (by omega) (by omega)).mono ?_
  rintro e w1 ⟨rfl, hx⟩
  rw [if_neg (by omega)]
  have B0 := Lib.hid (((Blk.new' (g := w.heap.size) (w := w) (by simp) 44 cs0).alloc _).ext hx)
  have B1 := Lib.hid ((Blk.new' (g := w.heap.size + 1) (w := (World.alloc w _)) (by simp) 45 (numsA .u8 x1)).ext hx)
  have XW := Lib.hid (((ext_alloc _ _).alloc _).trans hx)
  clear hx
  go_wp2_with (first | (refine wpl_loadB B0.out aggBookL hn0 rfl _ rfl rfl ?_) | (refine wpl_loadB B1.out aggB32 hn1 rfl _ rfl rfl ?_))
  refine wp_region_held_drew (S := fun W => Ext w1 W) (by kernel_rfl) (Ext.refl _).drew (fun hHeld => ?_)
  refine tkI 0 (v := (.agg cs0)) (by simp only [List.getElem?_toArray, List.getElem?_cons_zero, List.getElem?_cons_succ]; rfl) (by kernel_rfl) (by exact fun _ _ _ h => h) (by refine yields_loadB B0.out aggBookL hn0 ?_ _ rfl rfl; rfl) (by assumption) ?_
  try simp only [Act.put, List.setIfInBounds_toArray, List.set_cons_zero, List.set_cons_succ]
  refine tkI 2 (v := (.agg (numsA .u8 x1))) (by simp only [List.getElem?_toArray, List.getElem?_cons_zero, List.getElem?_cons_succ]; rfl) (by kernel_rfl) (by exact fun _ _ _ h => h) (by refine yields_loadB B1.out aggB32 hn1 ?_ _ rfl rfl; rfl) (by assumption) ?_
  try simp only [Act.put, List.setIfInBounds_toArray, List.set_cons_zero, List.set_cons_succ]
  refine wpAnyH_ready (rs := [1]) (by kernel_rfl) (by simp) (AllReadyH.cons (o := ?oy3) ?hy3 (fun K hK => ?sy3) AllReadyH.nil)
  case hy3 => simp only [List.getElem?_toArray, List.getElem?_cons_zero, List.getElem?_cons_succ]; rfl
  go_simp
  refine (toBook_u _ x0 _ _ (H0.out.ext (XW.out.trans hHeld)) hln0).mono ?_
  rintro e w2 ⟨vs0, rfl, ho, hx⟩
  have Os0 := Lib.hid ho
  clear ho
  have hH2 := hHeld.trans hx
  refine hK.out _ _ hH2 (fun _ => ?_)
  clear hHeld hK K
  have hHeld := hH2
  clear hH2
  try simp only [Act.put, List.setIfInBounds_toArray, List.set_cons_zero, List.set_cons_succ]
  refine wpAnyH_ready (rs := [3]) (by kernel_rfl) (by simp) (AllReadyH.cons (o := ?oy4) ?hy4 (fun K hK => ?sy4) AllReadyH.nil)
  case hy4 => simp only [List.getElem?_toArray, List.getElem?_cons_zero, List.getElem?_cons_succ]; rfl
  go_simp
  refine (toKey_any x1 hk1 _).mono ?_
  rintro e w3 ⟨rfl, hx⟩
  replace Os0 := Lib.hid (Os0.out.ext hx)
  have hH2 := hHeld.trans hx
  refine hK.out _ _ hH2 (fun _ => ?_)
  clear hHeld hK K
  have hHeld := hH2
  clear hH2
  try simp only [Act.put, List.setIfInBounds_toArray, List.set_cons_zero, List.set_cons_succ]
  refine wpAnyH_ready (rs := [4]) (by kernel_rfl) (by simp) (AllReadyH.cons (o := ?oy5) ?hy5 (fun K hK => ?sy5) AllReadyH.nil)
  case hy5 => simp only [List.getElem?_toArray, List.getElem?_cons_zero, List.getElem?_cons_succ]; rfl
  go_simp
  refine (specFindCommit_u _ x0 x1 hk1 _ _ Os0.out).mono ?_
  rintro e w4 ⟨he, hx⟩
  rw [HR.out] at he
  subst he
  clear Os0
  have hH2 := hHeld.trans hx
  refine hK.out _ _ hH2 (fun _ => ?_)
  clear hHeld hK K
  have hHeld := hH2
  clear hH2
  try simp only [Act.put, List.setIfInBounds_toArray, List.set_cons_zero, List.set_cons_succ]
  iterate 5
    refine tkD 0 (by simp only [List.size_toArray, List.length_cons, List.length_nil]; rfl) (by simp only [List.getElem?_toArray, List.getElem?_cons_zero, List.getElem?_cons_succ]; rfl) (by kernel_rfl) (by exact fun _ _ _ h => h) (by first | (exact Or.inl ⟨by rfl, by intro w hSw; (try dsimp only at hSw); go_simp; with_reducible rfl⟩) | (exact Or.inr ⟨by rfl, by rfl⟩)) (by assumption) ?_
    try simp only [Act.put, List.setIfInBounds_toArray, List.set_cons_zero, List.set_cons_succ]
  refine wpAnyH_done (by kernel_rfl) ?_ _
  replace B0 := Lib.hid (B0.out.ext hHeld)
  replace B1 := Lib.hid (B1.out.ext hHeld)
  replace XW := Lib.hid (XW.out.trans hHeld)
  clear hHeld
  go_wp2_with (first | (refine wpl_loadB B0.out aggBookL hn0 rfl _ rfl rfl ?_) | (refine wpl_loadB B1.out aggB32 hn1 rfl _ rfl rfl ?_))
  refine (toBook_u _ x0 _ _ (H0.out.ext XW.out) hln0).mono ?_
  rintro e w5 ⟨vx0, rfl, ho, hx⟩
  replace B0 := Lib.hid (B0.out.ext hx)
  replace B1 := Lib.hid (B1.out.ext hx)
  replace XW := Lib.hid (XW.out.trans hx)
  have Ox0 := Lib.hid ho
  clear ho
  have Znx0 := Ox0.out.st.size
  have Zsx0 := Lib.hid Ox0.out.st
  clear hx
  go_wp2_with (first | (refine wpl_storeNewB aggBookI Zsx0.out rfl rfl _ _ rfl rfl rfl rfl ?_) | (refine wpl_loadB (Blk.new w5 51 vx0) aggBookI Znx0 rfl _ rfl rfl ?_) | (refine wpl_loadB B0.out aggBookL hn0 rfl _ rfl rfl ?_) | (refine wpl_loadB (B0.out.alloc _) aggBookL hn0 rfl _ rfl rfl ?_) | (refine wpl_loadB B1.out aggB32 hn1 rfl _ rfl rfl ?_) | (refine wpl_loadB (B1.out.alloc _) aggB32 hn1 rfl _ rfl rfl ?_))
  have hE := ext_alloc w5 (.cells vx0 51)
  replace Ox0 := Lib.hid (Ox0.out.ext hE)
  replace B0 := Lib.hid (B0.out.ext hE)
  replace B1 := Lib.hid (B1.out.ext hE)
  replace XW := Lib.hid (XW.out.trans hE)
  have Vx0 := Lib.hid (Blk.new w5 51 vx0)
  clear hE
  generalize World.alloc w5 (.cells vx0 51) = w6 at Vx0 Ox0 B0 B1 XW ⊢
  refine wp_region_held_drew (S := fun W => Ext w6 W) (by kernel_rfl) (Ext.refl _).drew (fun hHeld => ?_)
  refine tkI 0 (v := (.agg vx0)) (by simp only [List.getElem?_toArray, List.getElem?_cons_zero, List.getElem?_cons_succ]; rfl) (by kernel_rfl) (by exact fun _ _ _ h => h) (by refine yields_loadB Vx0.out aggBookI Znx0 ?_ _ rfl rfl; rfl) (by assumption) ?_
  try simp only [Act.put, List.setIfInBounds_toArray, List.set_cons_zero, List.set_cons_succ]
  refine tkI 1 (v := (.agg (numsA .u8 x1))) (by simp only [List.getElem?_toArray, List.getElem?_cons_zero, List.getElem?_cons_succ]; rfl) (by kernel_rfl) (by exact fun _ _ _ h => h) (by refine yields_loadB B1.out aggB32 hn1 ?_ _ rfl rfl; rfl) (by assumption) ?_
  try simp only [Act.put, List.setIfInBounds_toArray, List.set_cons_zero, List.set_cons_succ]
  refine wpAnyH_ready (rs := [2]) (by kernel_rfl) (by simp) (AllReadyH.cons (o := ?oy13) ?hy13 (fun K hK => ?sy13) AllReadyH.nil)
  case hy13 => simp only [List.getElem?_toArray, List.getElem?_cons_zero, List.getElem?_cons_succ]; rfl
  go_simp
  refine (toKey_any x1 hk1 _).mono ?_
  rintro e w7 ⟨rfl, hx⟩
  have hH2 := hHeld.trans hx
  refine hK.out _ _ hH2 (fun _ => ?_)
  clear hHeld hK K
  have hHeld := hH2
  clear hH2
  try simp only [Act.put, List.setIfInBounds_toArray, List.set_cons_zero, List.set_cons_succ]
  refine wpAnyH_ready (rs := [3]) (by kernel_rfl) (by simp) (AllReadyH.cons (o := ?oy14) ?hy14 (fun K hK => ?sy14) AllReadyH.nil)
  case hy14 => simp only [List.getElem?_toArray, List.getElem?_cons_zero, List.getElem?_cons_succ]; rfl
  go_simp
  refine (implFindCommit_u _ x0 x1 hk1 _ _ (Ox0.out.ext hHeld)).mono ?_
  rintro e w8 ⟨he, hx⟩
  rw [HR.out] at he
  subst he
  have hH2 := hHeld.trans hx
  refine hK.out _ _ hH2 (fun _ => ?_)
  clear hHeld hK K
  have hHeld := hH2
  clear hH2
  try simp only [Act.put, List.setIfInBounds_toArray, List.set_cons_zero, List.set_cons_succ]
  iterate 5
    refine tkD 0 (by simp only [List.size_toArray, List.length_cons, List.length_nil]; rfl) (by simp only [List.getElem?_toArray, List.getElem?_cons_zero, List.getElem?_cons_succ]; rfl) (by kernel_rfl) (by exact fun _ _ _ h => h) (by first | (exact Or.inl ⟨by rfl, by intro w hSw; (try dsimp only at hSw); go_simp; with_reducible rfl⟩) | (exact Or.inr ⟨by rfl, by rfl⟩)) (by assumption) ?_
    try simp only [Act.put, List.setIfInBounds_toArray, List.set_cons_zero, List.set_cons_succ]
  refine wpAnyH_done (by kernel_rfl) ?_ _
  replace Ox0 := Lib.hid (Ox0.out.ext hHeld)
  replace B0 := Lib.hid (B0.out.ext hHeld)
  replace B1 := Lib.hid (B1.out.ext hHeld)
  replace Vx0 := Lib.hid (Vx0.out.ext hHeld)
  replace XW := Lib.hid (XW.out.trans hHeld)
  clear hHeld
  go_wp2_with (first | (refine wpl_loadB B0.out aggBookL hn0 rfl _ rfl rfl ?_) | (refine wpl_loadB B1.out aggB32 hn1 rfl _ rfl rfl ?_) | (refine wpl_loadB Vx0.out aggBookI Znx0 rfl _ rfl rfl ?_))
  refine wp_region_held_drew (S := fun W => Ext w8 W) (by kernel_rfl) (Ext.refl _).drew (fun hHeld => ?_)
  refine tkI 0 (v := (.agg vx0)) (by simp only [List.getElem?_toArray, List.getElem?_cons_zero, List.getElem?_cons_succ]; rfl) (by kernel_rfl) (by exact fun _ _ _ h => h) (by refine yields_loadB Vx0.out aggBookI Znx0 ?_ _ rfl rfl; rfl) (by assumption) ?_
  try simp only [Act.put, List.setIfInBounds_toArray, List.set_cons_zero, List.set_cons_succ]
  refine tkI 1 (v := (.agg cs0)) (by simp only [List.getElem?_toArray, List.getElem?_cons_zero, List.getElem?_cons_succ]; rfl) (by kernel_rfl) (by exact fun _ _ _ h => h) (by refine yields_loadB B0.out aggBookL hn0 ?_ _ rfl rfl; rfl) (by assumption) ?_
  try simp only [Act.put, List.setIfInBounds_toArray, List.set_cons_zero, List.set_cons_succ]
  refine wpAnyH_ready (rs := [2]) (by kernel_rfl) (by simp) (AllReadyH.cons (o := ?oy22) ?hy22 (fun K hK => ?sy22) AllReadyH.nil)
  case hy22 => simp only [List.getElem?_toArray, List.getElem?_cons_zero, List.getElem?_cons_succ]; rfl
  go_simp
  refine (toBook_u _ x0 _ _ (H0.out.ext (XW.out.trans hHeld)) hln0).mono ?_
  rintro e w9 ⟨vy0, rfl, ho, hx⟩
  have hH2 := hHeld.trans hx
  refine hK.out _ _ hH2 (fun _ => ?_)
  clear hHeld hK K
  have hHeld := hH2
  clear hH2
  try simp only [Act.put, List.setIfInBounds_toArray, List.set_cons_zero, List.set_cons_succ]
  refine wpAnyH_ready (rs := [3]) (by kernel_rfl) (by simp) (AllReadyH.cons (o := ?oy23) ?hy23 (fun K hK => ?sy23) AllReadyH.nil)
  case hy23 => simp only [List.getElem?_toArray, List.getElem?_cons_zero, List.getElem?_cons_succ]; rfl
  go_simp
  refine (eqBook_u _ _ x0 _ _ _ (Ox0.out.ext hHeld) ho).mono ?_
  rintro e w10 ⟨rfl, hx⟩
  have hH2 := hHeld.trans hx
  refine hK.out _ _ hH2 (fun _ => ?_)
  clear hHeld hK K
  have hHeld := hH2
  clear hH2
  try simp only [Act.put, List.setIfInBounds_toArray, List.set_cons_zero, List.set_cons_succ]
  refine tkI 4 (by simp only [List.getElem?_toArray, List.getElem?_cons_zero, List.getElem?_cons_succ]; rfl) (by kernel_rfl) (by exact fun _ _ _ h => h) (by first | (exact Or.inl ⟨by rfl, by intro w hSw; (try dsimp only at hSw); go_simp; with_reducible rfl⟩) | (exact Or.inr ⟨by rfl, by rfl⟩)) (by assumption) ?_
  try simp only [Act.put, List.setIfInBounds_toArray, List.set_cons_zero, List.set_cons_succ]
  refine wpAnyH_done (by kernel_rfl) ?_ _
  replace Ox0 := Lib.hid (Ox0.out.ext hHeld)
  replace B0 := Lib.hid (B0.out.ext hHeld)
  replace B1 := Lib.hid (B1.out.ext hHeld)
  replace Vx0 := Lib.hid (Vx0.out.ext hHeld)
  replace XW := Lib.hid (XW.out.trans hHeld)
  clear hHeld
  go_wp2_with (first | (refine wpl_loadB B0.out aggBookL hn0 rfl _ rfl rfl ?_) | (refine wpl_loadB B1.out aggB32 hn1 rfl _ rfl rfl ?_) | (refine wpl_loadB Vx0.out aggBookI Znx0 rfl _ rfl rfl ?_))
  go_ret
  exact ⟨rfl, XW.out⟩
end Go.Proofs.Ytnklgkmpcochfaa
/- A list of entries as an argument. No condition. -/
namespace Go.Proofs.Ytnklgkmpcochfaa
open Go.RowKit
theorem c_ent : ∀ {w : World} {S : Nat → Prop} (es : List Value) (x : ByteArray × ByteArray), cPair cStr cStr w S es x → es = tEnt.enc x ∧ tEnt.ok x := by
  rintro w S es x ⟨c1, c2, rfl, ⟨rfl, h1⟩, rfl, h2⟩
  exact ⟨rfl, h1, h2⟩
end Go.Proofs.Ytnklgkmpcochfaa
/- A book as an argument. No condition. -/
namespace Go.Proofs.Ytnklgkmpcochfaa
open Go.RowKit
set_option linter.unusedVariables false
/-- a slice whose elements hold slices -/
theorem rdn_of9 {α β : Type} {N : NR β} {c : Cd α} {w : World} {S : Nat → Prop} {v : Value} {xs : List α} (f : α → β) (hc : ∀ es x, c w S es x → es.length = N.sz → N.R w S es.toArray (f x)) (h : cSl N.sz c w S [v] xs) : RdN N w S v (xs.map f) := by
  obtain ⟨A, cap, hv, h1, h2, h3⟩ := h
  obtain rfl : v = .slice A xs.length cap := by simpa using hv
  refine ⟨A, cap, by rw [List.length_map], by rw [List.length_map]; exact h1, by rw [List.length_map]; omega, fun hn => ?_⟩
  rw [List.length_map] at hn
  obtain ⟨g, o, e, hS, h4⟩ := h3 hn
  refine ⟨g, o, e, hS, fun i hi => ?_⟩
  rw [List.length_map] at hi
  obtain ⟨es, h5, h6, h7⟩ := h4 i hi
  exact ⟨es, h5, h6, by rw [List.getElem_map]; exact hc es _ h7 h5⟩
abbrev CmT := List Int × List (List Int) × Int × ByteArray
def cmOf (x : CmT) : Cm := ⟨x.1, x.2.1, x.2.2.1, x.2.2.2⟩
theorem rdn_commits {w : World} {S : Nat → Prop} {v : Value} {xs : List CmT} (h : cSl 35 (cPair (cArr8 32) (cPair (cSl 32 (cArr8 32)) (cPair (cInt .i64) cStr))) w S [v] xs) : RdN nrCommit w S v (xs.map cmOf) := by
  refine rdn_of9 (N := nrCommit) cmOf (fun es x hx _ => ?_) h
  obtain ⟨c1, c2, rfl, ⟨h1, hl, hb⟩, c3, c4, rfl, hpar, c5, c6, rfl, ⟨h5, hnum⟩, h6, hnote⟩ := hx
  obtain ⟨A, cap, rfl, _⟩ := id hpar
  subst h1 h5 h6
  exact ⟨_, by simp [Cm.cells, cmOf], rdl_of (T := tKey) c_key hpar, ⟨hl, hb⟩, hnum, hnote⟩
theorem rdn_ents {w : World} {S : Nat → Prop} {v : Value} {xs : List Ens} (h : cSl 1 (cSl 2 (cPair cStr cStr)) w S [v] xs) : RdN nrEnts w S v xs := by
  have := rdn_of9 (N := nrEnts) (f := fun x : Ens => x) (fun es x hx _ => by
    obtain ⟨A, cap, rfl, _⟩ := id hx
    exact ⟨_, rfl, rdl_of (T := tEnt) c_ent hx⟩) h
  simpa using this
end Go.Proofs.Ytnklgkmpcochfaa
