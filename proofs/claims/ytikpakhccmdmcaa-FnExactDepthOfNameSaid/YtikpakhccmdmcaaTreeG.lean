/- The tree of a map: the program's, and its key. No condition. -/
import Derived.Test.YtikpakhccmdmcaaTreeS
import Derived.Test.YtikpakhccmdmcaaNodeU
namespace Go.Proofs.Ytikpakhccmdmcaa
open Go.RowKit
set_option linter.unusedVariables false
set_option linter.unusedSimpArgs false

/-- v points to the tree T -/
def TrAt (w : World) : Value → Tr → Prop
  | v, .leaf => v = .pointer none
  | v, .node x l r => ∃ g pl pr, v = .pointer (some ⟨g, 0, none⟩) ∧ Blk w g 131 (x.enc ++ [pl, pr]).toArray ∧ TrAt w pl l ∧ TrAt w pr r
theorem TrAt.ext {w w' : World} {v : Value} {T : Tr} (h : TrAt w v T) (e : Ext w w') : TrAt w' v T := by
  induction T generalizing v with
  | leaf => exact h
  | node x l r il ir =>
    obtain ⟨g, pl, pr, h1, h2, h3, h4⟩ := h
    exact ⟨g, pl, pr, h1, h2.ext e, il h3, ir h4⟩
theorem TrAt.ptr {w : World} {v : Value} {T : Tr} (h : TrAt w v T) : ∃ p, v = .pointer p := by
  cases T with
  | leaf => exact ⟨_, h⟩
  | node x l r =>
    obtain ⟨g, pl, pr, h1, _⟩ := h
    exact ⟨_, h1⟩
theorem enc_in (x : Nd) (a b : Value) (j : Nat) (u : Value) (hu : x.enc.toArray[j]? = some u) : (x.enc ++ [a, b]).toArray[0 + j]? = some u := by
  rw [Nat.zero_add, List.getElem?_toArray] at *
  have hj := (List.getElem?_eq_some_iff.1 hu).1
  rw [List.getElem?_append_left hj]
  exact hu
def zTr : List Value := zNd ++ [Value.pointer none, Value.pointer none]
theorem built_tree (p q : Option Addr) : Try.prog.built 131 [(1, .pointer p), (2, .pointer q)] = some (zNd ++ [Value.pointer p, Value.pointer q]).toArray := by
  have hb : ∀ parts, Try.prog.built 131 parts = Instr.fill (fun i => #[(0, 66), (66, 1), (67, 1)][i]?) zTr.toArray parts := fun parts => by kernel_rfl
  have e1 : splice zTr.toArray 66 [.pointer p] = (zNd ++ [Value.pointer p] ++ [Value.pointer none]).toArray := by
    have := splice_next zNd [Value.pointer none, Value.pointer none] [.pointer p] (o := 66) rfl
    exact this
  have e2 : splice (zNd ++ [Value.pointer p] ++ [Value.pointer none]).toArray 67 [.pointer q] = (zNd ++ [Value.pointer p, Value.pointer q]).toArray := by
    have := splice_next (zNd ++ [Value.pointer p]) [.pointer none] [.pointer q] (o := 67) rfl
    rw [show ([Value.pointer none]).drop ([Value.pointer q]).length = [] from rfl, List.append_nil, List.append_assoc] at this
    exact this
  have c1 : (Value.pointer p).cells.toList = [.pointer p] := rfl
  have c2 : (Value.pointer q).cells.toList = [.pointer q] := rfl
  have z1 : zTr.length = 68 := rfl
  rw [hb, fill_one _ _ 1 66 1 _ _ rfl rfl (by rw [List.size_toArray, z1]; decide), c1, e1, fill_one _ _ 2 67 1 _ _ rfl rfl (by rw [List.size_toArray, List.length_append, List.length_append]; exact Nat.le_refl 68), c2, e2, Instr.fill]
set_option maxHeartbeats 1000000 in
set_option maxRecDepth 100000 in
theorem treeKey_any (T : Tr) (hok : T.ok) (v : Value) (w : World) (h : TrAt w v T) : Calls Try.prog 81 #[v] w fun e w' => e = .returned (.agg (numsA .u8 T.key)) ∧ Ext w w' := by
  cases T with
  | leaf =>
    obtain rfl := h
    have hk := emptyL_ok.1
    show Calls Try.prog 81 #[.pointer none] w fun e w' => e = .returned (.agg (numsA .u8 emptyL)) ∧ Ext w w'
    go_enter Try.func81, Try.ntmps81
    go_wp2_with fail
    refine (implEmptyMapKey_any _).mono ?_
    rintro e w1 ⟨rfl, hx⟩
    have B2 := Lib.hid ((Blk.new w 45 _).ext hx)
    have XW := Lib.hid ((ext_alloc w _).trans hx)
    clear hx
    go_wp2_with (refine wpl_storeN B2.out aggKey hk rfl rfl _ _ rfl rfl rfl rfl ?_)
    refine bodyPost_ret (results_blk rfl _ rfl aggKey hk (B2.out.setRow _)) rfl ?_
    exact ⟨rfl, XW.out.setRow (Nat.le_refl _) _⟩
  | node x l r =>
    obtain ⟨g, pl, pr, rfl, hb, _⟩ := h
    obtain ⟨hx0, he, _⟩ := hok
    have HB := Lib.hid hb
    have HX0 := Lib.hid hx0
    have HE := Lib.hid he
    have hk := (hashL_ok 5 (nodeL x)).1
    have hsz := (Nd.st hx0).size
    clear hb hx0 he
    show Calls Try.prog 81 #[.pointer (some ⟨g, 0, none⟩)] w fun e w' => e = .returned (.agg (numsA .u8 (hashL 5 (nodeL x)))) ∧ Ext w w'
    go_enter Try.func81, Try.ntmps81
    go_wp2_with (refine wpl_loadP (off := 0) (sub := x.enc.toArray) (HB.out.alloc _) aggNodeI hsz (enc_in x pl pr) rfl _ rfl rfl ?_)
    refine (nodeKey_any x HX0.out HE.out _).mono ?_
    rintro e w1 ⟨rfl, hx⟩
    have B2 := Lib.hid ((Blk.new w 45 _).ext hx)
    have XW := Lib.hid ((ext_alloc w _).trans hx)
    clear hx
    go_wp2_with (refine wpl_storeN B2.out aggKey hk rfl rfl _ _ rfl rfl rfl rfl ?_)
    refine bodyPost_ret (results_blk rfl _ rfl aggKey hk (B2.out.setRow _)) rfl ?_
    exact ⟨rfl, XW.out.setRow (Nat.le_refl _) _⟩
def mapKR (L : List En) : List Int × Int := if okE L then ((trF L.length L).key, 0) else (List.replicate 32 0, 1)
theorem mapKR_ok (L : List En) : K32 (mapKR L).1 := by unfold mapKR; split; exact Tr.key_ok _; exact zero_ok
/-- the tree that grows of entries with their priorities -/
def GrowC (f : Nat) : Prop := ∀ (v u : Value) (L : List En), L.length ≤ f → L.length ≤ 64 → good L → ∀ (w : World) (S S' : Nat → Prop), RdL tEnt w S v L → RdL tKey w S' u (prios L) →
    Calls Try.prog 95 #[v, u] w fun e w' => ∃ v', e = .returned v' ∧ TrAt w' v' (trF f L) ∧ Ext w w'
set_option maxHeartbeats 1000000 in
set_option maxRecDepth 100000 in
theorem grow_nil (f : Nat) (v u : Value) (L : List En) (h0 : L.length = 0) (w : World) (S S' : Nat → Prop) (h : RdL tEnt w S v L) (h' : RdL tKey w S' u (prios L)) :
    Calls Try.prog 95 #[v, u] w fun e w' => ∃ v', e = .returned v' ∧ TrAt w' v' (trF f L) ∧ Ext w w' := by
  rw [trF_nil _ _ h0]
  obtain ⟨A, cap, rfl, hcap, hlen, _⟩ := h
  obtain ⟨A', cap', rfl, hcap', hlen', _⟩ := h'
  rw [h0]
  clear h0 hcap hlen hcap' hlen'
  go_enter Try.func95, Try.ntmps95
  go_wp2
  go_ret
  exact ⟨_, rfl, rfl, Ext.refl _⟩
theorem yields_loadS {P : Program} {ops : Array Oper} {op : Oper} {a : Act} {S : World → Prop} {t : Nat} (g o : Nat) (cs : List Value) (ht : Agg P t cs.length) (hc : ∀ W, S W → ∀ j u, cs[j]? = some u → W.cell? ⟨g, o + j, none⟩ = some u) (hw : Region.wanted op (yielded ops a.tmps) = true) (x : Operand) (ho : op.op = .load t x) (hx : a.eval x = .pointer (some ⟨g, o, none⟩)) :
    YieldsIf P ops S op (.agg cs.toArray) a := Or.inl ⟨hw, fun W hW => by
  have hl := run_loadVar_at (P := P) (w := W) (t := t) ⟨g, o, none⟩ cs ht (fun j u hu => by rw [Addr.add_lit]; exact hc W hW j u hu)
  unfold execOp
  simp only [ho, hx, Instr.loadAt, Instr.sureAddr, Sem.run_bind, Sem.run_pure, Result.andThen_ok, hl]⟩
theorem enc_66 {x : Nd} (h : x.ok) (p q : Value) : (x.enc ++ [p, q]).toArray[66]? = some p := by
  rw [List.getElem?_toArray, List.getElem?_append_right (by rw [Nd.enc_length h]; decide), Nd.enc_length h]; rfl
theorem enc_67 {x : Nd} (h : x.ok) (p q : Value) : (x.enc ++ [p, q]).toArray[67]? = some q := by
  rw [List.getElem?_toArray, List.getElem?_append_right (by rw [Nd.enc_length h]; decide), Nd.enc_length h]; rfl
theorem splice_tr {x : Nd} (h : x.ok) (p q : Value) : splice (zNd ++ [p, q]).toArray 0 x.enc.toArray.toList = (x.enc ++ [p, q]).toArray := by
  have := splice_next [] (zNd ++ [p, q]) x.enc (o := 0) rfl
  rw [Nd.enc_length h, show (zNd ++ [p, q]).drop 66 = [p, q] from rfl] at this
  simpa using this
theorem RdL.headN {α : Type} {T : Ty α} {w : World} {S : Nat → Prop} {A : Option Addr} {xs : List α} {n cap : Nat} (h : RdL T w S (.slice A n cap) xs) (hn : n = xs.length) {k : Nat} (hk : k ≤ n) : RdL T w S (.slice A k cap) (xs.take k) := by
  subst hn; exact h.head hk
theorem RdL.cutN {α : Type} {T : Ty α} {w : World} {S : Nat → Prop} {A : Option Addr} {xs : List α} {n cap : Nat} (h : RdL T w S (.slice A n cap) xs) (hn : n = xs.length) {k : Nat} (hk : k ≤ n) :
    RdL T w S (.slice (if cap = k then A else A.map (·.add (k * T.sz))) (n - k) (cap - k)) (xs.drop k) := by
  subst hn; exact h.cut hk
set_option maxHeartbeats 1000000 in
set_option maxRecDepth 100000 in
theorem grow_cons (f : Nat) (ih : GrowC f) (A A' : Option Addr) (cap cap' : Nat) (L : List En) (h0 : ¬ L.length = 0) (hf : L.length ≤ f + 1) (h64 : L.length ≤ 64) (hg : good L) (w : World) (S S' : Nat → Prop) (h : RdL tEnt w S (.slice A L.length cap) L) (h' : RdL tKey w S' (.slice A' L.length cap') (prios L)) :
    Calls Try.prog 95 #[.slice A L.length cap, .slice A' L.length cap'] w fun e w' => ∃ v', e = .returned v' ∧ TrAt w' v' (trF (f + 1) L) ∧ Ext w w' := by
  have hlt := topE_lt (L := L) (by omega)
  have hND := trF_ok (f + 1) L hg
  rw [trF_cons _ _ h0] at hND ⊢
  have HTE := Lib.hid (show topE L = topI (prios L) L.length from rfl)
  obtain ⟨k, hk⟩ : ∃ k, topE L = k := ⟨_, rfl⟩
  simp only [hk] at hlt hND ⊢
  rw [hk] at HTE
  rw [gE_lt hlt] at hND ⊢
  have H := Lib.hid h
  have HP := Lib.hid h'
  obtain ⟨A1, cap1, e1, hcap, hlen, hrd, hok⟩ := h
  injection e1 with e1 e2 e3
  subst e1 e3
  clear e2
  obtain ⟨A1, cap1, e1, hcap', hlen', hrd', hok'⟩ := h'
  injection e1 with e1 e2 e3
  subst e1 e3
  clear e2
  have hpl := prios_length L
  rw [hpl] at hcap'
  obtain ⟨gl, ol, rfl, hs0, hc⟩ := hrd.elem hok k hlt
  obtain ⟨g, o, rfl, hs1, hc1⟩ := hrd'.elem hok' 0 (by omega)
  have ihl := fun (W : World) (hW : RdL tEnt W S (.slice (some ⟨gl, ol, none⟩) L.length cap) L) (hW' : RdL tKey W S' (.slice (some ⟨g, o, none⟩) L.length cap') (prios L)) => ih _ _ (L.take k) (by rw [List.length_take]; omega) (by rw [List.length_take]; omega) (hg.take k) W S S' (RdL.headN (k := k) (show RdL tEnt W S (.slice (some ⟨gl, ol, none⟩) L.length cap) L from hW) rfl (by omega)) (by rw [prios_take]; exact RdL.headN (k := k) (show RdL tKey W S' (.slice (some ⟨g, o, none⟩) L.length cap') (prios L) from hW') hpl.symm (by omega))
  have ihr := fun (W : World) (hW : RdL tEnt W S (.slice (some ⟨gl, ol, none⟩) L.length cap) L) (hW' : RdL tKey W S' (.slice (some ⟨g, o, none⟩) L.length cap') (prios L)) => ih _ _ (L.drop (k + 1)) (by rw [List.length_drop]; omega) (by rw [List.length_drop]; omega) (hg.drop (k + 1)) W S S' (RdL.cutN (k := k + 1) (show RdL tEnt W S (.slice (some ⟨gl, ol, none⟩) L.length cap) L from hW) rfl (by omega)) (by rw [prios_drop]; exact RdL.cutN (k := k + 1) (show RdL tKey W S' (.slice (some ⟨g, o, none⟩) L.length cap') (prios L) from hW') hpl.symm (by omega))
  simp only [Option.map_some, Addr.add_lit, show tEnt.sz = 2 from rfl, show tKey.sz = 32 from rfl] at ihr
  obtain ⟨TL, hTL⟩ : ∃ T, trF f (L.take k) = T := ⟨_, rfl⟩
  obtain ⟨TR, hTR⟩ : ∃ T, trF f (L.drop (k + 1)) = T := ⟨_, rfl⟩
  simp only [hTL] at ihl hND ⊢
  simp only [hTR] at ihr hND ⊢
  have HND := Lib.hid hND.1
  have HOKL := Lib.hid hND.2.2.2.2.1
  have HOKR := Lib.hid hND.2.2.2.2.2
  have KL := Lib.hid TL.key_ok.1
  have KR := Lib.hid TR.key_ok.1
  have hc0 : ∀ W, Ext w W → ∀ j u, ([Value.string L[k].1, .string L[k].2] : List Value)[j]? = some u → W.cell? ⟨gl, ol + k * 2 + j, none⟩ = some u := fun W hW j u hu => hW.cell (hc j u hu)
  have HC := Lib.hid hc0
  obtain ⟨ps, hps⟩ : ∃ ps, prios L = ps := ⟨_, rfl⟩
  rw [hps] at hpl hrd' hok' HP HTE
  simp only [hps] at ihl ihr
  have Hrd' := Lib.hid hrd'
  have Hok' := Lib.hid hok'
  have HPL := Lib.hid hpl
  have HTK := Lib.hid (show ∀ i, i ≤ L.length → topI ps i < L.length from fun i hi => by
    rcases Nat.eq_zero_or_pos i with rfl | h
    · rw [topI_zero]; omega
    · have := topI_lt ps i h; omega)
  have HTS := Lib.hid (topI_succ ps)
  have HT0 := Lib.hid (topI_zero ps)
  have hi7 : ((L.length : Int) == 0) = false := by rw [beq_eq_false_iff_ne]; omega
  have hi8 : (L.length : Int) ≤ (cap : Int) := by omega
  have hi9 : (L.length : Int) ≤ (cap' : Int) := by omega
  clear hc hc1 hrd hok hrd' hok' hTL hTR hk hND hc0 hpl hps hs0 hs1
  go_enter Try.func95, Try.ntmps95
  go_wp2
  go_loopw [5, 14] (fun b i wr => ∃ j : Nat, j ≤ L.length ∧ i = .int .i64 j ∧ b = .int .i64 (topI ps j) ∧ Ext w wr) (fun _ i _ => L.length - (intOf i).toNat)
  case atStart => exact ⟨0, by omega, rfl, by rw [HT0.out]; rfl, Ext.refl _⟩
  case round =>
    obtain ⟨i, hi, rfl, rfl, hx⟩ := hrel
    have HX := Lib.hid hx
    clear hx
    obtain ⟨t, ht⟩ : ∃ t, topI ps i = t := ⟨_, rfl⟩
    have htl := HTK.out i hi
    have hts := HTS.out i
    rw [ht] at htl hts ⊢
    have HT := Lib.hid ht
    clear ht
    by_cases hlt2 : i < L.length
    · have hil : i < ps.length := by rw [HPL.out]; exact hlt2
      have htl2 : t < ps.length := by rw [HPL.out]; exact htl
      rw [gK_lt hil, gK_lt htl2] at hts
      have HTSI := Lib.hid hts
      clear hts
      obtain ⟨g2, o2, e2, hs2, hci⟩ := Hrd'.out.elem Hok'.out i hil
      injection e2 with e2
      injection e2 with e3 e4
      subst e3 e4
      obtain ⟨g2, o2, e2, hs2, hct⟩ := Hrd'.out.elem Hok'.out t htl2
      injection e2 with e2
      injection e2 with e3 e4
      subst e3 e4
      have HKI := Lib.hid (show K32 ps[i] from Hok'.out _ (List.getElem_mem hil))
      have HKT := Lib.hid (show K32 ps[t] from Hok'.out _ (List.getElem_mem htl2))
      have HDI := Lib.hid (show ∀ j u, (nums .u8 ps[i])[j]? = some u → wr.cell? ⟨g, o + i * 32 + j, none⟩ = some u from fun j u hu => HX.out.cell (hci j u hu))
      have HDT := Lib.hid (show ∀ j u, (nums .u8 ps[t])[j]? = some u → (wr.alloc (.cells (numsA .u8 ps[i]) 45)).cell? ⟨g, o + t * 32 + j, none⟩ = some u from fun j u hu => (HX.out.alloc _).cell (hct j u hu))
      have B7 := Lib.hid (Blk.new wr 45 (numsA .u8 ps[i]))
      have hj : (0 : Int) ≤ (i : Int) := by omega
      have hj2 : (i : Int) < (L.length : Int) := by omega
      have hj3 : (0 : Int) ≤ (t : Int) := by omega
      have hj4 : (t : Int) < (L.length : Int) := by omega
      clear hci hct
      go_wp2_with (first
        | (refine wpl_load ⟨g, o + i * 32, none⟩ (nums .u8 ps[i]) (by rw [nums_length, HKI.out.1]; exact aggKey) rfl _ rfl rfl (fun j u hu => by rw [Addr.add_lit]; exact HDI.out j u hu) ?_)
        | (refine wpl_storeNew aggKey HKI.out.1 rfl rfl _ _ rfl rfl rfl rfl ?_))
      refine wp_region_held_drew (S := fun W => Ext (wr.alloc (.cells (numsA .u8 ps[i]) 45)) W) (by kernel_rfl) (Ext.refl _).drew (fun hHeld => ?_)
      refine wpAnyH_take (i := 0) (oi := ?oiz1) (v := (.agg (numsA .u8 ps[i]))) ?hiz1 (by kernel_rfl) (by kernel_rfl) (by kernel_rfl) ?hQz1 ?hyz1 (by assumption) ?restz1
      case hiz1 => simp only [List.getElem?_toArray, List.getElem?_cons_zero, List.getElem?_cons_succ]; rfl
      case hQz1 => exact fun _ _ _ h => h
      case hyz1 => refine yields_loadB B7.out aggKey (sizeN HKI.out.1) ?_ _ rfl rfl; rfl
      try simp only [Act.put, List.setIfInBounds_toArray, List.set_cons_zero, List.set_cons_succ]
      refine wpAnyH_take (i := 1) (oi := ?oiz2) (v := ?vz2) ?hiz2 (by kernel_rfl) (by kernel_rfl) (by kernel_rfl) ?hQz2 ?hyz2 (by assumption) ?restz2
      case hiz2 => simp only [List.getElem?_toArray, List.getElem?_cons_zero, List.getElem?_cons_succ]; rfl
      case hQz2 => exact fun _ _ _ h => h
      case hyz2 => exact Or.inl ⟨by rfl, by intro w hSw; (try dsimp only at hSw); go_simp; with_reducible rfl⟩
      try simp only [Act.put, List.setIfInBounds_toArray, List.set_cons_zero, List.set_cons_succ]
      refine wpAnyH_take (i := 2) (oi := ?oiz3) (v := ?vz3) ?hiz3 (by kernel_rfl) (by kernel_rfl) (by kernel_rfl) ?hQz3 ?hyz3 (by assumption) ?restz3
      case hiz3 => simp only [List.getElem?_toArray, List.getElem?_cons_zero, List.getElem?_cons_succ]; rfl
      case hQz3 => exact fun _ _ _ h => h
      case hyz3 => exact Or.inl ⟨by rfl, by intro w hSw; (try dsimp only at hSw); go_simp; with_reducible rfl⟩
      try simp only [Act.put, List.setIfInBounds_toArray, List.set_cons_zero, List.set_cons_succ]
      refine wpAnyH_take (i := 3) (oi := ?oiz4) (v := ?vz4) ?hiz4 (by kernel_rfl) (by kernel_rfl) (by kernel_rfl) ?hQz4 ?hyz4 (by assumption) ?restz4
      case hiz4 => simp only [List.getElem?_toArray, List.getElem?_cons_zero, List.getElem?_cons_succ]; rfl
      case hQz4 => exact fun _ _ _ h => h
      case hyz4 => exact Or.inl ⟨by rfl, by intro w hSw; (try dsimp only at hSw); go_simp; with_reducible rfl⟩
      try simp only [Act.put, List.setIfInBounds_toArray, List.set_cons_zero, List.set_cons_succ]
      refine wpAnyH_take (i := 4) (oi := ?oiz5) (v := (.agg (numsA .u8 ps[t]))) ?hiz5 (by kernel_rfl) (by kernel_rfl) (by kernel_rfl) ?hQz5 ?hyz5 (by assumption) ?restz5
      case hiz5 => simp only [List.getElem?_toArray, List.getElem?_cons_zero, List.getElem?_cons_succ]; rfl
      case hQz5 => exact fun _ _ _ h => h
      case hyz5 => refine yields_loadR g (o + t * 32) (nums .u8 ps[t]) (by rw [nums_length, HKT.out.1]; exact aggKey) HDT.out ?_ _ rfl rfl; rfl
      try simp only [Act.put, List.setIfInBounds_toArray, List.set_cons_zero, List.set_cons_succ]
      refine wpAnyH_ready (rs := [5]) (by kernel_rfl) (by simp) (AllReadyH.cons (o := ?oy65) ?hy65 (fun K hK => ?sy65) AllReadyH.nil)
      case hy65 => simp only [List.getElem?_toArray, List.getElem?_cons_zero, List.getElem?_cons_succ]; rfl
      go_simp
      refine (compareKeys_any ps[i] ps[t] HKI.out HKT.out _).mono ?_
      rintro e w2 ⟨rfl, hx⟩
      have hH2 := hHeld.trans hx
      refine hK.out _ _ hH2 (fun _ => ?_)
      clear hHeld hK K
      have hHeld := hH2
      clear hH2
      try simp only [Act.put, List.setIfInBounds_toArray, List.set_cons_zero, List.set_cons_succ]
      refine wpAnyH_take (i := 6) (oi := ?oiz7) (v := ?vz7) ?hiz7 (by kernel_rfl) (by kernel_rfl) (by kernel_rfl) ?hQz7 ?hyz7 (by assumption) ?restz7
      case hiz7 => simp only [List.getElem?_toArray, List.getElem?_cons_zero, List.getElem?_cons_succ]; rfl
      case hQz7 => exact fun _ _ _ h => h
      case hyz7 => exact Or.inl ⟨by rfl, by intro w hSw; (try dsimp only at hSw); go_simp; with_reducible rfl⟩
      try simp only [Act.put, List.setIfInBounds_toArray, List.set_cons_zero, List.set_cons_succ]
      refine wpAnyH_done (by kernel_rfl) ?_ _
      have HX2 := Lib.hid ((HX.out.alloc (.cells (numsA .u8 ps[i]) 45)).trans hHeld)
      clear hHeld
      by_cases hcm : 0 < cmpL ps[i] ps[t]
      · have HS := Lib.hid (show topI ps (i + 1) = i by rw [HTSI.out, if_pos hcm])
        go_wp2
        go_roundw
        case rel => exact ⟨i + 1, by omega, by go_num, by rw [HS.out], HX2.out⟩
        case measure => simp [intOf]; omega
      · have HS := Lib.hid (show topI ps (i + 1) = t by rw [HTSI.out, if_neg hcm])
        go_wp2
        go_roundw
        case rel => exact ⟨i + 1, by omega, by go_num, by rw [HS.out], HX2.out⟩
        case measure => simp [intOf]; omega
    · obtain rfl : i = L.length := by omega
      have htk : t = k := by rw [← HT.out, HTE.out]
      subst htk
      clear hts htl HTK HTS HT0 hi
      have q1 : (t : Int) ≤ (cap : Int) := by omega
      have q2 : (t : Int) ≤ (cap' : Int) := by omega
      have q3 : (t : Int) + 1 ≤ (L.length : Int) := by omega
      have q4 : (t : Int) + 1 ≤ (cap : Int) := by omega
      have q5 : (t : Int) + 1 ≤ (cap' : Int) := by omega
      have q6 : (0 : Int) ≤ (t : Int) + 1 := by omega
      have q7 : (0 : Int) ≤ (t : Int) := by omega
      have q8 : IntKind.i64.wrap ((t : Int) + 1) = (t : Int) + 1 := by rw [IntKind.wrap_i64]; omega
      go_wp2_with fail
      refine wp_region_held_drew (S := fun W => Ext wr W) (by kernel_rfl) (Ext.refl _).drew (fun hHeld => ?_)
      refine wpAnyH_take (i := 0) (oi := ?oiz8) (v := ?vz8) ?hiz8 (by kernel_rfl) (by kernel_rfl) (by kernel_rfl) ?hQz8 ?hyz8 (by assumption) ?restz8
      case hiz8 => simp only [List.getElem?_toArray, List.getElem?_cons_zero, List.getElem?_cons_succ]; rfl
      case hQz8 => exact fun _ _ _ h => h
      case hyz8 => exact Or.inl ⟨by rfl, by intro w hSw; (try dsimp only at hSw); go_simp; with_reducible rfl⟩
      try simp only [Act.put, List.setIfInBounds_toArray, List.set_cons_zero, List.set_cons_succ]
      refine wpAnyH_take (i := 1) (oi := ?oiz9) (v := ?vz9) ?hiz9 (by kernel_rfl) (by kernel_rfl) (by kernel_rfl) ?hQz9 ?hyz9 (by assumption) ?restz9
      case hiz9 => simp only [List.getElem?_toArray, List.getElem?_cons_zero, List.getElem?_cons_succ]; rfl
      case hQz9 => exact fun _ _ _ h => h
      case hyz9 => exact Or.inl ⟨by rfl, by intro w hSw; (try dsimp only at hSw); go_simp; with_reducible rfl⟩
      try simp only [Act.put, List.setIfInBounds_toArray, List.set_cons_zero, List.set_cons_succ]
      refine wpAnyH_take (i := 2) (oi := ?oiz10) (v := ?vz10) ?hiz10 (by kernel_rfl) (by kernel_rfl) (by kernel_rfl) ?hQz10 ?hyz10 (by assumption) ?restz10
      case hiz10 => simp only [List.getElem?_toArray, List.getElem?_cons_zero, List.getElem?_cons_succ]; rfl
      case hQz10 => exact fun _ _ _ h => h
      case hyz10 => exact Or.inl ⟨by rfl, by intro w hSw; (try dsimp only at hSw); go_simp; with_reducible rfl⟩
      try simp only [Act.put, List.setIfInBounds_toArray, List.set_cons_zero, List.set_cons_succ]
      refine wpAnyH_take (i := 3) (oi := ?oiz11) (v := ?vz11) ?hiz11 (by kernel_rfl) (by kernel_rfl) (by kernel_rfl) ?hQz11 ?hyz11 (by assumption) ?restz11
      case hiz11 => simp only [List.getElem?_toArray, List.getElem?_cons_zero, List.getElem?_cons_succ]; rfl
      case hQz11 => exact fun _ _ _ h => h
      case hyz11 => exact Or.inl ⟨by rfl, by intro w hSw; (try dsimp only at hSw); go_simp; with_reducible rfl⟩
      try simp only [Act.put, List.setIfInBounds_toArray, List.set_cons_zero, List.set_cons_succ]
      refine wpAnyH_take (i := 4) (oi := ?oiz12) (v := ?vz12) ?hiz12 (by kernel_rfl) (by kernel_rfl) (by kernel_rfl) ?hQz12 ?hyz12 (by assumption) ?restz12
      case hiz12 => simp only [List.getElem?_toArray, List.getElem?_cons_zero, List.getElem?_cons_succ]; rfl
      case hQz12 => exact fun _ _ _ h => h
      case hyz12 => exact Or.inl ⟨by rfl, by intro w hSw; (try dsimp only at hSw); go_simp; with_reducible rfl⟩
      try simp only [Act.put, List.setIfInBounds_toArray, List.set_cons_zero, List.set_cons_succ]
      refine wpAnyH_take (i := 5) (oi := ?oiz13) (v := ?vz13) ?hiz13 (by kernel_rfl) (by kernel_rfl) (by kernel_rfl) ?hQz13 ?hyz13 (by assumption) ?restz13
      case hiz13 => simp only [List.getElem?_toArray, List.getElem?_cons_zero, List.getElem?_cons_succ]; rfl
      case hQz13 => exact fun _ _ _ h => h
      case hyz13 => exact Or.inl ⟨by rfl, by intro w hSw; (try dsimp only at hSw); go_simp; with_reducible rfl⟩
      try simp only [Act.put, List.setIfInBounds_toArray, List.set_cons_zero, List.set_cons_succ]
      refine wpAnyH_take (i := 7) (oi := ?oiz14) (v := ?vz14) ?hiz14 (by kernel_rfl) (by kernel_rfl) (by kernel_rfl) ?hQz14 ?hyz14 (by assumption) ?restz14
      case hiz14 => simp only [List.getElem?_toArray, List.getElem?_cons_zero, List.getElem?_cons_succ]; rfl
      case hQz14 => exact fun _ _ _ h => h
      case hyz14 => exact Or.inl ⟨by rfl, by intro w hSw; (try dsimp only at hSw); go_simp; with_reducible rfl⟩
      try simp only [Act.put, List.setIfInBounds_toArray, List.set_cons_zero, List.set_cons_succ]
      refine wpAnyH_take (i := 8) (oi := ?oiz15) (v := ?vz15) ?hiz15 (by kernel_rfl) (by kernel_rfl) (by kernel_rfl) ?hQz15 ?hyz15 (by assumption) ?restz15
      case hiz15 => simp only [List.getElem?_toArray, List.getElem?_cons_zero, List.getElem?_cons_succ]; rfl
      case hQz15 => exact fun _ _ _ h => h
      case hyz15 => exact Or.inl ⟨by rfl, by intro w hSw; (try dsimp only at hSw); go_simp; with_reducible rfl⟩
      try simp only [Act.put, List.setIfInBounds_toArray, List.set_cons_zero, List.set_cons_succ]
      refine wpAnyH_take (i := 9) (oi := ?oiz16) (v := ?vz16) ?hiz16 (by kernel_rfl) (by kernel_rfl) (by kernel_rfl) ?hQz16 ?hyz16 (by assumption) ?restz16
      case hiz16 => simp only [List.getElem?_toArray, List.getElem?_cons_zero, List.getElem?_cons_succ]; rfl
      case hQz16 => exact fun _ _ _ h => h
      case hyz16 => exact Or.inl ⟨by rfl, by intro w hSw; (try dsimp only at hSw); go_simp; with_reducible rfl⟩
      try simp only [Act.put, List.setIfInBounds_toArray, List.set_cons_zero, List.set_cons_succ]
      refine wpAnyH_take (i := 10) (oi := ?oiz17) (v := ?vz17) ?hiz17 (by kernel_rfl) (by kernel_rfl) (by kernel_rfl) ?hQz17 ?hyz17 (by assumption) ?restz17
      case hiz17 => simp only [List.getElem?_toArray, List.getElem?_cons_zero, List.getElem?_cons_succ]; rfl
      case hQz17 => exact fun _ _ _ h => h
      case hyz17 => exact Or.inl ⟨by rfl, by intro w hSw; (try dsimp only at hSw); go_simp; with_reducible rfl⟩
      try simp only [Act.put, List.setIfInBounds_toArray, List.set_cons_zero, List.set_cons_succ]
      refine wpAnyH_take (i := 11) (oi := ?oiz18) (v := ?vz18) ?hiz18 (by kernel_rfl) (by kernel_rfl) (by kernel_rfl) ?hQz18 ?hyz18 (by assumption) ?restz18
      case hiz18 => simp only [List.getElem?_toArray, List.getElem?_cons_zero, List.getElem?_cons_succ]; rfl
      case hQz18 => exact fun _ _ _ h => h
      case hyz18 => exact Or.inl ⟨by rfl, by intro w hSw; (try dsimp only at hSw); go_simp; with_reducible rfl⟩
      try simp only [Act.put, List.setIfInBounds_toArray, List.set_cons_zero, List.set_cons_succ]
      refine wpAnyH_take (i := 12) (oi := ?oiz19) (v := ?vz19) ?hiz19 (by kernel_rfl) (by kernel_rfl) (by kernel_rfl) ?hQz19 ?hyz19 (by assumption) ?restz19
      case hiz19 => simp only [List.getElem?_toArray, List.getElem?_cons_zero, List.getElem?_cons_succ]; rfl
      case hQz19 => exact fun _ _ _ h => h
      case hyz19 => exact Or.inl ⟨by rfl, by intro w hSw; (try dsimp only at hSw); go_simp; with_reducible rfl⟩
      try simp only [Act.put, List.setIfInBounds_toArray, List.set_cons_zero, List.set_cons_succ]
      refine wpAnyH_take (i := 13) (oi := ?oiz20) (v := ?vz20) ?hiz20 (by kernel_rfl) (by kernel_rfl) (by kernel_rfl) ?hQz20 ?hyz20 (by assumption) ?restz20
      case hiz20 => simp only [List.getElem?_toArray, List.getElem?_cons_zero, List.getElem?_cons_succ]; rfl
      case hQz20 => exact fun _ _ _ h => h
      case hyz20 => exact Or.inl ⟨by rfl, by intro w hSw; (try dsimp only at hSw); go_simp; with_reducible rfl⟩
      try simp only [Act.put, List.setIfInBounds_toArray, List.set_cons_zero, List.set_cons_succ]
      refine wpAnyH_take (i := 14) (oi := ?oiz21) (v := ?vz21) ?hiz21 (by kernel_rfl) (by kernel_rfl) (by kernel_rfl) ?hQz21 ?hyz21 (by assumption) ?restz21
      case hiz21 => simp only [List.getElem?_toArray, List.getElem?_cons_zero, List.getElem?_cons_succ]; rfl
      case hQz21 => exact fun _ _ _ h => h
      case hyz21 => exact Or.inl ⟨by rfl, by intro w hSw; (try dsimp only at hSw); go_simp; with_reducible rfl⟩
      try simp only [Act.put, List.setIfInBounds_toArray, List.set_cons_zero, List.set_cons_succ]
      refine wpAnyH_ready (rs := [6]) (by kernel_rfl) (by simp) (AllReadyH.cons (o := ?oy226) ?hy226 (fun K hK => ?sy226) AllReadyH.nil)
      case hy226 => simp only [List.getElem?_toArray, List.getElem?_cons_zero, List.getElem?_cons_succ]; rfl
      go_simp
      refine (ihl _ (H.out.ext (by decide) (HX.out.trans hHeld)) (HP.out.ext (by decide) (HX.out.trans hHeld))).mono ?_
      rintro e wl ⟨vl, rfl, htl, hx⟩
      obtain ⟨pl, rfl⟩ := htl.ptr
      have HTL := Lib.hid htl
      clear htl
      have hH2 := hHeld.trans hx
      refine hK.out _ _ hH2 (fun _ => ?_)
      clear hHeld hK K
      have hHeld := hH2
      clear hH2
      try simp only [Act.put, List.setIfInBounds_toArray, List.set_cons_zero, List.set_cons_succ]
      refine wpAnyH_ready (rs := [15]) (by kernel_rfl) (by simp) (AllReadyH.cons (o := ?oy2315) ?hy2315 (fun K hK => ?sy2315) AllReadyH.nil)
      case hy2315 => simp only [List.getElem?_toArray, List.getElem?_cons_zero, List.getElem?_cons_succ]; rfl
      go_simp
      refine (ihr _ (H.out.ext (by decide) (HX.out.trans hHeld)) (HP.out.ext (by decide) (HX.out.trans hHeld))).mono ?_
      rintro e wR ⟨vr, rfl, htr, hx⟩
      obtain ⟨pr, rfl⟩ := htr.ptr
      have HTR := Lib.hid htr
      replace HTL := Lib.hid (HTL.out.ext hx)
      clear htr
      have hH2 := hHeld.trans hx
      refine hK.out _ _ hH2 (fun _ => ?_)
      clear hHeld hK K
      have hHeld := hH2
      clear hH2
      try simp only [Act.put, List.setIfInBounds_toArray, List.set_cons_zero, List.set_cons_succ]
      refine wpAnyH_take (i := 16) (oi := ?oiz24) (v := (.agg (zNd ++ [Value.pointer pl, Value.pointer pr]).toArray)) ?hiz24 (by kernel_rfl) (by kernel_rfl) (by kernel_rfl) ?hQz24 ?hyz24 (by assumption) ?restz24
      case hiz24 => simp only [List.getElem?_toArray, List.getElem?_cons_zero, List.getElem?_cons_succ]; rfl
      case hQz24 => exact fun _ _ _ h => h
      case hyz24 => refine yields_build ?_ rfl (built_tree pl pr); rfl
      try simp only [Act.put, List.setIfInBounds_toArray, List.set_cons_zero, List.set_cons_succ]
      refine wpAnyH_ready (rs := [17]) (by kernel_rfl) (by simp) (AllReadyH.cons (o := ?oy2517) ?hy2517 (fun K hK => ?sy2517) AllReadyH.nil)
      case hy2517 => simp only [List.getElem?_toArray, List.getElem?_cons_zero, List.getElem?_cons_succ]; rfl
      refine stp_box rfl _ rfl rfl ?_
      have HXR := Lib.hid (HX.out.trans hHeld)
      have hH2 := hHeld.alloc (.cells (zNd ++ [Value.pointer pl, Value.pointer pr]).toArray 131)
      refine hK.out _ _ hH2 (fun _ => ?_)
      clear hK K hH2 hHeld
      try simp only [Act.put, List.setIfInBounds_toArray, List.set_cons_zero, List.set_cons_succ]
      refine wpAnyH_take (i := 18) (oi := ?oiz26) (v := ?vz26) ?hiz26 (by kernel_rfl) (by kernel_rfl) (by kernel_rfl) ?hQz26 ?hyz26 (by assumption) ?restz26
      case hiz26 => simp only [List.getElem?_toArray, List.getElem?_cons_zero, List.getElem?_cons_succ]; rfl
      case hQz26 => exact fun _ _ _ h => h
      case hyz26 => exact Or.inl ⟨by rfl, by intro w hSw; (try dsimp only at hSw); go_simp; with_reducible rfl⟩
      try simp only [Act.put, List.setIfInBounds_toArray, List.set_cons_zero, List.set_cons_succ]
      refine wpAnyH_done (by kernel_rfl) ?_ _
      obtain ⟨wb, hwb⟩ : ∃ wb, wR.alloc (.cells (zNd ++ [Value.pointer pl, Value.pointer pr]).toArray 131) = wb := ⟨_, rfl⟩
      obtain ⟨g9, hg9⟩ : ∃ g9, wR.heap.size = g9 := ⟨_, rfl⟩
      have HBT := Lib.hid (show Blk wb g9 131 (zNd ++ [Value.pointer pl, Value.pointer pr]).toArray by rw [← hwb, ← hg9]; exact Blk.new wR _ _)
      have HXb := Lib.hid (show Ext wR wb by rw [← hwb]; exact ext_alloc _ _)
      have HXB := Lib.hid (HXR.out.trans HXb.out)
      have HG9 := Lib.hid (show w.heap.size ≤ g9 by rw [← hg9]; exact HXR.out.size)
      have HGR := Lib.hid (show wR.heap.size ≤ g9 by rw [← hg9]; exact Nat.le_refl _)
      have HR66 := Lib.hid (show (zNd ++ [Value.pointer pl, Value.pointer pr]).toArray[66]? = some (.pointer pl) from rfl)
      have HR67 := Lib.hid (show (zNd ++ [Value.pointer pl, Value.pointer pr]).toArray[67]? = some (.pointer pr) from rfl)
      have HRS := Lib.hid (show (zNd ++ [Value.pointer pl, Value.pointer pr]).toArray.size = 68 from rfl)
      have HTLb := Lib.hid (HTL.out.ext HXb.out)
      have HTRb := Lib.hid (HTR.out.ext HXb.out)
      simp only [hwb, hg9]
      clear hwb hg9 ihl ihr
      have q9 : (t : Int) < (L.length : Int) := by omega
      generalize (if cap = t + 1 then (some (⟨gl, ol, none⟩ : Addr)) else some (⟨gl, ol + (t + 1) * 2, none⟩ : Addr)) = junk1
      generalize (if cap' = t + 1 then (some (⟨g, o, none⟩ : Addr)) else some (⟨g, o + (t + 1) * 32, none⟩ : Addr)) = junk2
      go_wp2_with fail
      refine wp_region_held_drew (S := fun W => Ext w W ∧ W.cell? ⟨g9, 66, none⟩ = some (.pointer pl) ∧ W.cell? ⟨g9, 67, none⟩ = some (.pointer pr)) (by kernel_rfl) ⟨HXB.out.drew, (HBT.out.drewN 1).at_ 66 HR66.out, (HBT.out.drewN 1).at_ 67 HR67.out⟩ (fun hHeld => ?_)
      have HE := Lib.hid ((Ext.refl wb).drew)
      generalize wb.drew = w0 at hHeld HE ⊢
      refine wpAnyH_take (i := 0) (oi := ?oiz27) (v := ?vz27) ?hiz27 (by kernel_rfl) (by kernel_rfl) (by kernel_rfl) ?hQz27 ?hyz27 (by assumption) ?restz27
      case hiz27 => simp only [List.getElem?_toArray, List.getElem?_cons_zero, List.getElem?_cons_succ]; rfl
      case hQz27 => exact fun _ _ _ h => h
      case hyz27 => exact Or.inl ⟨by rfl, by intro w hSw; (try dsimp only at hSw); go_simp; with_reducible rfl⟩
      try simp only [Act.put, List.setIfInBounds_toArray, List.set_cons_zero, List.set_cons_succ]
      refine wpAnyH_take (i := 1) (oi := ?oiz28) (v := ?vz28) ?hiz28 (by kernel_rfl) (by kernel_rfl) (by kernel_rfl) ?hQz28 ?hyz28 (by assumption) ?restz28
      case hiz28 => simp only [List.getElem?_toArray, List.getElem?_cons_zero, List.getElem?_cons_succ]; rfl
      case hQz28 => exact fun _ _ _ h => h
      case hyz28 => exact Or.inl ⟨by rfl, by intro w hSw; (try dsimp only at hSw); go_simp; with_reducible rfl⟩
      try simp only [Act.put, List.setIfInBounds_toArray, List.set_cons_zero, List.set_cons_succ]
      refine wpAnyH_take (i := 2) (oi := ?oiz29) (v := ?vz29) ?hiz29 (by kernel_rfl) (by kernel_rfl) (by kernel_rfl) ?hQz29 ?hyz29 (by assumption) ?restz29
      case hiz29 => simp only [List.getElem?_toArray, List.getElem?_cons_zero, List.getElem?_cons_succ]; rfl
      case hQz29 => exact fun _ _ _ h => h
      case hyz29 => exact Or.inl ⟨by rfl, by intro w hSw; (try dsimp only at hSw); go_simp; with_reducible rfl⟩
      try simp only [Act.put, List.setIfInBounds_toArray, List.set_cons_zero, List.set_cons_succ]
      refine wpAnyH_take (i := 3) (oi := ?oiz30) (v := ?vz30) ?hiz30 (by kernel_rfl) (by kernel_rfl) (by kernel_rfl) ?hQz30 ?hyz30 (by assumption) ?restz30
      case hiz30 => simp only [List.getElem?_toArray, List.getElem?_cons_zero, List.getElem?_cons_succ]; rfl
      case hQz30 => exact fun _ _ _ h => h
      case hyz30 => exact Or.inl ⟨by rfl, by intro w hSw; (try dsimp only at hSw); go_simp; with_reducible rfl⟩
      try simp only [Act.put, List.setIfInBounds_toArray, List.set_cons_zero, List.set_cons_succ]
      refine wpAnyH_take (i := 4) (oi := ?oiz31) (v := ?vz31) ?hiz31 (by kernel_rfl) (by kernel_rfl) (by kernel_rfl) ?hQz31 ?hyz31 (by assumption) ?restz31
      case hiz31 => simp only [List.getElem?_toArray, List.getElem?_cons_zero, List.getElem?_cons_succ]; rfl
      case hQz31 => exact fun _ _ _ h => h
      case hyz31 => exact Or.inl ⟨by rfl, by intro w hSw; have c66 := hSw.2.1; have c67 := hSw.2.2; clear hSw; go_simp; with_reducible rfl⟩
      try simp only [Act.put, List.setIfInBounds_toArray, List.set_cons_zero, List.set_cons_succ]
      refine wpAnyH_take (i := 6) (oi := ?oiz32) (v := ?vz32) ?hiz32 (by kernel_rfl) (by kernel_rfl) (by kernel_rfl) ?hQz32 ?hyz32 (by assumption) ?restz32
      case hiz32 => simp only [List.getElem?_toArray, List.getElem?_cons_zero, List.getElem?_cons_succ]; rfl
      case hQz32 => exact fun _ _ _ h => h
      case hyz32 => exact Or.inl ⟨by rfl, by intro w hSw; (try dsimp only at hSw); go_simp; with_reducible rfl⟩
      try simp only [Act.put, List.setIfInBounds_toArray, List.set_cons_zero, List.set_cons_succ]
      refine wpAnyH_take (i := 7) (oi := ?oiz33) (v := ?vz33) ?hiz33 (by kernel_rfl) (by kernel_rfl) (by kernel_rfl) ?hQz33 ?hyz33 (by assumption) ?restz33
      case hiz33 => simp only [List.getElem?_toArray, List.getElem?_cons_zero, List.getElem?_cons_succ]; rfl
      case hQz33 => exact fun _ _ _ h => h
      case hyz33 => exact Or.inl ⟨by rfl, by intro w hSw; (try dsimp only at hSw); go_simp; with_reducible rfl⟩
      try simp only [Act.put, List.setIfInBounds_toArray, List.set_cons_zero, List.set_cons_succ]
      refine wpAnyH_take (i := 8) (oi := ?oiz34) (v := ?vz34) ?hiz34 (by kernel_rfl) (by kernel_rfl) (by kernel_rfl) ?hQz34 ?hyz34 (by assumption) ?restz34
      case hiz34 => simp only [List.getElem?_toArray, List.getElem?_cons_zero, List.getElem?_cons_succ]; rfl
      case hQz34 => exact fun _ _ _ h => h
      case hyz34 => exact Or.inl ⟨by rfl, by intro w hSw; (try dsimp only at hSw); go_simp; with_reducible rfl⟩
      try simp only [Act.put, List.setIfInBounds_toArray, List.set_cons_zero, List.set_cons_succ]
      refine wpAnyH_take (i := 9) (oi := ?oiz35) (v := ?vz35) ?hiz35 (by kernel_rfl) (by kernel_rfl) (by kernel_rfl) ?hQz35 ?hyz35 (by assumption) ?restz35
      case hiz35 => simp only [List.getElem?_toArray, List.getElem?_cons_zero, List.getElem?_cons_succ]; rfl
      case hQz35 => exact fun _ _ _ h => h
      case hyz35 => exact Or.inl ⟨by rfl, by intro w hSw; have c66 := hSw.2.1; have c67 := hSw.2.2; clear hSw; go_simp; with_reducible rfl⟩
      try simp only [Act.put, List.setIfInBounds_toArray, List.set_cons_zero, List.set_cons_succ]
      refine wpAnyH_take (i := 11) (oi := ?oiz36) (v := ?vz36) ?hiz36 (by kernel_rfl) (by kernel_rfl) (by kernel_rfl) ?hQz36 ?hyz36 (by assumption) ?restz36
      case hiz36 => simp only [List.getElem?_toArray, List.getElem?_cons_zero, List.getElem?_cons_succ]; rfl
      case hQz36 => exact fun _ _ _ h => h
      case hyz36 => exact Or.inl ⟨by rfl, by intro w hSw; (try dsimp only at hSw); go_simp; with_reducible rfl⟩
      try simp only [Act.put, List.setIfInBounds_toArray, List.set_cons_zero, List.set_cons_succ]
      refine wpAnyH_take (i := 12) (oi := ?oiz37) (v := ?vz37) ?hiz37 (by kernel_rfl) (by kernel_rfl) (by kernel_rfl) ?hQz37 ?hyz37 (by assumption) ?restz37
      case hiz37 => simp only [List.getElem?_toArray, List.getElem?_cons_zero, List.getElem?_cons_succ]; rfl
      case hQz37 => exact fun _ _ _ h => h
      case hyz37 => exact Or.inl ⟨by rfl, by intro w hSw; (try dsimp only at hSw); go_simp; with_reducible rfl⟩
      try simp only [Act.put, List.setIfInBounds_toArray, List.set_cons_zero, List.set_cons_succ]
      refine wpAnyH_take (i := 13) (oi := ?oiz38) (v := ?vz38) ?hiz38 (by kernel_rfl) (by kernel_rfl) (by kernel_rfl) ?hQz38 ?hyz38 (by assumption) ?restz38
      case hiz38 => simp only [List.getElem?_toArray, List.getElem?_cons_zero, List.getElem?_cons_succ]; rfl
      case hQz38 => exact fun _ _ _ h => h
      case hyz38 => exact Or.inl ⟨by rfl, by intro w hSw; (try dsimp only at hSw); go_simp; with_reducible rfl⟩
      try simp only [Act.put, List.setIfInBounds_toArray, List.set_cons_zero, List.set_cons_succ]
      refine wpAnyH_take (i := 14) (oi := ?oiz39) (v := (.agg #[.string L[t].1, .string L[t].2])) ?hiz39 (by kernel_rfl) (by kernel_rfl) (by kernel_rfl) ?hQz39 ?hyz39 (by assumption) ?restz39
      case hiz39 => simp only [List.getElem?_toArray, List.getElem?_cons_zero, List.getElem?_cons_succ]; rfl
      case hQz39 => exact fun _ _ _ h => h
      case hyz39 => refine yields_loadS gl (ol + t * 2) [.string L[t].1, .string L[t].2] aggEntryI (fun W hW => HC.out W hW.1) ?_ _ rfl rfl; rfl
      try simp only [Act.put, List.setIfInBounds_toArray, List.set_cons_zero, List.set_cons_succ]
      refine wpAnyH_ready (rs := [5]) (by kernel_rfl) (by simp) (AllReadyH.cons (o := ?oy405) ?hy405 (fun K hK => ?sy405) AllReadyH.nil)
      case hy405 => simp only [List.getElem?_toArray, List.getElem?_cons_zero, List.getElem?_cons_succ]; rfl
      go_simp
      refine (treeKey_any TL HOKL.out _ _ (HTLb.out.ext HE.out)).mono ?_
      rintro e wc ⟨rfl, hx⟩
      replace HE := Lib.hid (HE.out.trans hx)
      have hH2 : Ext w wc ∧ World.cell? wc ⟨g9, 66, none⟩ = some (.pointer pl) ∧ World.cell? wc ⟨g9, 67, none⟩ = some (.pointer pr) := ⟨hHeld.1.trans hx, hx.cell hHeld.2.1, hx.cell hHeld.2.2⟩
      refine hK.out _ _ hH2 (fun _ => ?_)
      clear hHeld hK K hx
      have hHeld := hH2
      clear hH2
      try simp only [Act.put, List.setIfInBounds_toArray, List.set_cons_zero, List.set_cons_succ]
      refine wpAnyH_ready (rs := [10]) (by kernel_rfl) (by simp) (AllReadyH.cons (o := ?oy4110) ?hy4110 (fun K hK => ?sy4110) AllReadyH.nil)
      case hy4110 => simp only [List.getElem?_toArray, List.getElem?_cons_zero, List.getElem?_cons_succ]; rfl
      go_simp
      refine (treeKey_any TR HOKR.out _ _ (HTRb.out.ext HE.out)).mono ?_
      rintro e wd ⟨rfl, hx⟩
      replace HE := Lib.hid (HE.out.trans hx)
      have hH2 : Ext w wd ∧ World.cell? wd ⟨g9, 66, none⟩ = some (.pointer pl) ∧ World.cell? wd ⟨g9, 67, none⟩ = some (.pointer pr) := ⟨hHeld.1.trans hx, hx.cell hHeld.2.1, hx.cell hHeld.2.2⟩
      refine hK.out _ _ hH2 (fun _ => ?_)
      clear hHeld hK K hx
      have hHeld := hH2
      clear hH2
      try simp only [Act.put, List.setIfInBounds_toArray, List.set_cons_zero, List.set_cons_succ]
      refine wpAnyH_take (i := 15) (oi := ?oiz42) (v := (.agg (Nd.enc ⟨TL.key, TR.key, L[t].1, L[t].2⟩).toArray)) ?hiz42 (by kernel_rfl) (by kernel_rfl) (by kernel_rfl) ?hQz42 ?hyz42 (by assumption) ?restz42
      case hiz42 => simp only [List.getElem?_toArray, List.getElem?_cons_zero, List.getElem?_cons_succ]; rfl
      case hQz42 => exact fun _ _ _ h => h
      case hyz42 => refine yields_build ?_ rfl (built_node ⟨TL.key, TR.key, L[t].1, L[t].2⟩ HND.out); rfl
      try simp only [Act.put, List.setIfInBounds_toArray, List.set_cons_zero, List.set_cons_succ]
      refine wpAnyH_take (i := 16) (oi := ?oiz43) (v := ?vz43) ?hiz43 (by kernel_rfl) (by kernel_rfl) (by kernel_rfl) ?hQz43 ?hyz43 (by assumption) ?restz43
      case hiz43 => simp only [List.getElem?_toArray, List.getElem?_cons_zero, List.getElem?_cons_succ]; rfl
      case hQz43 => exact fun _ _ _ h => h
      case hyz43 => exact Or.inl ⟨by rfl, by intro w hSw; (try dsimp only at hSw); go_simp; with_reducible rfl⟩
      try simp only [Act.put, List.setIfInBounds_toArray, List.set_cons_zero, List.set_cons_succ]
      refine wpAnyH_take (i := 17) (oi := ?oiz44) (v := ?vz44) ?hiz44 (by kernel_rfl) (by kernel_rfl) (by kernel_rfl) ?hQz44 ?hyz44 (by assumption) ?restz44
      case hiz44 => simp only [List.getElem?_toArray, List.getElem?_cons_zero, List.getElem?_cons_succ]; rfl
      case hQz44 => exact fun _ _ _ h => h
      case hyz44 => exact Or.inl ⟨by rfl, by intro w hSw; (try dsimp only at hSw); go_simp; with_reducible rfl⟩
      try simp only [Act.put, List.setIfInBounds_toArray, List.set_cons_zero, List.set_cons_succ]
      refine wpAnyH_ready (rs := [18]) (by kernel_rfl) (by simp) (AllReadyH.cons (o := ?oy4518) ?hy4518 (fun K hK => ?sy4518) AllReadyH.nil)
      case hy4518 => simp only [List.getElem?_toArray, List.getElem?_cons_zero, List.getElem?_cons_succ]; rfl
      have HB9 := Lib.hid (HBT.out.ext HE.out)
      refine stp_storeP (off := 0) HB9.out aggNodeI (Nd.st HND.out) (by rw [HRS.out]; decide) rfl _ _ rfl rfl rfl rfl ?_
      have hsp : splice (zNd ++ [Value.pointer pl, Value.pointer pr]).toArray 0 (Nd.enc ⟨TL.key, TR.key, L[t].1, L[t].2⟩).toArray.toList = (Nd.enc ⟨TL.key, TR.key, L[t].1, L[t].2⟩ ++ [Value.pointer pl, Value.pointer pr]).toArray := splice_tr HND.out _ _
      rw [hsp]
      have HB8 := Lib.hid (HB9.out.setRow (Nd.enc ⟨TL.key, TR.key, L[t].1, L[t].2⟩ ++ [Value.pointer pl, Value.pointer pr]).toArray)
      have HEW := Lib.hid (hHeld.1.setRow HG9.out (Nd.enc ⟨TL.key, TR.key, L[t].1, L[t].2⟩ ++ [Value.pointer pl, Value.pointer pr]).toArray)
      refine hK.out _ _ ⟨HEW.out, HB8.out.at_ 66 (enc_66 HND.out _ _), HB8.out.at_ 67 (enc_67 HND.out _ _)⟩ (fun _ => ?_)
      clear hK K hHeld
      try simp only [Act.put, List.setIfInBounds_toArray, List.set_cons_zero, List.set_cons_succ]
      refine wpAnyH_done (by kernel_rfl) ?_ _
      have hfl := (HXb.out.trans HE.out).setRow HGR.out (Nd.enc ⟨TL.key, TR.key, L[t].1, L[t].2⟩ ++ [Value.pointer pl, Value.pointer pr]).toArray
      have HTLf := Lib.hid (HTL.out.ext hfl)
      have HTRf := Lib.hid (HTR.out.ext hfl)
      clear hfl
      go_wp2
      go_ret
      exact ⟨_, rfl, ⟨g9, .pointer pl, .pointer pr, rfl, HB8.out, HTLf.out, HTRf.out⟩, HEW.out⟩
theorem growTr_any (f : Nat) : GrowC f := by
  induction f with
  | zero => exact fun v u L hf h64 hg w S S' h h' => grow_nil 0 v u L (by omega) w S S' h h'
  | succ f ih =>
    intro v u L hf h64 hg w S S' h h'
    by_cases h0 : L.length = 0
    · exact grow_nil (f + 1) v u L h0 w S S' h h'
    · obtain ⟨A, cap, rfl, _⟩ := id h
      obtain ⟨A', cap', rfl, _⟩ := id h'
      rw [prios_length] at h' ⊢
      exact grow_cons f ih A A' cap cap' L h0 hf h64 hg w S S' h h'
end Go.Proofs.Ytikpakhccmdmcaa
