/- What the walk of the law FnExactLinksOf needs, part 4 of 4. No condition. -/
import Derived.Test.YteegnbdgfedajaaPFnExactLinksOf3
/- Keys that are not one key: the program strikes the others. No condition. -/
namespace Go.Proofs.Yteegnbdgfedajaa
open Go.RowKit
set_option linter.unusedVariables false
set_option linter.unusedSimpArgs false

def notK (K x : List Int) : Bool := !decide (x = K)
set_option maxHeartbeats 1000000 in
set_option maxRecDepth 100000 in
theorem keyFn_any (x K : List Int) (hx : K32 x) (hK : K32 K) (p : Nat) (w : World) (hp : Blk w p 40 (numsA .u8 K)) :
    Calls Try.prog 102 #[.agg (numsA .u8 x), .pointer (some ⟨p, 0, none⟩)] w fun q w' => q = .returned (.bool (!notK K x)) ∧ Ext w w' := by
  have e : (!notK K x) = decide (x = K) := by unfold notK; simp
  rw [e]
  have heq := run_eqKey x K hx hK
  have HP := Lib.hid hp
  have hs1 := sizeN (k := .u8) hx.1
  have hs2 := sizeN (k := .u8) hK.1
  clear hp
  obtain ⟨r, hr⟩ : ∃ r, decide (x = K) = r := ⟨_, rfl⟩
  rw [hr] at heq ⊢
  clear hr e
  go_enter Try.func102, Try.ntmps102
  go_wp2_with (first
    | (refine wpl_loadB (Blk.new w 40 (numsA .u8 x)) aggKey hs1 rfl _ rfl rfl ?_)
    | (refine wpl_loadB (HP.out.alloc _) aggKey hs2 rfl _ rfl rfl ?_))
  go_ret
  exact ⟨rfl, ext_alloc _ _⟩
set_option maxHeartbeats 1000000 in
set_option maxRecDepth 100000 in
theorem keyIdx_any (v : Value) (xs : List (List Int)) (K : List Int) (hK : K32 K) (p : Nat) (w : World) (S : Nat → Prop) (h : RdL tKey w S v xs) (hp : Blk w p 40 (numsA .u8 K)) :
    Calls Try.prog 115 #[v, .func (.func 102) #[] #[.pointer (some ⟨p, 0, none⟩)]] w fun q w' => (∃ k : Nat, k ≤ xs.length ∧ (∀ j (hj : j < xs.length), j < k → notK K xs[j] = true) ∧ ((k = xs.length ∧ q = .returned (.int .i64 (-1))) ∨ (∃ hk : k < xs.length, notK K xs[k] = false ∧ q = .returned (.int .i64 k)))) ∧ Ext w w' := by
  obtain ⟨A, cap, rfl, hcap, hlen, hrd, hok⟩ := h
  have Hrd := Lib.hid hrd
  have Hok := Lib.hid hok
  have HP := Lib.hid hp
  clear hrd hok hp
  go_enter Try.func115, Try.ntmps115
  go_wp2
  go_loopw [8] (fun i wr => ∃ k : Nat, k ≤ xs.length ∧ i = .int .i64 k ∧ (∀ j (hj : j < xs.length), j < k → notK K xs[j] = true) ∧ Ext w wr) (fun i _ => xs.length - (intOf i).toNat)
  case atStart => exact ⟨0, by omega, rfl, fun j hj h => by omega, Ext.refl _⟩
  case round =>
    obtain ⟨k, hk, rfl, hm, hx⟩ := hrel
    have HX := Lib.hid hx
    have HM := Lib.hid hm
    clear hx hm
    by_cases hlt : k < xs.length
    · obtain ⟨g, o, rfl, hs0, hc⟩ := Hrd.out.elem Hok.out k hlt
      have HD0 := Lib.hid (show ∀ j u, (nums .u8 xs[k])[j]? = some u → wr.cell? ⟨g, o + k * 32 + j, none⟩ = some u from fun j u hu => HX.out.cell (hc j u hu))
      have HK := Lib.hid (show K32 xs[k] from Hok.out _ (List.getElem_mem hlt))
      have hkl := HK.out.1
      have hf := keyFn_any xs[k] K HK.out hK p wr (HP.out.ext HX.out)
      have hk0 : (0 : Int) ≤ (k : Int) := by omega
      have hk2 : (k : Int) < (xs.length : Int) := by omega
      clear hc
      cases hq : notK K xs[k] with
      | true =>
        simp only [hq] at hf
        go_wp2_with (refine wpl_load ⟨g, o + k * 32, none⟩ (nums .u8 xs[k]) (by rw [nums_length, hkl]; exact aggKey) rfl _ rfl rfl (fun j u hu => by rw [Addr.add_lit]; exact HD0.out j u hu) ?_)
        refine hf.mono ?_
        rintro e w1 ⟨rfl, hx⟩
        have HX1 := Lib.hid (HX.out.trans hx)
        clear hx hf
        go_wp2
        go_roundw
        case rel => exact ⟨k + 1, by omega, by go_num, fun j hj h => by
          by_cases e : j = k
          · subst e; exact hq
          · exact HM.out j hj (by omega), HX1.out⟩
        case measure => simp [intOf]; omega
      | false =>
        simp only [hq] at hf
        go_wp2_with (refine wpl_load ⟨g, o + k * 32, none⟩ (nums .u8 xs[k]) (by rw [nums_length, hkl]; exact aggKey) rfl _ rfl rfl (fun j u hu => by rw [Addr.add_lit]; exact HD0.out j u hu) ?_)
        refine hf.mono ?_
        rintro e w1 ⟨rfl, hx⟩
        have HX1 := Lib.hid (HX.out.trans hx)
        clear hx hf
        go_wp2
        go_ret
        exact ⟨⟨k, hk, HM.out, .inr ⟨hlt, hq, rfl⟩⟩, HX1.out⟩
    · obtain rfl : k = xs.length := by omega
      go_wp2
      go_ret
      exact ⟨⟨xs.length, hk, HM.out, .inl ⟨rfl, rfl⟩⟩, HX.out⟩
def AtK (cur : Array Value) (i : Nat) (x : List Int) : Prop := ∀ j u, (nums .u8 x)[j]? = some u → cur[i * 32 + j]? = some u
theorem flat_key (xs : List (List Int)) (hok : ∀ x ∈ xs, K32 x) (i : Nat) (hi : i < xs.length) (j : Nat) (hj : j < 32) : (xs.flatMap tKey.enc)[i * 32 + j]? = (nums .u8 xs[i])[j]? := by
  have := flatN_at (sz := 32) (xs.map tKey.enc) (by intro es hes; obtain ⟨x, hx, rfl⟩ := List.mem_map.1 hes; exact tKey.len _ (hok x hx)) i (tKey.enc xs[i]) (by rw [List.getElem?_map, List.getElem?_eq_getElem hi]; rfl) j hj
  rw [← List.flatMap_def] at this
  exact this
theorem own_of_atK {w : World} {g t cap base : Nat} {cur : Array Value} {xs : List (List Int)} (hb : Blk w g t cur) (hg : base ≤ g) (hs : cur.size = cap * 32) (hn : xs.length ≤ cap) (hc : cap ≤ maxLen) (hl : xs.length ≤ 140737488355328) (hok : ∀ x ∈ xs, tKey.ok x) (hat : ∀ i (hi : i < xs.length), AtK cur i xs[i]) :
    Own tKey t w base (.slice (some ⟨g, 0, none⟩) xs.length cap) xs := by
  have hfl := flat_length tKey xs hok
  refine ⟨⟨hfl, .inr ⟨g, cap, cur, rfl, hg, hb, hn, hc, hs, ?_⟩⟩, hl, hok⟩
  apply List.ext_getElem?
  intro q
  show (List.take (xs.length * 32) cur.toList)[q]? = _
  by_cases hq : q < xs.length * 32
  · rw [List.getElem?_take_of_lt hq, Array.getElem?_toList]
    have hi : q / 32 < xs.length := by omega
    have hj : q % 32 < 32 := by omega
    have hlen : (nums .u8 xs[q / 32]).length = 32 := by rw [nums_length, (show K32 _ from hok _ (List.getElem_mem hi)).1]
    have h1 := hat _ hi (q % 32) _ (List.getElem?_eq_getElem (by rw [hlen]; exact hj))
    have h2 := flat_key xs hok _ hi (q % 32) hj
    rw [show q / 32 * 32 + q % 32 = q by omega] at h1 h2
    rw [h1, h2, List.getElem?_eq_getElem (by rw [hlen]; exact hj)]
  · rw [List.getElem?_eq_none (by simp; omega), List.getElem?_eq_none (by rw [hfl]; show xs.length * 32 ≤ q; omega)]
theorem at_of_ownK {w : World} {t base : Nat} {v : Value} {xs : List (List Int)} (h : Own tKey t w base v xs) (h0 : 0 < xs.length) :
    ∃ g cap cur, v = .slice (some ⟨g, 0, none⟩) xs.length cap ∧ base ≤ g ∧ g < w.heap.size ∧ Blk w g t cur ∧ cur.size = cap * 32 ∧ xs.length ≤ cap ∧ cap ≤ maxLen ∧ ∀ i (hi : i < xs.length), AtK cur i xs[i] := by
  have hbl := h.base_le
  obtain ⟨⟨hl, hx⟩, h2, h3⟩ := h
  rcases hx with ⟨rfl, hz⟩ | ⟨g, cap, cur, rfl, hb, hg, hc, hm, hs, ht⟩
  · omega
  · refine ⟨g, cap, cur, rfl, hb, (hbl g rfl).2, hg, hs, hc, hm, fun i hi j u hu => ?_⟩
    have hj : j < 32 := by
      have := (List.getElem?_eq_some_iff.1 hu).1
      rw [nums_length, (show K32 _ from h3 _ (List.getElem_mem hi)).1] at this
      exact this
    have h2 := flat_key xs h3 i hi j hj
    rw [← ht] at h2
    have hz : i * 32 + j < xs.length * tKey.sz := by show i * 32 + j < xs.length * 32; omega
    rw [List.getElem?_take_of_lt hz, Array.getElem?_toList] at h2
    rw [h2, hu]
theorem at_putK (cur : Array Value) (i : Nat) (x : List Int) (hx : x.length = 32) (h : i * 32 + 32 ≤ cur.size) : AtK (splice cur (i * 32) (nums .u8 x)) i x := fun j u hu => by
  have hj := (List.getElem?_eq_some_iff.1 hu).1
  rw [splice_in cur (i * 32) (nums .u8 x) (by rw [nums_length, hx]; exact h) j hj]
  exact hu
theorem at_farK {cur : Array Value} {i p : Nat} {x f : List Int} (hx : x.length = 32) (hf : f.length = 32) (h : i * 32 + 32 ≤ cur.size) (hp : p ≠ i) (ha : AtK cur p f) : AtK (splice cur (i * 32) (nums .u8 x)) p f := fun j u hu => by
  have hj := (List.getElem?_eq_some_iff.1 hu).1
  rw [nums_length, hf] at hj
  rw [splice_out _ _ _ (by rw [nums_length, hx]; exact h) _ (by rw [nums_length, hx]; omega)]
  exact ha j u hu
/-- keys of one's own are made empty -/
theorem run_clearK {w : World} {g off n : Nat} {cur : Array Value} {t : TypeId} (hn : 0 < n) (hb : Blk w g t cur) (h : off + n * 32 ≤ cur.size) :
    ∃ cs, cs.size = cur.size ∧ (∀ q, q < off → cs[q]? = cur[q]?) ∧ ∀ ty c, (Builtin.clear_ #[41] ty #[.slice (some ⟨g, off, none⟩) n c]).run Try.prog w = .ok (.tuple #[]) (w.setRow g cs) := by
  have hz : ∀ W : World, (zeroValue 40).run Try.prog W = .ok (.agg (numsA .u8 (List.replicate 32 0))) W := by
    intro W
    have hi : (Try.prog.info? 40).map (·.zero) = some (some (.agg (numsA .u8 (List.replicate 32 0)))) := by kernel_rfl
    cases hq : Try.prog.info? 40 with
    | none => simp [hq] at hi
    | some i =>
      have hz : i.zero = some (.agg (numsA .u8 (List.replicate 32 0))) := by simpa [hq] using hi
      simp [zeroValue, typeInfo, hq, hz]
  obtain ⟨Z, hZ⟩ : ∃ Z, numsA .u8 (List.replicate 32 0) = Z := ⟨_, rfl⟩
  have hZs : Z.size = 32 := by rw [← hZ]; simp [numsA, nums]
  have hZ1 : ∀ u ∈ Z.toList, u.oneCell' = true := by rw [← hZ]; intro u hu; exact one_nums _ _ u (by simpa [numsA] using hu)
  rw [hZ] at hz
  clear hZ
  obtain ⟨m, rfl⟩ : ∃ m, n = m + 1 := ⟨n - 1, by omega⟩
  have hl : (Builtin.zeroCells Z (m + 1)).toList.length = (m + 1) * 32 := by simp [size_zeroCells, hZs]
  have h1 : ∀ u ∈ (Builtin.zeroCells Z (m + 1)).toList, u.oneCell' = true := by
    intro u hu
    simp only [Builtin.zeroCells, Array.toList_map, List.mem_map] at hu
    obtain ⟨i, _, rfl⟩ := hu
    have hlt : i % Z.size < Z.size := Nat.mod_lt _ (by omega)
    rw [getElem!_pos Z (i % Z.size) hlt]
    exact hZ1 _ (Array.getElem_mem_toList hlt)
  have hst := run_storeCells_at Try.prog g off t (Builtin.zeroCells Z (m + 1)).toList 0 cur w hb (by rw [hl]; omega) h1
  simp only [Nat.add_zero] at hst
  refine ⟨splice cur off (Builtin.zeroCells Z (m + 1)).toList, splice_size _ _ _ (by rw [hl]; omega), fun q hq => splice_out _ _ _ (by rw [hl]; omega) _ (.inl hq), fun ty c => ?_⟩
  simp [Builtin.clear_, run_underlying Try.underlying41, hz, Value.cells, hst, splice]
theorem filter_next7 (p : List Int → Bool) (L : List (List Int)) (k : Nat) (h : k < L.length) : (L.take (k + 1)).filter p = (L.take k).filter p ++ (if p L[k] then [L[k]] else []) := by
  rw [List.take_succ_eq_append_getElem h, List.filter_append]
  congr 1
  by_cases hp : p L[k] <;> simp [hp]
theorem filter_all7 {p : List Int → Bool} {L : List (List Int)} {k : Nat} (hk : k ≤ L.length) (h : ∀ j (hj : j < L.length), j < k → p L[j] = true) : (L.take k).filter p = L.take k := by
  rw [List.filter_eq_self]
  intro x hx
  obtain ⟨i, hi, rfl⟩ := List.getElem_of_mem hx
  rw [List.getElem_take]
  rw [List.length_take] at hi
  exact h i (by omega) (by omega)
set_option maxHeartbeats 1000000 in
set_option maxRecDepth 100000 in
theorem keyDel_any (v : Value) (xs : List (List Int)) (K : List Int) (hK : K32 K) (p : Nat) (w : World) (base : Nat) (h : Own tKey 40 w base v xs) (hpb : p < base) (hp : Blk w p 40 (numsA .u8 K)) :
    Calls Try.prog 101 #[v, .func (.func 102) #[] #[.pointer (some ⟨p, 0, none⟩)]] w fun q w' => ∃ v', q = .returned v' ∧ Own tKey 40 w' base v' (xs.filter (notK K)) ∧ w.grownBy w' v.ownBlock := by
  have hix := keyIdx_any v xs K hK p w _ h.rd hp
  have HO := Lib.hid h
  have HP := Lib.hid hp
  have hlen := h.2.1
  obtain ⟨A, n, cap, rfl⟩ := h.shape3
  clear hp h
  go_enter Try.func101, Try.ntmps101
  go_wp2_with fail
  refine hix.mono ?_
  rintro q w1 ⟨⟨k, hk, hm, hq⟩, hx⟩
  have HX := Lib.hid hx
  clear hx hix
  rcases hq with ⟨rfl, rfl⟩ | ⟨hlt, hout, rfl⟩
  · have e : xs.filter (notK K) = xs := by
      have := filter_all7 (p := notK K) hk hm
      rwa [List.take_length] at this
    have HE := Lib.hid e
    clear e hm
    go_wp2
    go_ret
    exact ⟨_, rfl, by rw [HE.out]; exact HO.out.ext HX.out, ext_grown _ HX.out⟩
  · obtain ⟨g, cap', cur, e, hgb, hgl, hB, hcs, hnc, hcm, hat⟩ := at_of_ownK HO.out (by omega)
    obtain ⟨rfl, rfl, rfl⟩ := Value.slice.inj e
    have HB := Lib.hid (hB.ext HX.out)
    have HAT := Lib.hid hat
    have HOK := Lib.hid HO.out.2.2
    have HF := Lib.hid (filter_all7 (p := notK K) hk hm)
    have hki : ((k : Int) == -1) = false := by rw [beq_eq_false_iff_ne]; omega
    clear hB hat hm e
    go_wp2
    go_loopw [5, 6] (fun a b wr => ∃ i j : Nat, i < j ∧ j ≤ xs.length ∧ a = .int .i64 i ∧ b = .int .i64 j ∧ (∃ F, (xs.take j).filter (notK K) = F ∧ F.length = i ∧ ∃ cur', Blk wr g 40 cur' ∧ cur'.size = cap * 32 ∧ (∀ q (hq : q < F.length), AtK cur' q F[q]) ∧ (∀ q (hq : q < xs.length), j ≤ q → AtK cur' q xs[q])) ∧ w.grownBy wr (some g)) (fun _ b _ => xs.length - (intOf b).toNat)
    case atStart => exact ⟨k, k + 1, by omega, by omega, rfl, by go_num, ⟨xs.take k, by rw [filter_next7 _ _ _ hlt, HF.out, hout]; simp, by rw [List.length_take]; omega, cur, HB.out, hcs, fun q hq => by rw [List.getElem_take]; exact HAT.out q _, fun q hq _ => HAT.out q hq⟩, ext_grown _ HX.out⟩
    case round =>
      clear HB HAT HF
      obtain ⟨i, j, hij, hj, rfl, rfl, ⟨F, hF, hFl, cur', hB', hs', ha1, ha2⟩, hg⟩ := hrel
      have HB := Lib.hid hB'
      have HA1 := Lib.hid ha1
      have HA2 := Lib.hid ha2
      have HF := Lib.hid hF
      have HG := Lib.hid hg
      have HFO := Lib.hid (show ∀ x ∈ F, x.length = 32 from fun x hx => by rw [← hF] at hx; exact (HOK.out x (List.mem_of_mem_take (List.mem_filter.1 hx).1)).1)
      clear hB' ha1 ha2 hF hg
      by_cases hlj : j < xs.length
      · have hcell := (HA2.out j hlj (Nat.le_refl _))
        have HK := Lib.hid (show K32 xs[j] from HOK.out _ (List.getElem_mem hlj))
        have hkl := HK.out.1
        have hkn : (nums .u8 xs[j]).length = 32 := by rw [nums_length, hkl]
        have HD0 := Lib.hid (show ∀ q u, (nums .u8 xs[j])[q]? = some u → wr.cell? ⟨g, 0 + j * 32 + q, none⟩ = some u from fun q u hu => by
          rw [HB.out.cell, Nat.zero_add]
          exact hcell q u hu)
        clear hcell
        have hj0 : (0 : Int) ≤ (j : Int) := by omega
        have hj2 : (j : Int) < (xs.length : Int) := by omega
        have hi0 : (0 : Int) ≤ (i : Int) := by omega
        have hi2 : (i : Int) < (xs.length : Int) := by omega
        have hpg : p ≠ g := by omega
        have HPw := Lib.hid (HP.out.grown HG.out (fun e => hpg (Option.some.inj e)))
        have hst2 : St 32 (numsA .u8 xs[j]) := St.nums hkl
        have hsz2 := sizeN (k := .u8) hkl
        have hf := fun W hp => keyFn_any xs[j] K HK.out hK p W hp
        have HN := Lib.hid (filter_next7 (notK K) xs j hlj)
        go_wp2_with (first
          | (refine wpl_load ⟨g, j * 32, none⟩ (nums .u8 xs[j]) (by rw [hkn]; exact aggKey) rfl _ rfl rfl (fun q u hu => by rw [Addr.add_lit, ← HD0.out q u hu, Nat.zero_add]) ?_)
          | (refine wpl_storeNewB aggKey hst2 rfl rfl _ _ rfl rfl rfl rfl ?_)
          | (refine wpl_loadB (Blk.new wr _ _) aggKey hsz2 rfl _ rfl rfl ?_))
        refine (hf _ (HPw.out.alloc _)).mono ?_
        rintro e w2 ⟨rfl, hx⟩
        have HB2 := Lib.hid ((HB.out.alloc (.cells (numsA .u8 xs[j]) 40)).ext hx)
        have BV := Lib.hid ((Blk.new wr 40 (numsA .u8 xs[j])).ext hx)
        have HG2 := Lib.hid (grown_ext HG.out ((ext_alloc _ _).trans hx))
        clear hx hf HB HG HPw HD0
        cases hq : notK K xs[j] with
        | false =>
          go_wp2
          go_roundw
          case rel => exact ⟨i, j + 1, by omega, by omega, rfl, by go_num, ⟨F, by rw [HN.out, HF.out, hq]; simp, hFl, cur', HB2.out, hs', HA1.out, fun q hq h => HA2.out q hq (by omega)⟩, HG2.out⟩
          case measure => simp [intOf]; omega
        | true =>
          have hin : i * 32 + 32 ≤ cur'.size := by rw [hs']; omega
          go_wp2_with (first
            | (refine wpl_loadB BV.out aggKey hsz2 rfl _ rfl rfl ?_)
            | (refine wpl_storeP (off := i * 32) HB2.out aggKey hst2 hin rfl _ _ rfl rfl rfl rfl ?_))
          go_roundw
          case rel => exact ⟨i + 1, j + 1, by omega, by omega, by go_num, by go_num, ⟨F ++ [xs[j]], by rw [HN.out, HF.out, hq]; simp, by simp [hFl], _, HB2.out.setRow _, by rw [splice_size _ _ _ (by simpa [numsA, nums_length, hkl] using hin), hs'], fun q hq => by
            by_cases e : q = i
            · subst e
              have e2 : (F ++ [xs[j]])[q] = xs[j] := by rw [List.getElem_append_right (by omega)]; simp
              rw [e2]
              exact at_putK cur' q xs[j] hkl (by omega)
            · have hqF : q < F.length := by simp at hq; omega
              rw [List.getElem_append_left hqF]
              exact at_farK hkl (HFO.out _ (List.getElem_mem hqF)) hin e (HA1.out q hqF), fun q hq h => at_farK hkl (HOK.out _ (List.getElem_mem hq)).1 hin (by omega) (HA2.out q hq (by omega))⟩, grown_row HG2.out _⟩
          case measure => simp [intOf]; omega
      · obtain rfl : j = xs.length := by omega
        rw [List.take_length] at HF
        obtain ⟨cs, hcs1, hcs2, hcl⟩ := run_clearK (off := i * 32) (n := xs.length - i) (by omega) HB.out (by rw [hs']; omega)
        have HC2 := Lib.hid hcs2
        have hi0 : (0 : Int) ≤ (i : Int) := by omega
        have hi2 : (i : Int) ≤ (xs.length : Int) := by omega
        have hi3 : (xs.length : Int) ≤ (cap : Int) := by omega
        have hi4 : (i : Int) ≤ (cap : Int) := by omega
        clear hcs2
        go_wp2
        go_ret
        obtain rfl := hFl
        refine ⟨_, rfl, ?_, grown_row HG.out _⟩
        rw [HF.out]
        refine own_of_atK (HB.out.setRow cs) hgb (by rw [hcs1, hs']) (by omega) hcm (by omega) (fun x hx => ?_) (fun q hq z u hu => ?_)
        · rw [← HF.out] at hx; exact HOK.out x (List.mem_filter.1 hx).1
        · have hz : z < 32 := by
            have := (List.getElem?_eq_some_iff.1 hu).1
            rw [nums_length, (HFO.out _ (List.getElem_mem hq))] at this
            exact this
          rw [HC2.out _ (by omega)]
          exact HA1.out q hq z u hu
end Go.Proofs.Yteegnbdgfedajaa
/- The links of a blob: the program. No condition. -/
namespace Go.Proofs.Yteegnbdgfedajaa
open Go.RowKit
set_option linter.unusedVariables false
set_option linter.unusedSimpArgs false

theorem run_build2 {P : Program} {t e n : Nat} {c1 c2 : Array Value} (W : World) (ht : P.underlying t = some (.slice e)) (hz : (P.info? e).map (fun i => (i.size, i.zero.isSome)) = some (n, true)) (hn : c1.size = n) (hn2 : c2.size = n) (h0 : 0 < n) (h1 : n ≤ 1000) :
    (Instr.buildSlice t 2 #[(0, .agg c1), (1, .agg c2)]).run P W = .ok (.slice (some ⟨W.heap.size, 0, none⟩) 2 2) (W.alloc (.cells (c1 ++ c2) e)) := by
  cases hq : P.info? e with
  | none => simp [hq] at hz
  | some i =>
    have hz' : i.size = n ∧ i.zero.isSome = true := by simpa [hq] using hz
    obtain ⟨hs, hz2⟩ := hz'
    obtain ⟨z, hz3⟩ := Option.isSome_iff_exists.1 hz2
    have hf : ∀ Z : Array Value, Z.size = 2 * n → Instr.fill (fun i => some (i * n, n)) Z [(0, .agg c1), (1, .agg c2)] = some (c1 ++ c2) := fun Z hZ => by
      have e1 : splice Z 0 c1.toList = (c1.toList ++ Z.toList.drop n).toArray := by
        have := splice_next [] Z.toList c1.toList (o := 0) rfl
        rw [Array.length_toList, hn] at this
        simpa using this
      have e2 : splice (c1.toList ++ Z.toList.drop n).toArray n c2.toList = (c1 ++ c2) := by
        have := splice_next c1.toList (Z.toList.drop n) c2.toList (o := n) (by rw [Array.length_toList, hn])
        rw [this, Array.length_toList, hn2, List.drop_drop, List.drop_eq_nil_of_le (by rw [Array.length_toList, hZ]; omega), List.append_nil]
        apply Array.toList_inj.1
        simp
      rw [fill_one _ _ 0 0 n _ _ (by simp) (by simp only [Value.cells]; exact hn) (by omega), show (Value.agg c1).cells = c1 from rfl, e1,
        fill_one _ _ 1 n n _ _ (by simp) (by simp only [Value.cells]; exact hn2) (by simp [hn, hZ]; omega), show (Value.agg c2).cells = c2 from rfl, e2, Instr.fill]
    have hff := hf ((Array.range (2 * n)).map fun x => z.cells[x % z.cells.size]!) (by simp)
    simp [Instr.buildSlice, run_underlying ht, sizeOf, typeInfo, zeroValue, hq, hs, hz3, newRow, show ¬ n = 0 by omega, show ¬ 16777216 < 2 * n by omega, show ¬ 2 * n = 0 by omega, hff]
/-- a slice of two arrays -/
theorem wpl_build2 {P : Program} {ops : Array Oper} {rest : List Oper} {o : Oper} {a : Act} {w : World} {Q : Exit → Act → World → Prop} {t e n : Nat} {c1 c2 : Array Value} (ht : P.underlying t = some (.slice e)) (hz : (P.info? e).map (fun i => (i.size, i.zero.isSome)) = some (n, true)) (hn : c1.size = n) (hn2 : c2.size = n) (h0 : 0 < n) (h1 : n ≤ 1000)
    (hgd : o.guard = none) (x y : Operand) (ho : o.op = .buildSlice t 2 #[(0, x), (1, y)]) (hx : a.eval x = .agg c1) (hy : a.eval y = .agg c2)
    (h : wpList P ops Q rest (a.put o.dst (.slice (some ⟨w.heap.size, 0, none⟩) 2 2)) (w.alloc (.cells (c1 ++ c2) e))) : wpList P ops Q (o :: rest) a w := by
  refine wpList_plain hgd fun K hK => ?_
  have hrun := run_build2 (P := P) w ht hz hn hn2 h0 h1
  have hm : (#[((0 : Nat), x), (1, y)] : Array (Nat × Operand)).map (fun p => (p.1, a.eval p.2)) = #[(0, .agg c1), (1, .agg c2)] := by simp [hx, hy]
  unfold Oper.wp execOp
  simp only [ho, hm, hrun, Sem.run_bind, Result.andThen_ok, Sem.run_pure]
  exact hK _ _ h
theorem zeroKy : (Try.prog.info? 40).map (fun i => (i.size, i.zero.isSome)) = some (32, true) := by kernel_rfl
theorem blocksL_take7 (l : List Int) (n m : Nat) (h : 32 * n ≤ m) : blocksL (l.take m) n = blocksL l n := by
  unfold blocksL
  refine List.map_congr_left fun i hi => ?_
  rw [List.mem_range] at hi
  rw [blockL_eq, blockL_eq, List.drop_take, List.take_take]
  congr 1
  omega
theorem pair_filter (l r : List Int) : [l, r].filter (notK emptyL) = one l ++ one r := by
  unfold one notK
  by_cases h1 : l = emptyL <;> by_cases h2 : r = emptyL <;> simp [h1, h2]
set_option maxHeartbeats 4000000 in
set_option maxRecDepth 100000 in
theorem il2 (t : Int) (d : List Int) (A : Option Addr) (cap : Nat) (w : World) (S : Nat → Prop) (h : RdL tByte w S (.slice A d.length cap) d) (hdl : d.length ≤ 1048576) (ht : t = 2) (hl : d.length = 64) :
    Calls Try.prog 76 #[.agg #[.int .u8 t, .slice A d.length cap]] w fun e w' => ∃ v', e = .returned v' ∧ Own tKey 40 w' w.heap.size v' (blocksL (d.drop 0) 2) ∧ Ext w w' := by
  have H := Lib.hid h
  have B0 := Lib.hid (Blk.new w 65 #[.int .u8 t, .slice A d.length cap])
  subst ht
  have i1 : ((d.length : Int) == 64) = true := by rw [beq_iff_eq]; omega
  have HC := Lib.hid (fun W (hW : Ext w W) => keysInK_any (.slice A d.length cap) d 2 W S (h.ext (by decide) hW) (by omega) (by omega))
  clear h hl
  go_enter Try.func76, Try.ntmps76
  go_wp2_with fail
  refine (HC.out _ (ext_alloc _ _)).mono ?_
  rintro e w1 ⟨v', rfl, ho, hx⟩
  obtain ⟨C, cn, cc, rfl⟩ := ho.shape3
  have HO := Lib.hid ho
  have HX := Lib.hid ((ext_alloc w _).trans hx)
  clear ho hx
  go_wp2
  go_ret
  exact ⟨_, rfl, HO.out.le (by simp), HX.out⟩
set_option maxHeartbeats 4000000 in
set_option maxRecDepth 100000 in
theorem il2n (t : Int) (d : List Int) (A : Option Addr) (cap : Nat) (w : World) (S : Nat → Prop) (h : RdL tByte w S (.slice A d.length cap) d) (hdl : d.length ≤ 1048576) (ht : t = 2) (hl : d.length ≠ 64) :
    Calls Try.prog 76 #[.agg #[.int .u8 t, .slice A d.length cap]] w fun e w' => ∃ v', e = .returned v' ∧ Own tKey 40 w' w.heap.size v' [] ∧ Ext w w' := by
  have H := Lib.hid h
  have B0 := Lib.hid (Blk.new w 65 #[.int .u8 t, .slice A d.length cap])
  subst ht
  have i1 : ((d.length : Int) == 64) = false := by rw [beq_eq_false_iff_ne]; omega
  clear h
  go_enter Try.func76, Try.ntmps76
  go_wp2_with fail
  go_ret
  exact ⟨_, rfl, Own.nil _ _ _ _, ext_alloc _ _⟩
set_option maxHeartbeats 4000000 in
set_option maxRecDepth 100000 in
theorem il6 (t : Int) (d : List Int) (A : Option Addr) (cap : Nat) (w : World) (S : Nat → Prop) (h : RdL tByte w S (.slice A d.length cap) d) (hdl : d.length ≤ 1048576) (ht : t = 6) (hl : d.length % 32 = 0) :
    Calls Try.prog 76 #[.agg #[.int .u8 t, .slice A d.length cap]] w fun e w' => ∃ v', e = .returned v' ∧ Own tKey 40 w' w.heap.size v' (blocksL (d.drop 0) (d.length / 32)) ∧ Ext w w' := by
  have H := Lib.hid h
  have B0 := Lib.hid (Blk.new w 65 #[.int .u8 t, .slice A d.length cap])
  subst ht
  have i1 : ((d.length : Int) % 32 == 0) = true := by rw [beq_iff_eq]; omega
  have HC := Lib.hid (fun W (hW : Ext w W) => keysInK_any (.slice A d.length cap) d (d.length / 32) W S (h.ext (by decide) hW) (by omega) (by omega))
  clear h hl
  go_enter Try.func76, Try.ntmps76
  go_wp2_with fail
  refine (HC.out _ (ext_alloc _ _)).mono ?_
  rintro e w1 ⟨v', rfl, ho, hx⟩
  obtain ⟨C, cn, cc, rfl⟩ := ho.shape3
  have HO := Lib.hid ho
  have HX := Lib.hid ((ext_alloc w _).trans hx)
  clear ho hx
  go_wp2
  go_ret
  exact ⟨_, rfl, HO.out.le (by simp), HX.out⟩
set_option maxHeartbeats 4000000 in
set_option maxRecDepth 100000 in
theorem il6n (t : Int) (d : List Int) (A : Option Addr) (cap : Nat) (w : World) (S : Nat → Prop) (h : RdL tByte w S (.slice A d.length cap) d) (hdl : d.length ≤ 1048576) (ht : t = 6) (hl : d.length % 32 ≠ 0) :
    Calls Try.prog 76 #[.agg #[.int .u8 t, .slice A d.length cap]] w fun e w' => ∃ v', e = .returned v' ∧ Own tKey 40 w' w.heap.size v' [] ∧ Ext w w' := by
  have H := Lib.hid h
  have B0 := Lib.hid (Blk.new w 65 #[.int .u8 t, .slice A d.length cap])
  subst ht
  have i1 : ((d.length : Int) % 32 == 0) = false := by rw [beq_eq_false_iff_ne]; omega
  clear h
  go_enter Try.func76, Try.ntmps76
  go_wp2_with fail
  go_ret
  exact ⟨_, rfl, Own.nil _ _ _ _, ext_alloc _ _⟩
set_option maxHeartbeats 4000000 in
set_option maxRecDepth 100000 in
theorem il0 (t : Int) (d : List Int) (A : Option Addr) (cap : Nat) (w : World) (S : Nat → Prop) (h : RdL tByte w S (.slice A d.length cap) d) (hdl : d.length ≤ 1048576) (h2 : t ≠ 2) (h5 : t ≠ 5) (h6 : t ≠ 6) (h7 : t ≠ 7) :
    Calls Try.prog 76 #[.agg #[.int .u8 t, .slice A d.length cap]] w fun e w' => ∃ v', e = .returned v' ∧ Own tKey 40 w' w.heap.size v' [] ∧ Ext w w' := by
  have H := Lib.hid h
  have B0 := Lib.hid (Blk.new w 65 #[.int .u8 t, .slice A d.length cap])
  have i2 : (t == 2) = false := by rw [beq_eq_false_iff_ne]; omega
  have i5 : (t == 5) = false := by rw [beq_eq_false_iff_ne]; omega
  have i6 : (t == 6) = false := by rw [beq_eq_false_iff_ne]; omega
  have i7 : (t == 7) = false := by rw [beq_eq_false_iff_ne]; omega
  clear h
  go_enter Try.func76, Try.ntmps76
  go_wp2_with fail
  go_ret
  exact ⟨_, rfl, Own.nil _ _ _ _, ext_alloc _ _⟩
set_option maxHeartbeats 4000000 in
set_option maxRecDepth 100000 in
theorem il7e (t : Int) (d : List Int) (A : Option Addr) (cap : Nat) (w : World) (S : Nat → Prop) (h : RdL tByte w S (.slice A d.length cap) d) (hdl : d.length ≤ 1048576) (ht : t = 7) (h0 : d.length = 0) :
    Calls Try.prog 76 #[.agg #[.int .u8 t, .slice A d.length cap]] w fun e w' => ∃ v', e = .returned v' ∧ Own tKey 40 w' w.heap.size v' [] ∧ Ext w w' := by
  have H := Lib.hid h
  have B0 := Lib.hid (Blk.new w 65 #[.int .u8 t, .slice A d.length cap])
  subst ht
  have i5 : decide ((0 : Int) < (d.length : Int)) = false := decide_eq_false (by omega)
  have i5n : ¬ (0 < d.length) := by omega
  clear h0
  clear h
  go_enter Try.func76, Try.ntmps76
  go_wp2_with fail
  go_ret
  exact ⟨_, rfl, Own.nil _ _ _ _, ext_alloc _ _⟩
set_option maxHeartbeats 4000000 in
set_option maxRecDepth 100000 in
theorem il7n (t : Int) (d : List Int) (A : Option Addr) (cap : Nat) (w : World) (S : Nat → Prop) (h : RdL tByte w S (.slice A d.length cap) d) (hdl : d.length ≤ 1048576) (ht : t = 7) (n : Nat) (h1 : gI d 0 = (n : Int)) (h3 : n ≤ 255) (h0 : 0 < d.length) (h4 : d.length < 1 + 32 * n) :
    Calls Try.prog 76 #[.agg #[.int .u8 t, .slice A d.length cap]] w fun e w' => ∃ v', e = .returned v' ∧ Own tKey 40 w' w.heap.size v' [] ∧ Ext w w' := by
  have H := Lib.hid h
  have B0 := Lib.hid (Blk.new w 65 #[.int .u8 t, .slice A d.length cap])
  subst ht
  obtain ⟨A', cap', e0, hcap, hlen, hrd, hok⟩ := id h
  injection e0 with e1 e2 e3
  subst e1 e3
  have Hrd := Lib.hid (show Rd w S 1 A d.length (nums .u8 d) by rw [← flat_bytes]; exact hrd)
  have Hok := Lib.hid (show B8 d from hok)
  clear hrd hok
  obtain ⟨g, o, rfl, hs, hc0⟩ := (Hrd.out).byte 0 (by omega)
  rw [h1] at hc0
  have hc1 : w.cell? ⟨g, o, none⟩ = some (.int .u8 (n : Int)) := hc0
  have hc2 : ∀ z, (w.alloc z).cell? ⟨g, o, none⟩ = some (.int .u8 (n : Int)) := fun z => (ext_alloc w z).cell hc1
  clear hc0
  have hwn : IntKind.i64.wrap (n : Int) = (n : Int) := IntWalk.i64_in _ (by omega)
  have hww : IntKind.i64.wrap (1 + 32 * (n : Int)) = 1 + 32 * (n : Int) := IntWalk.i64_in _ (by omega)
  have hw3 : IntKind.i64.wrap (32 * (n : Int)) = 32 * (n : Int) := IntWalk.i64_in _ (by omega)
  have i5 : decide ((0 : Int) < (d.length : Int)) = true := decide_eq_true (by omega)
  have i6 : (0 : Int) < (d.length : Int) := by omega
  have i7 : decide (1 + 32 * (n : Int) ≤ (d.length : Int)) = false := decide_eq_false (by omega)
  clear h h1
  go_enter Try.func76, Try.ntmps76
  go_wp2_with fail
  go_ret
  exact ⟨_, rfl, Own.nil _ _ _ _, ext_alloc _ _⟩
set_option maxHeartbeats 4000000 in
set_option maxRecDepth 100000 in
theorem il7 (t : Int) (d : List Int) (A : Option Addr) (cap : Nat) (w : World) (S : Nat → Prop) (h : RdL tByte w S (.slice A d.length cap) d) (hdl : d.length ≤ 1048576) (ht : t = 7) (n : Nat) (h1 : gI d 0 = (n : Int)) (h3 : n ≤ 255) (h0 : 0 < d.length) (h4 : 1 + 32 * n ≤ d.length) :
    Calls Try.prog 76 #[.agg #[.int .u8 t, .slice A d.length cap]] w fun e w' => ∃ v', e = .returned v' ∧ Own tKey 40 w' w.heap.size v' (blocksL (d.drop 1) n) ∧ Ext w w' := by
  have H := Lib.hid h
  have B0 := Lib.hid (Blk.new w 65 #[.int .u8 t, .slice A d.length cap])
  subst ht
  obtain ⟨A', cap', e0, hcap, hlen, hrd, hok⟩ := id h
  injection e0 with e1 e2 e3
  subst e1 e3
  have Hrd := Lib.hid (show Rd w S 1 A d.length (nums .u8 d) by rw [← flat_bytes]; exact hrd)
  have Hok := Lib.hid (show B8 d from hok)
  clear hrd hok
  obtain ⟨g, o, rfl, hs, hc0⟩ := (Hrd.out).byte 0 (by omega)
  rw [h1] at hc0
  have hc1 : w.cell? ⟨g, o, none⟩ = some (.int .u8 (n : Int)) := hc0
  have hc2 : ∀ z, (w.alloc z).cell? ⟨g, o, none⟩ = some (.int .u8 (n : Int)) := fun z => (ext_alloc w z).cell hc1
  clear hc0
  have hwn : IntKind.i64.wrap (n : Int) = (n : Int) := IntWalk.i64_in _ (by omega)
  have hww : IntKind.i64.wrap (1 + 32 * (n : Int)) = 1 + 32 * (n : Int) := IntWalk.i64_in _ (by omega)
  have hw3 : IntKind.i64.wrap (32 * (n : Int)) = 32 * (n : Int) := IntWalk.i64_in _ (by omega)
  have i5 : decide ((0 : Int) < (d.length : Int)) = true := decide_eq_true (by omega)
  have i6 : (0 : Int) < (d.length : Int) := by omega
  have i7 : decide (1 + 32 * (n : Int) ≤ (d.length : Int)) = true := decide_eq_true (by omega)
  obtain ⟨Z, hZ, hkeys⟩ : ∃ Z, (if cap = 1 then (some ⟨g, o, none⟩ : Option Addr) else some ⟨g, o + 1, none⟩) = Z ∧ ∀ W, Ext w W → Calls Try.prog 57 #[.slice Z (32 * n) (cap - 1)] W fun e w' => ∃ v', e = .returned v' ∧ Own tKey 40 w' W.heap.size v' (blocksL (d.drop 1) n) ∧ Ext W w' := by
    have hl1 : ((d.drop 1).take (32 * n)).length = 32 * n := by simp; omega
    refine ⟨_, rfl, fun W hW => ?_⟩
    have hb : RdL tByte w S (.slice (if cap = 1 then (some ⟨g, o, none⟩ : Option Addr) else some ⟨g, o + 1, none⟩) (32 * n) (cap - 1)) ((d.drop 1).take (32 * n)) := by
      by_cases kc : cap = 1
      · obtain rfl : n = 0 := by omega
        rw [show ((d.drop 1).take (32 * 0)) = [] from by simp, Nat.mul_zero]
        exact ⟨_, cap - 1, rfl, Nat.zero_le _, Nat.zero_le _, Rd.nil _ _ _ _, fun x hx => by cases hx⟩
      · rw [if_neg kc]
        exact ⟨_, cap - 1, by rw [hl1], by rw [hl1]; omega, by rw [hl1]; omega, Hrd.out.sub8 1 (32 * n) (by omega), fun x hx => Hok.out x (List.mem_of_mem_drop (List.mem_of_mem_take hx))⟩
    have := keysInK_any _ _ n W S (hb.ext (by decide) hW) hl1 (by omega)
    rw [blocksL_take7 _ _ _ (Nat.le_refl _)] at this
    exact this
  have HC := Lib.hid hkeys
  have e1 : (1 + 32 * (n : Int)).toNat = 1 + 32 * n := by omega
  have i0 : (0 : Int) ≤ 1 + 32 * (n : Int) := by omega
  have i1 : (1 : Int) ≤ 1 + 32 * (n : Int) := by omega
  have i2 : 1 + 32 * (n : Int) ≤ (cap : Int) := by omega
  clear h h1 hkeys
  go_enter Try.func76, Try.ntmps76
  go_wp2_with fail
  have X0 := Lib.hid (ext_alloc w (.cells #[.int .u8 7, .slice (some ⟨g, o, none⟩) d.length cap] 65))
  have hgs : (w.alloc (.cells #[.int .u8 7, .slice (some ⟨g, o, none⟩) d.length cap] 65)).heap.size = w.heap.size + 1 := by simp
  generalize w.alloc (.cells #[.int .u8 7, .slice (some ⟨g, o, none⟩) d.length cap] 65) = w0 at B0 X0 hgs ⊢
  have k0 : ∀ W, Ext w0 W → W.cell? ⟨w.heap.size, 1, none⟩ = some (.slice (some ⟨g, o, none⟩) d.length cap) := fun W hW => (B0.out.ext hW).at_ 1 rfl
  have k1 : ∀ W, Ext w0 W → W.cell? ⟨g, o, none⟩ = some (.int .u8 (n : Int)) := fun W hW => (X0.out.trans hW).cell hc1
  clear hc1 hc2
  refine wp_region_held_drew (S := fun W => Ext w0 W) (by kernel_rfl) (Ext.refl _).drew (fun hHeld => ?_)
  refine wpAnyH_take (i := 0) (oi := ?oiz1) (v := ?vz1) ?hiz1 (by kernel_rfl) (by kernel_rfl) (by kernel_rfl) ?hQz1 ?hyz1 (by assumption) ?restz1
  case hiz1 => simp only [List.getElem?_toArray, List.getElem?_cons_zero, List.getElem?_cons_succ]; rfl
  case hQz1 => exact fun _ _ _ h => h
  case hyz1 => exact Or.inl ⟨by rfl, by intro w hSw; (try dsimp only at hSw); go_simp; with_reducible rfl⟩
  try simp only [Act.put, List.setIfInBounds_toArray, List.set_cons_zero, List.set_cons_succ]
  refine wpAnyH_take (i := 1) (oi := ?oiz2) (v := ?vz2) ?hiz2 (by kernel_rfl) (by kernel_rfl) (by kernel_rfl) ?hQz2 ?hyz2 (by assumption) ?restz2
  case hiz2 => simp only [List.getElem?_toArray, List.getElem?_cons_zero, List.getElem?_cons_succ]; rfl
  case hQz2 => exact fun _ _ _ h => h
  case hyz2 => exact Or.inl ⟨by rfl, by intro w hSw; (try dsimp only at hSw); have q0 := k0 _ hSw; have q1 := k1 _ hSw; go_simp; with_reducible rfl⟩
  try simp only [Act.put, List.setIfInBounds_toArray, List.set_cons_zero, List.set_cons_succ]
  refine wpAnyH_take (i := 2) (oi := ?oiz3) (v := ?vz3) ?hiz3 (by kernel_rfl) (by kernel_rfl) (by kernel_rfl) ?hQz3 ?hyz3 (by assumption) ?restz3
  case hiz3 => simp only [List.getElem?_toArray, List.getElem?_cons_zero, List.getElem?_cons_succ]; rfl
  case hQz3 => exact fun _ _ _ h => h
  case hyz3 => exact Or.inl ⟨by rfl, by intro w hSw; (try dsimp only at hSw); go_simp; with_reducible rfl⟩
  try simp only [Act.put, List.setIfInBounds_toArray, List.set_cons_zero, List.set_cons_succ]
  refine wpAnyH_take (i := 3) (oi := ?oiz4) (v := ?vz4) ?hiz4 (by kernel_rfl) (by kernel_rfl) (by kernel_rfl) ?hQz4 ?hyz4 (by assumption) ?restz4
  case hiz4 => simp only [List.getElem?_toArray, List.getElem?_cons_zero, List.getElem?_cons_succ]; rfl
  case hQz4 => exact fun _ _ _ h => h
  case hyz4 => exact Or.inl ⟨by rfl, by intro w hSw; (try dsimp only at hSw); have q0 := k0 _ hSw; have q1 := k1 _ hSw; go_simp; with_reducible rfl⟩
  try simp only [Act.put, List.setIfInBounds_toArray, List.set_cons_zero, List.set_cons_succ]
  refine wpAnyH_take (i := 4) (oi := ?oiz5) (v := ?vz5) ?hiz5 (by kernel_rfl) (by kernel_rfl) (by kernel_rfl) ?hQz5 ?hyz5 (by assumption) ?restz5
  case hiz5 => simp only [List.getElem?_toArray, List.getElem?_cons_zero, List.getElem?_cons_succ]; rfl
  case hQz5 => exact fun _ _ _ h => h
  case hyz5 => exact Or.inl ⟨by rfl, by intro w hSw; (try dsimp only at hSw); go_simp; with_reducible rfl⟩
  try simp only [Act.put, List.setIfInBounds_toArray, List.set_cons_zero, List.set_cons_succ]
  refine wpAnyH_take (i := 5) (oi := ?oiz6) (v := ?vz6) ?hiz6 (by kernel_rfl) (by kernel_rfl) (by kernel_rfl) ?hQz6 ?hyz6 (by assumption) ?restz6
  case hiz6 => simp only [List.getElem?_toArray, List.getElem?_cons_zero, List.getElem?_cons_succ]; rfl
  case hQz6 => exact fun _ _ _ h => h
  case hyz6 => exact Or.inl ⟨by rfl, by intro w hSw; (try dsimp only at hSw); have q0 := k0 _ hSw; have q1 := k1 _ hSw; go_simp; with_reducible rfl⟩
  try simp only [Act.put, List.setIfInBounds_toArray, List.set_cons_zero, List.set_cons_succ]
  refine wpAnyH_take (i := 6) (oi := ?oiz7) (v := ?vz7) ?hiz7 (by kernel_rfl) (by kernel_rfl) (by kernel_rfl) ?hQz7 ?hyz7 (by assumption) ?restz7
  case hiz7 => simp only [List.getElem?_toArray, List.getElem?_cons_zero, List.getElem?_cons_succ]; rfl
  case hQz7 => exact fun _ _ _ h => h
  case hyz7 => exact Or.inl ⟨by rfl, by intro w hSw; (try dsimp only at hSw); go_simp; with_reducible rfl⟩
  try simp only [Act.put, List.setIfInBounds_toArray, List.set_cons_zero, List.set_cons_succ]
  refine wpAnyH_take (i := 7) (oi := ?oiz8) (v := ?vz8) ?hiz8 (by kernel_rfl) (by kernel_rfl) (by kernel_rfl) ?hQz8 ?hyz8 (by assumption) ?restz8
  case hiz8 => simp only [List.getElem?_toArray, List.getElem?_cons_zero, List.getElem?_cons_succ]; rfl
  case hQz8 => exact fun _ _ _ h => h
  case hyz8 => exact Or.inl ⟨by rfl, by intro w hSw; (try dsimp only at hSw); go_simp; with_reducible rfl⟩
  try simp only [Act.put, List.setIfInBounds_toArray, List.set_cons_zero, List.set_cons_succ]
  refine wpAnyH_take (i := 8) (oi := ?oiz9) (v := ?vz9) ?hiz9 (by kernel_rfl) (by kernel_rfl) (by kernel_rfl) ?hQz9 ?hyz9 (by assumption) ?restz9
  case hiz9 => simp only [List.getElem?_toArray, List.getElem?_cons_zero, List.getElem?_cons_succ]; rfl
  case hQz9 => exact fun _ _ _ h => h
  case hyz9 => exact Or.inl ⟨by rfl, by intro w hSw; (try dsimp only at hSw); go_simp; with_reducible rfl⟩
  try simp only [Act.put, List.setIfInBounds_toArray, List.set_cons_zero, List.set_cons_succ]
  refine wpAnyH_take (i := 9) (oi := ?oiz10) (v := (.slice Z (32 * n) (cap - 1))) ?hiz10 (by kernel_rfl) (by kernel_rfl) (by kernel_rfl) ?hQz10 ?hyz10 (by assumption) ?restz10
  case hiz10 => simp only [List.getElem?_toArray, List.getElem?_cons_zero, List.getElem?_cons_succ]; rfl
  case hQz10 => exact fun _ _ _ h => h
  case hyz10 => exact Or.inl ⟨by rfl, by intro w hSw; (try dsimp only at hSw); go_simp; (try with_reducible rfl)⟩
  try simp only [Act.put, List.setIfInBounds_toArray, List.set_cons_zero, List.set_cons_succ]
  refine wpAnyH_ready (rs := [10]) (by kernel_rfl) (by simp) (AllReadyH.cons (o := ?oy1110) ?hy1110 (fun K hK => ?sy1110) AllReadyH.nil)
  case hy1110 => simp only [List.getElem?_toArray, List.getElem?_cons_zero, List.getElem?_cons_succ]; rfl
  go_simp
  refine (HC.out _ (X0.out.trans hHeld)).mono ?_
  rintro e w1 ⟨v', rfl, ho, hx⟩
  obtain ⟨C, cn, cc, rfl⟩ := ho.shape3
  have HO := Lib.hid ho
  clear ho
  have hH2 := hHeld.trans hx
  refine hK.out _ _ hH2 (fun _ => ?_)
  clear hHeld hK K
  have hHeld := hH2
  clear hH2
  try simp only [Act.put, List.setIfInBounds_toArray, List.set_cons_zero, List.set_cons_succ]
  refine wpAnyH_take (i := 11) (oi := ?oiz12) (v := ?vz12) ?hiz12 (by kernel_rfl) (by kernel_rfl) (by kernel_rfl) ?hQz12 ?hyz12 (by assumption) ?restz12
  case hiz12 => simp only [List.getElem?_toArray, List.getElem?_cons_zero, List.getElem?_cons_succ]; rfl
  case hQz12 => exact fun _ _ _ h => h
  case hyz12 => exact Or.inl ⟨by rfl, by intro w hSw; (try dsimp only at hSw); go_simp; with_reducible rfl⟩
  try simp only [Act.put, List.setIfInBounds_toArray, List.set_cons_zero, List.set_cons_succ]
  refine wpAnyH_done (by kernel_rfl) ?_ _
  have XW := Lib.hid (X0.out.trans hHeld)
  clear hHeld
  go_wp2
  go_ret
  exact ⟨_, rfl, HO.out.le (show w.heap.size ≤ w0.heap.size from by omega), XW.out⟩
set_option maxHeartbeats 4000000 in
set_option maxRecDepth 100000 in
theorem il5n (t : Int) (d : List Int) (A : Option Addr) (cap : Nat) (w : World) (S : Nat → Prop) (h : RdL tByte w S (.slice A d.length cap) d) (hdl : d.length ≤ 1048576) (ht : t = 5) (hnd : ndB d = false) :
    Calls Try.prog 76 #[.agg #[.int .u8 t, .slice A d.length cap]] w fun e w' => ∃ v', e = .returned v' ∧ Own tKey 40 w' w.heap.size v' [] ∧ Ext w w' := by
  have H := Lib.hid h
  have B0 := Lib.hid (Blk.new w 65 #[.int .u8 t, .slice A d.length cap])
  subst ht
  have HC := Lib.hid (fun W (hW : Ext w W) => readNode_all (.slice A d.length cap) d W S (h.ext (by decide) hW) hdl)
  clear h
  go_enter Try.func76, Try.ntmps76
  go_wp2_with fail
  refine (HC.out _ (ext_alloc _ _)).mono ?_
  rintro e w1 ⟨rfl, hx⟩
  rw [hnd]
  have HX := Lib.hid ((ext_alloc w _).trans hx)
  have HST := Lib.hid zN7_st
  clear hx HC
  go_wp2_with (refine wpl_storeNewB aggNode7 HST.out rfl rfl _ _ rfl rfl rfl rfl ?_)
  go_ret
  exact ⟨_, rfl, Own.nil _ _ _ _, HX.out.alloc _⟩
set_option maxHeartbeats 4000000 in
set_option maxRecDepth 100000 in
theorem il5 (t : Int) (d : List Int) (A : Option Addr) (cap : Nat) (w : World) (S : Nat → Prop) (h : RdL tByte w S (.slice A d.length cap) d) (hdl : d.length ≤ 1048576) (ht : t = 5) (hnd : ndB d = true) :
    Calls Try.prog 76 #[.agg #[.int .u8 t, .slice A d.length cap]] w fun e w' => ∃ v', e = .returned v' ∧ Own tKey 40 w' w.heap.size v' (one (ndX d).l ++ one (ndX d).r) ∧ Ext w w' := by
  have H := Lib.hid h
  have B0 := Lib.hid (Blk.new w 65 #[.int .u8 t, .slice A d.length cap])
  subst ht
  have hok5 : (ndX d).ok := by
    have hB : B8 d := h.choose_spec.choose_spec.2.2.2.2
    refine ndX_ok hB ?_ hdl
    have := hnd
    rw [ndB_eq] at this
    simp at this
    exact this.1.2
  have HC := Lib.hid (fun W (hW : Ext w W) => readNode_all (.slice A d.length cap) d W S (h.ext (by decide) hW) hdl)
  clear h
  go_enter Try.func76, Try.ntmps76
  go_wp2_with fail
  refine (HC.out _ (ext_alloc _ _)).mono ?_
  rintro e w1 ⟨rfl, hx⟩
  rw [hnd]
  generalize hyy : ndX d = y at hok5 ⊢
  have HYD := Lib.hid hyy
  clear hyy
  have HST := Lib.hid (Nd.st hok5)
  have HYO := Lib.hid hok5
  have hsl := sizeN (k := .u8) HYO.out.1.1
  have hsr := sizeN (k := .u8) HYO.out.2.1.1
  have hse := sizeN (k := .u8) emptyL_ok.1
  have hste : St 32 (numsA .u8 emptyL) := St.nums emptyL_ok.1
  have HSE := Lib.hid hste
  have HX := Lib.hid ((ext_alloc w _).trans hx)
  have hgw : w.heap.size + 1 ≤ w1.heap.size := by have := hx.size; simpa using this
  clear hx HC hok5 hste
  go_wp2_with (refine wpl_storeNewB aggNode7 HST.out rfl rfl _ _ rfl rfl rfl rfl ?_)
  have B5 := Lib.hid (Blk.new w1 129 y.enc.toArray)
  have XW := Lib.hid (HX.out.alloc (.cells y.enc.toArray 129))
  refine (implEmptyMapKey_any _).mono ?_
  rintro e w3 ⟨rfl, hx⟩
  replace B5 := Lib.hid (B5.out.ext hx)
  replace XW := Lib.hid (XW.out.trans hx)
  clear hx HX
  go_wp2_with (first
    | (refine wpl_storeNew aggKey emptyL_ok.1 rfl rfl _ _ rfl rfl rfl rfl ?_)
    | (refine wpl_loadP (off := 0) (sub := numsA .u8 y.l) (B5.out.alloc _) aggKey hsl (Nd.left HYO.out) rfl _ rfl rfl ?_)
    | (refine wpl_loadP (off := 32) (sub := numsA .u8 y.r) (B5.out.alloc _) aggKey hsr (Nd.right HYO.out) rfl _ rfl rfl ?_)
    | (refine wpl_build2 Try.underlying41 zeroKy hsl hsr (by decide) (by decide) rfl _ _ rfl rfl rfl ?_))
  have hfl : (numsA .u8 y.l ++ numsA .u8 y.r) = ([y.l, y.r].flatMap tKey.enc).toArray := by apply Array.toList_inj.1; simp [numsA, tKey]
  have BW := Blk.new' (g := w3.heap.size + 1) (w := w3.alloc (.cells (numsA .u8 emptyL) 40)) (by simp) 40 (numsA .u8 y.l ++ numsA .u8 y.r)
  have BP := (Blk.new w3 40 (numsA .u8 emptyL)).alloc (.cells (numsA .u8 y.l ++ numsA .u8 y.r) 40)
  have HO := Own.of_blk tKey (xs := [y.l, y.r]) (g := w3.heap.size + 1) (base := w3.heap.size + 1) (e := 40) (by rw [← hfl]; exact BW) (Nat.le_refl _) (by simp) (by
    intro z hz
    simp at hz
    rcases hz with rfl | rfl
    · exact HYO.out.1
    · exact HYO.out.2.1)
  refine (keyDel_any _ [y.l, y.r] emptyL emptyL_ok w3.heap.size _ (w3.heap.size + 1) HO (by omega) BP).mono ?_
  rintro q w9 ⟨v', rfl, ho, hg⟩
  rw [pair_filter] at ho
  obtain ⟨C, cn, cc, rfl⟩ := ho.shape3
  have hws := XW.out.size
  have HOF := Lib.hid (ho.le (base' := w.heap.size) (by omega))
  have HXF := Lib.hid (((XW.out.alloc _).alloc _).grown hg (fun k e => by simp [Value.ownBlock] at e; omega))
  clear ho hg HO BP BW hfl B5
  go_wp2
  go_ret
  exact ⟨_, rfl, by rw [HYD.out]; exact HOF.out, HXF.out⟩
end Go.Proofs.Yteegnbdgfedajaa
/- The links of a blob: the program, whole. No condition. -/
namespace Go.Proofs.Yteegnbdgfedajaa
open Go.RowKit
set_option linter.unusedVariables false
set_option linter.unusedSimpArgs false

theorem links_any (t : Int) (d : List Int) (A : Option Addr) (cap : Nat) (w : World) (S : Nat → Prop) (h : RdL tByte w S (.slice A d.length cap) d) (hdl : d.length ≤ 1048576) :
    Calls Try.prog 76 #[.agg #[.int .u8 t, .slice A d.length cap]] w fun e w' => ∃ v', e = .returned v' ∧ Own tKey 40 w' w.heap.size v' (linksR t d) ∧ Ext w w' := by
  have hB : B8 d := h.choose_spec.choose_spec.2.2.2.2
  have hn := lkN_of hB
  rw [linksR_eq]
  by_cases h2 : t = 2
  · rw [if_pos h2]
    by_cases hl : d.length = 64
    · rw [if_pos hl]; exact il2 t d A cap w S h hdl h2 hl
    · rw [if_neg hl]; exact il2n t d A cap w S h hdl h2 hl
  rw [if_neg h2]
  by_cases h5 : t = 5
  · rw [if_pos h5]
    cases hd : ndB d with
    | false => exact il5n t d A cap w S h hdl h5 hd
    | true => exact il5 t d A cap w S h hdl h5 hd
  rw [if_neg h5]
  by_cases h6 : t = 6
  · rw [if_pos h6]
    by_cases hl : d.length % 32 = 0
    · rw [if_pos hl]; exact il6 t d A cap w S h hdl h6 hl
    · rw [if_neg hl]; exact il6n t d A cap w S h hdl h6 hl
  rw [if_neg h6]
  by_cases h7 : t = 7
  · rw [if_pos h7]
    by_cases h0 : d.length = 0
    · rw [if_neg (by omega)]; exact il7e t d A cap w S h hdl h7 h0
    · by_cases h4 : 1 + 32 * lkN d ≤ d.length
      · rw [if_pos ⟨by omega, h4⟩]; exact il7 t d A cap w S h hdl h7 (lkN d) hn.1 hn.2 (by omega) h4
      · rw [if_neg (by omega)]; exact il7n t d A cap w S h hdl h7 (lkN d) hn.1 hn.2 (by omega) (by omega)
  rw [if_neg h7]
  exact il0 t d A cap w S h hdl h2 h5 h6 h7
theorem valid7 (t : Int) (A : Option Addr) (n c : Nat) (hc : n ≤ 140737488355328) (w : World) :
    Calls Try.prog 75 #[.agg #[.int .u8 t, .slice A n c]] w fun e w' => e = .returned (.bool (decide (n ≤ 1024))) ∧ Ext w w' := by
  go_enter Try.func75, Try.ntmps75
  go_wp2
  go_ret
  exact ⟨ret_bool (by simp; omega), ext_alloc _ _⟩
set_option maxHeartbeats 1000000 in
set_option maxRecDepth 100000 in
theorem implLinksOf_u (cs : Array Value) (x : Int × List Int) (w : World) (S : Nat → Prop) (h : RBlob w S cs x) :
    Calls Try.prog 37 #[.agg cs] w fun e w' => ∃ v', e = .returned (.tuple #[v', .int .i64 (lofR x).2]) ∧ Own tKey 40 w' w.heap.size v' (lofR x).1 ∧ Ext w w' := by
  rw [lofR_eq]
  obtain ⟨t, d⟩ := x
  obtain ⟨v, rfl, hr, ht⟩ := h
  obtain ⟨A, cap, rfl, hcap, hlen, _⟩ := id hr
  dsimp only at hr hcap hlen ⊢
  have B0 := Lib.hid (Blk.new w 65 #[.int .u8 t, .slice A d.length cap])
  have hb := fun W => valid7 t A d.length cap hlen W
  by_cases h1 : d.length ≤ 1024
  · rw [if_pos h1]
    simp only [decide_eq_true h1] at hb
    have HB := Lib.hid hb
    have HC := Lib.hid (fun W (hW : Ext w W) => links_any t d A cap W S (hr.ext (by decide) hW) (by omega))
    clear hb hr h1
    go_enter Try.func37, Try.ntmps37
    go_wp2_with (refine wpl_loadB (Blk.new w 65 #[.int .u8 t, .slice A d.length cap]) aggBlobI rfl rfl _ rfl rfl ?_)
    refine (HB.out _).mono ?_
    rintro e w1 ⟨rfl, hx⟩
    have B1 := Lib.hid (B0.out.ext hx)
    have X1 := Lib.hid ((ext_alloc w _).trans hx)
    clear hx
    go_wp2_with (refine wpl_loadB B1.out aggBlobI rfl rfl _ rfl rfl ?_)
    refine (HC.out _ X1.out).mono ?_
    rintro e w2 ⟨v', rfl, ho, hx⟩
    obtain ⟨C, cn, cc, rfl⟩ := ho.shape3
    have HO := Lib.hid (ho.le X1.out.size)
    have HX := Lib.hid (X1.out.trans hx)
    clear ho hx
    go_wp2
    go_ret2
    exact ⟨_, rfl, HO.out, HX.out⟩
  · rw [if_neg h1]
    simp only [decide_eq_false h1] at hb
    have HB := Lib.hid hb
    clear hb hr h1
    go_enter Try.func37, Try.ntmps37
    go_wp2_with (refine wpl_loadB (Blk.new w 65 #[.int .u8 t, .slice A d.length cap]) aggBlobI rfl rfl _ rfl rfl ?_)
    refine (HB.out _).mono ?_
    rintro e w1 ⟨rfl, hx⟩
    have X1 := Lib.hid ((ext_alloc w _).trans hx)
    clear hx
    go_wp2
    go_ret2
    exact ⟨_, rfl, Own.nil _ _ _ _, X1.out⟩
end Go.Proofs.Yteegnbdgfedajaa
/- Marks on blobs; a blob copied. No condition. -/
namespace Go.Proofs.Yteegnbdgfedajaa
open Go.RowKit
set_option linter.unusedVariables false
set_option linter.unusedSimpArgs false

theorem toBlob_o (cs : Array Value) (x : Int × List Int) (w : World) (S : Nat → Prop) (h : RBlob w S cs x) :
    Calls Try.prog 36 #[.agg cs] w fun e w' => ∃ v', e = .returned (.agg #[.int .u8 x.1, v']) ∧ Own tByte 5 w' w.heap.size v' x.2 ∧ (0 ≤ x.1 ∧ x.1 ≤ 255) ∧ Ext w w' := by
  obtain ⟨v, rfl, hr, h3⟩ := h
  refine (toBlob_any x.1 v x.2 w S hr).mono ?_
  rintro e w' ⟨v', rfl, ho, hx⟩
  exact ⟨v', rfl, ho, h3, hx⟩
theorem blobSt (t : Int) (A : Option Addr) (n c : Nat) : St 2 #[Value.int .u8 t, .slice A n c] := ⟨rfl, fun u hu => by simp at hu; rcases hu with rfl | rfl <;> rfl⟩
theorem Wr.alloc7 {w : World} {lo sz n : Nat} {v : Value} (h : Wr w lo sz v n) (o : Obj) : Wr (w.alloc o) lo sz v n := by
  obtain ⟨A, cap, e, h1, h2, h3⟩ := h
  refine ⟨A, cap, e, h1, h2, fun hn => ?_⟩
  obtain ⟨g, off, cur, t, h4, h5, h6, h7⟩ := h3 hn
  exact ⟨g, off, cur, t, h4, h5, h6.alloc o, h7⟩
set_option maxHeartbeats 1000000 in
set_option maxRecDepth 100000 in
theorem markBlob_m (t : Int) (v : Value) (n : Nat) (m : Int) (w : World) (lo : Nat) (h : Wr w lo 1 v n) (hm : 0 ≤ m) (hmn : m + n ≤ 1000000000000000) :
    Calls Try.prog 40 #[.agg #[.int .u8 t, v], .int .i64 m] w fun e w' => e = .returned (.int .i64 (m + n)) ∧ RdL tByte w' (fun g => lo ≤ g ∧ some g = v.ownBlock) v (marks m n) ∧ w.grownBy w' v.ownBlock := by
  have HC := Lib.hid (markByteS_any v n m (w.alloc (.cells #[.int .u8 t, v] 65)) lo (h.alloc7 _) hm hmn)
  obtain ⟨A, cap, rfl, _⟩ := id h
  clear h
  go_enter Try.func40, Try.ntmps40
  go_wp2_with fail
  refine HC.out.mono ?_
  rintro e w1 ⟨rfl, hr, hg⟩
  have HR := Lib.hid hr
  have HG := Lib.hid (grown_trans (ext_grown _ (ext_alloc w (.cells #[.int .u8 t, .slice A n cap] 65))) hg)
  clear hr hg HC
  go_wp2
  go_ret
  exact ⟨ret_int (by omega), HR.out, HG.out⟩
theorem blocksL_len7 (l : List Int) (n : Nat) : (blocksL l n).length = n := by simp [blocksL]
theorem lofR_len (x : Int × List Int) : (lofR x).1.length ≤ 64 := by
  rw [lofR_eq]
  split
  · rename_i h
    show (linksR x.1 x.2).length ≤ 64
    rw [linksR_eq]
    have h1 : ∀ k, (one k).length ≤ 1 := fun k => by unfold one; split <;> simp
    split
    · split
      · rw [blocksL_len7]; omega
      · simp
    · split
      · split
        · have := h1 (ndX x.2).l; have := h1 (ndX x.2).r; rw [List.length_append]; omega
        · simp
      · split
        · split
          · rw [blocksL_len7]; omega
          · simp
        · split
          · split
            · rw [blocksL_len7]; omega
            · simp
          · simp
  · simp
end Go.Proofs.Yteegnbdgfedajaa
/- Commits: copied, counted, held against each other. No condition. -/
namespace Go.Proofs.Yteegnbdgfedajaa
open Go.RowKit
set_option linter.unusedVariables false
set_option linter.unusedSimpArgs false

structure Cm where
  root : List Int
  par : List (List Int)
  num : Int
  note : ByteArray
def Cm.cells (x : Cm) (v : Value) : Array Value := (nums .u8 x.root ++ [v, .int .i64 x.num, .string x.note]).toArray
/-- the cells of a commit -/
def RCommit (w : World) (S : Nat → Prop) (cs : Array Value) (x : Cm) : Prop :=
  ∃ v, cs = x.cells v ∧ RdL tKey w S v x.par ∧ K32 x.root ∧ (Lit.int .i64 x.num).wf = true ∧ x.note.size ≤ 140737488351232
section
variable {w w' : World} {S : Nat → Prop} {cs : Array Value} {x : Cm}
theorem RCommit.ext (h : RCommit w S cs x) (e : Ext w w') : RCommit w' S cs x := by
  obtain ⟨v, h1, h2, h3⟩ := h
  exact ⟨v, h1, h2.ext (by decide) e, h3⟩
theorem Cm.st (hr : K32 x.root) (A : Option Addr) (n c : Nat) : St 35 (x.cells (.slice A n c)) := by
  refine ⟨by simp [Cm.cells, nums_length, hr.1], fun u hu => ?_⟩
  rw [Cm.cells, List.toList_toArray] at hu
  rcases List.mem_append.1 hu with hu | hu
  · exact one_nums _ _ u hu
  · simp at hu; rcases hu with rfl | rfl | rfl <;> rfl
theorem RCommit.st (h : RCommit w S cs x) : St 35 cs := by
  obtain ⟨v, rfl, ⟨A, cap, rfl, _⟩, h3, _⟩ := h
  exact Cm.st h3 _ _ _
theorem Cm.at_ (hr : K32 x.root) (v : Value) : (x.cells v)[32]? = some v ∧ (x.cells v)[33]? = some (.int .i64 x.num) ∧ (x.cells v)[34]? = some (.string x.note) := by
  have := hr.1
  refine ⟨?_, ?_, ?_⟩ <;> rw [Cm.cells, List.getElem?_toArray, List.getElem?_append_right (by rw [nums_length]; omega), nums_length, this] <;> rfl
theorem Cm.root_at (v : Value) (j : Nat) (u : Value) (hu : (numsA .u8 x.root)[j]? = some u) : (x.cells v)[0 + j]? = some u := by
  have hj : j < x.root.length := by have := (Array.getElem?_eq_some_iff.1 hu).1; simpa [numsA, nums] using this
  rw [Nat.zero_add, Cm.cells, List.getElem?_toArray, List.getElem?_append_left (by rw [nums_length]; exact hj)]
  simpa [numsA] using hu
end
theorem aggCommitL : Agg Try.prog 120 35 := Agg.mkS (fs := _) Try.underlying120 (by kernel_rfl)
theorem aggCommitI : Agg Try.prog 43 35 := Agg.mkS (fs := _) Try.underlying43 (by kernel_rfl)
theorem Own.setRow_below {α : Type} {T : Ty α} {e : TypeId} {w : World} {base g : Nat} {v : Value} {xs : List α} (h : Own T e w base v xs) (hg : g < base) (row : Array Value) : Own T e (w.setRow g row) base v xs :=
  h.kept (row := some g) ⟨rfl, rfl, rfl, by simp, fun k _ hk => setRow_other _ _ _ _ (fun e => hk (by rw [e]))⟩ (.inr fun e => by have := (h.base_le _ e).1; omega)
attribute [local irreducible] Blk in
set_option maxHeartbeats 1000000 in
set_option maxRecDepth 100000 in
theorem toCommit_o (cs : Array Value) (x : Cm) (w : World) (S : Nat → Prop) (h : RCommit w S cs x) (hln : x.par.length ≤ 1048576) :
    Calls Try.prog 91 #[.agg cs] w fun e w' => ∃ v', e = .returned (.agg (x.cells v')) ∧ Own tKey 40 w' w.heap.size v' x.par ∧ K32 x.root ∧ (Lit.int .i64 x.num).wf = true ∧ x.note.size ≤ 140737488351232 ∧ Ext w w' := by
  obtain ⟨v, rfl, hr, hroot, hnum, hnote⟩ := h
  obtain ⟨A, cap, rfl, hcap, hlen, _⟩ := id hr
  have H := Lib.hid hr
  have HL := Lib.hid (sizeN (k := .u8) hroot.1)
  have HSL := Lib.hid (show St 32 (numsA .u8 x.root) from St.nums hroot.1)
  have Hroot := Lib.hid hroot
  clear hr hroot
  have hat := Cm.at_ Hroot.out (.slice A x.par.length cap)
  have HAT := Lib.hid hat
  clear hat
  go_enter Try.func91, Try.ntmps91
  go_wp2_with (refine wpl_loadP (off := 0) (sub := numsA .u8 x.root) (((Blk.new w _ _).alloc _).alloc _) aggB32 HL.out (Cm.root_at _) rfl _ rfl rfl ?_)
  refine (toKey_any x.root Hroot.out _).mono ?_
  rintro e w1 ⟨rfl, hx⟩
  have B0 := Lib.hid ((((Blk.new w 120 (x.cells (.slice A x.par.length cap))).alloc _).alloc _).ext hx)
  have B1 := Lib.hid (((Blk.new' (g := w.heap.size + 1) (w := w.alloc _) (by simp) 43 _).alloc _).ext hx)
  have F0 := Lib.hid (Fill.start' ((Blk.new' (g := w.heap.size + 2) (w := (w.alloc _).alloc _) (by simp) 43 _).ext hx) (n := 35) rfl)
  have XW := Lib.hid ((((ext_alloc w _).alloc _).alloc _).trans hx)
  clear hx
  have c0 : ∀ row, (w1.setRow (w.heap.size + 2) row).cell? ⟨w.heap.size, 32, none⟩ = some (.slice A x.par.length cap) := fun row => (B0.out.row_far (by omega) _).at_ 32 HAT.out.1
  go_wp2_with (refine wpl_fill (n := 32) (m := 3) F0.out rfl aggKey HSL.out rfl _ _ rfl rfl rfl rfl ?_; intro row hF; have F1 := Lib.hid hF; clear hF)
  refine (toKeyS_u _ x.par _ _ (H.out.ext (by decide) (XW.out.setRow (by omega) _)) hln).mono ?_
  rintro e w2 ⟨v2, rfl, ho, hx⟩
  obtain ⟨A2, n2, c2, rfl⟩ := ho.shape3
  replace B0 := Lib.hid ((B0.out.row_far (by omega) row).ext hx)
  replace B1 := Lib.hid ((B1.out.row_far (by omega) row).ext hx)
  have F2 := Lib.hid (show Fill w2 (w.heap.size + 2) 43 (nums .u8 x.root) 3 by have := F1.out.ext hx; simpa [numsA] using this)
  have hbs : w.heap.size + 3 ≤ (w1.setRow (w.heap.size + 2) row).heap.size := by have := F1.out; obtain ⟨R, _, hb⟩ := this; have := hb.lt; omega
  replace XW := Lib.hid ((XW.out.setRow (by omega) row).trans hx)
  have HO := Lib.hid ho
  clear hx ho F0 F1 c0
  obtain ⟨R, hR, hb⟩ := F2.out
  match R, hR with
  | [r0, r1, r2], _ =>
    have hl : (nums .u8 x.root).length = 32 := by rw [nums_length, Hroot.out.1]
    have HB := Lib.hid hb
    have d0 := B0.out.at_ 33 HAT.out.2.1
    have d1 := B0.out.at_ 34 HAT.out.2.2
    have e0 : w2.cell? ⟨w.heap.size + 2, 32, none⟩ = some r0 := by rw [hb.cell, List.getElem?_toArray, List.getElem?_append_right (by rw [hl]; omega), hl]; rfl
    have e1 : w2.cell? ⟨w.heap.size + 2, 33, none⟩ = some r1 := by rw [hb.cell, List.getElem?_toArray, List.getElem?_append_right (by rw [hl]; omega), hl]; rfl
    have e2 : w2.cell? ⟨w.heap.size + 2, 34, none⟩ = some r2 := by rw [hb.cell, List.getElem?_toArray, List.getElem?_append_right (by rw [hl]; omega), hl]; rfl
    have f0 := hb.free 32
    have f1 := hb.free 33
    have f2 := hb.free 34
    clear hb
    have HST := Lib.hid (Cm.st Hroot.out A2 n2 c2)
    have hsz := HST.out.size
    have HE : Hid (Blk (((w2.setCell ⟨w.heap.size + 2, 32, none⟩ (.slice A2 n2 c2)).setCell ⟨w.heap.size + 2, 33, none⟩ (.int .i64 x.num)).setCell ⟨w.heap.size + 2, 34, none⟩ (.string x.note)) (w.heap.size + 2) 43 (x.cells (.slice A2 n2 c2))) := Lib.hid (by
      have h3 := ((HB.out.set 32 (.slice A2 n2 c2)).set 33 (.int .i64 x.num)).set 34 (.string x.note)
      have e : x.cells (.slice A2 n2 c2) = (((nums .u8 x.root ++ [r0, r1, r2]).toArray.setIfInBounds 32 (.slice A2 n2 c2)).setIfInBounds 33 (.int .i64 x.num)).setIfInBounds 34 (.string x.note) := by
        simp [Cm.cells, List.set_append, hl]
      rw [e]
      exact h3)
    have B1' := Lib.hid (((B1.out.far (p := ⟨w.heap.size + 2, 32, none⟩) (by simp) (.slice A2 n2 c2)).far (p := ⟨w.heap.size + 2, 33, none⟩) (by simp) (.int .i64 x.num)).far (p := ⟨w.heap.size + 2, 34, none⟩) (by simp) (.string x.note))
    go_wp2_with (first
      | (refine wpl_loadB HE.out aggCommitI hsz rfl _ rfl rfl ?_)
      | (refine wpl_storeB B1'.out aggCommitI HST.out rfl rfl _ _ rfl rfl rfl rfl ?_))
    refine bodyPost_ret (results_blkB rfl _ rfl aggCommitI hsz (B1'.out.setRow _)) rfl ?_
    have hsz2 := XW.out.size
    refine ⟨_, rfl, ?_, Hroot.out, hnum, hnote, (((XW.out.set (by simp <;> omega) _).set (by simp <;> omega) _).set (by simp <;> omega) _).setRow (by simp <;> omega) _⟩
    have hb3 : w.heap.size ≤ (w1.setRow (w.heap.size + 2) row).heap.size := by omega
    have q1 : w.heap.size + 2 < (w1.setRow (w.heap.size + 2) row).heap.size := by omega
    have q2 : w.heap.size + 1 < (w1.setRow (w.heap.size + 2) row).heap.size := by omega
    exact ((((HO.out.set_below (p := ⟨w.heap.size + 2, 32, none⟩) q1 (.slice A2 n2 c2)).set_below (p := ⟨w.heap.size + 2, 33, none⟩) q1 (.int .i64 x.num)).set_below (p := ⟨w.heap.size + 2, 34, none⟩) q1 (.string x.note)).setRow_below q2 _).le hb3
theorem toCommit_u (cs : Array Value) (x : Cm) (w : World) (S : Nat → Prop) (h : RCommit w S cs x) (hln : x.par.length ≤ 1048576) :
    Calls Try.prog 91 #[.agg cs] w fun e w' => ∃ cs', e = .returned (.agg cs') ∧ RCommit w' (fun g => w.heap.size ≤ g ∧ g < w'.heap.size) cs' x ∧ Ext w w' := by
  refine (toCommit_o cs x w S h hln).mono ?_
  rintro e w' ⟨v', rfl, ho, h1, h2, h3, hx⟩
  exact ⟨_, rfl, ⟨v', rfl, ho.rd, h1, h2, h3⟩, hx⟩
set_option maxHeartbeats 1000000 in
set_option maxRecDepth 100000 in
theorem szCommit_u (cs : Array Value) (x : Cm) (l : Int) (w : World) (S : Nat → Prop) (h : RCommit w S cs x) (h0 : -1 ≤ l) (h1 : l ≤ 1048576) :
    Calls Try.prog 88 #[.agg cs, .int .i64 l] w fun e w' => e = .returned (.int .i64 (if l - (x.par.length + x.note.size : Nat) < 0 then -1 else l - (x.par.length + x.note.size : Nat))) ∧ Ext w w' := by
  obtain ⟨v, rfl, hr, hroot, hnum, hnote⟩ := h
  obtain ⟨A, cap, rfl, hcap, hlen, _⟩ := id hr
  have hat := Cm.at_ hroot (.slice A x.par.length cap)
  have c0 : (w.alloc (.cells (x.cells (.slice A x.par.length cap)) 120)).cell? ⟨w.heap.size, 32, none⟩ = some (.slice A x.par.length cap) := (Blk.new w _ _).at_ 32 hat.1
  have c1 : (w.alloc (.cells (x.cells (.slice A x.par.length cap)) 120)).cell? ⟨w.heap.size, 34, none⟩ = some (.string x.note) := (Blk.new w _ _).at_ 34 hat.2.2
  clear hat hr
  have hc := fun W => szKeyS_any A x.par.length cap l (by omega) h0 h1 W
  by_cases h2 : l - (x.par.length : Int) < 0
  · rw [if_pos (by omega)]
    simp only [if_pos h2] at hc
    go_enter Try.func88, Try.ntmps88
    go_wp2_with fail
    refine (hc _).mono ?_
    rintro e w' ⟨rfl, rfl⟩
    go_wp2
    go_ret
    exact ⟨rfl, ext_alloc _ _⟩
  · simp only [if_neg h2] at hc
    by_cases h3 : l - (x.par.length : Int) - x.note.size < 0
    · rw [if_pos (by omega)]
      go_enter Try.func88, Try.ntmps88
      go_wp2_with fail
      refine (hc _).mono ?_
      rintro e w' ⟨rfl, rfl⟩
      go_wp2
      go_ret
      exact ⟨rfl, ext_alloc _ _⟩
    · rw [if_neg (by omega)]
      go_enter Try.func88, Try.ntmps88
      go_wp2_with fail
      refine (hc _).mono ?_
      rintro e w' ⟨rfl, rfl⟩
      go_wp2
      go_ret
      exact ⟨ret_int (by omega), ext_alloc _ _⟩

attribute [local irreducible] Blk in
set_option maxHeartbeats 1000000 in
set_option maxRecDepth 100000 in
theorem eqCommit_u (cs cs' : Array Value) (x : Cm) (w : World) (S S' : Nat → Prop) (h : RCommit w S cs x) (h' : RCommit w S' cs' x) :
    Calls Try.prog 26 #[.agg cs, .agg cs'] w fun e w' => e = .returned (.bool true) ∧ Ext w w' := by
  obtain ⟨v, rfl, hr, hroot, hnum, hnote⟩ := h
  obtain ⟨v', rfl, hr', _, _, _⟩ := h'
  obtain ⟨A, cap, rfl, _⟩ := id hr
  obtain ⟨A', cap', rfl, _⟩ := id hr'
  have H := Lib.hid hr
  have H' := Lib.hid hr'
  have HL := Lib.hid (sizeN (k := .u8) hroot.1)
  have Hroot := Lib.hid hroot
  have HAT := Lib.hid (Cm.at_ hroot (.slice A x.par.length cap))
  have HAT' := Lib.hid (Cm.at_ hroot (.slice A' x.par.length cap'))
  have q1 : (x.num != x.num) = false := by simp
  have q2 : (x.note.toList != x.note.toList) = false := by simp
  clear hr hr' hroot
  go_enter Try.func26, Try.ntmps26
  go_wp2_with (first
    | (refine wpl_loadP (off := 0) (sub := numsA .u8 x.root) ((Blk.new w _ _).alloc _) aggKey HL.out (Cm.root_at (.slice A x.par.length cap)) rfl _ rfl rfl ?_)
    | (refine wpl_loadP (off := 0) (sub := numsA .u8 x.root) (Blk.new' (g := w.heap.size + 1) (by simp) _ _) aggKey HL.out (Cm.root_at (.slice A' x.par.length cap')) rfl _ rfl rfl ?_))
  refine (eqKey_any _ _ Hroot.out Hroot.out _).mono ?_
  rintro e w1 ⟨rfl, hx⟩
  rw [beq_self_eq_true]
  have B0 := Lib.hid (((Blk.new w 43 (x.cells (.slice A x.par.length cap))).alloc (.cells (x.cells (.slice A' x.par.length cap')) 43)).ext hx)
  have B1 := Lib.hid ((Blk.new' (g := w.heap.size + 1) (w := w.alloc (.cells (x.cells (.slice A x.par.length cap)) 43)) (by simp) 43 (x.cells (.slice A' x.par.length cap'))).ext hx)
  have XW := Lib.hid (((ext_alloc w _).alloc _).trans hx)
  clear hx
  have c0 := B0.out.at_ 32 HAT.out.1
  have c1 := B1.out.at_ 32 HAT'.out.1
  go_wp2_with fail
  refine (eqKeyS_u _ _ x.par _ S S' (H.out.ext (by decide) XW.out) (H'.out.ext (by decide) XW.out)).mono ?_
  rintro e w2 ⟨rfl, hx⟩
  have d0 := (B0.out.ext hx).at_ 33 HAT.out.2.1
  have d1 := (B1.out.ext hx).at_ 33 HAT'.out.2.1
  have e0 := (B0.out.ext hx).at_ 34 HAT.out.2.2
  have e1 := (B1.out.ext hx).at_ 34 HAT'.out.2.2
  replace XW := Lib.hid (XW.out.trans hx)
  clear hx B0 B1 c0 c1
  go_wp2_with fail
  go_ret
  exact ⟨rfl, XW.out⟩

end Go.Proofs.Yteegnbdgfedajaa
/- Marks laid on lists of keys, and read. No condition. -/
namespace Go.Proofs.Yteegnbdgfedajaa
open Go.RowKit
set_option linter.unusedVariables false
set_option linter.unusedSimpArgs false

/-- the keys of v hold the marks m, m + 1, .. -/
def MarkedK (w : World) (S : Nat → Prop) (v : Value) (n : Nat) (m : Int) : Prop :=
  ∃ A cap, v = .slice A n cap ∧ n ≤ 140737488355328 ∧ (0 < n → ∃ g o, A = some ⟨g, o, none⟩ ∧ S g ∧ ∀ j, j < n * 32 → w.cell? ⟨g, o + j, none⟩ = some (.int .u8 ((m + j) % 256)))
theorem MarkedK.ext {w w' : World} {S : Nat → Prop} {v : Value} {n : Nat} {m : Int} (h : MarkedK w S v n m) (e : Ext w w') : MarkedK w' S v n m := by
  obtain ⟨A, cap, h1, h2, h3⟩ := h
  refine ⟨A, cap, h1, h2, fun hn => ?_⟩
  obtain ⟨g, o, h4, h5, h6⟩ := h3 hn
  exact ⟨g, o, h4, h5, fun j hj => e.cell (h6 j hj)⟩
theorem Own.far_of_lt {α : Type} {T : Ty α} {e : TypeId} {w : World} {base g : Nat} {v : Value} {xs : List α} (h : Own T e w base v xs) (hg : g < base) : some g ≠ v.ownBlock := fun e => by have := (h.base_le _ e.symm).1; omega
theorem Own.far_of_ge {α : Type} {T : Ty α} {e : TypeId} {w : World} {base g : Nat} {v : Value} {xs : List α} (h : Own T e w base v xs) (hg : w.heap.size ≤ g) : some g ≠ v.ownBlock := fun e => by have := (h.base_le _ e.symm).2; omega
set_option maxHeartbeats 1000000 in
set_option maxRecDepth 100000 in
theorem markKeyS_any (v : Value) (n : Nat) (m : Int) (w : World) (lo : Nat) (h : Wr w lo 32 v n) (hm : 0 ≤ m) (hmn : m + n * 32 ≤ 1000000000000000) :
    Calls Try.prog 41 #[v, .int .i64 m] w fun e w' => e = .returned (.int .i64 (m + n * 32)) ∧ MarkedK w' (fun g => lo ≤ g ∧ some g = v.ownBlock) v n m ∧ w.grownBy w' v.ownBlock := by
  obtain ⟨A, cap, rfl, hcap, hlen, hw⟩ := h
  have HW := Lib.hid hw
  clear hw
  by_cases h0 : n = 0
  · subst h0
    go_enter Try.func41, Try.ntmps41
    go_wp2
    go_loopw [1, 5] (fun q i wr => q = .int .i64 m ∧ i = .int .i64 0 ∧ wr = w) (fun _ _ _ => 0)
    case atStart => exact ⟨rfl, rfl, rfl⟩
    case round =>
      obtain ⟨rfl, rfl, rfl⟩ := hrel
      go_wp2
      go_ret
      exact ⟨ret_int (by simp), ⟨A, cap, rfl, by omega, fun h => by omega⟩, grown_refl _ _⟩
  · obtain ⟨g, o, cur, t, rfl, hlo, hB, hsz⟩ := HW.out (by omega)
    have HB := Lib.hid hB
    clear hB
    go_enter Try.func41, Try.ntmps41
    go_wp2
    go_loopw [1, 5, 6] (fun q i _ wr => ∃ k : Nat, k ≤ n ∧ q = .int .i64 (m + (k : Int) * 32) ∧ i = .int .i64 k ∧ (∃ cur', Blk wr g t cur' ∧ cur'.size = cur.size ∧ ∀ j, j < k * 32 → cur'[o + j]? = some (.int .u8 ((m + j) % 256))) ∧ w.grownBy wr (some g))
      (fun _ i _ _ => n - (intOf i).toNat)
    case atStart => exact ⟨0, by omega, by simp, rfl, ⟨cur, HB.out, rfl, fun j hj => by omega⟩, grown_refl _ _⟩
    case round =>
      obtain ⟨k, hk, rfl, rfl, ⟨cur', hB', hs', hc'⟩, hg⟩ := hrel
      have HG := Lib.hid hg
      have HC := Lib.hid hc'
      have HS := Lib.hid hs'
      have HB' := Lib.hid hB'
      clear hg hc' hs' hB'
      obtain ⟨wo, rfl⟩ : ∃ wo : World, wo = wr := ⟨_, rfl⟩
      by_cases hlt : k < n
      · go_wp2
        go_loopw [1, 6] (fun q i wr => ∃ j : Nat, j ≤ 32 ∧ q = .int .i64 (m + (k : Int) * 32 + j) ∧ i = .int .i64 j ∧ (∃ cur', Blk wr g t cur' ∧ cur'.size = cur.size ∧ ∀ p, p < k * 32 + j → cur'[o + p]? = some (.int .u8 ((m + p) % 256))) ∧ w.grownBy wr (some g))
          (fun _ i _ => 32 - (intOf i).toNat)
        case atStart => exact ⟨0, by omega, by simp, rfl, ⟨cur', HB'.out, HS.out, fun j hj => HC.out j (by omega)⟩, HG.out⟩
        case round =>
          clear HB' HS HC HG
          obtain ⟨j, hj, rfl, rfl, ⟨cur2, hB2, hs2, hc2⟩, hg2⟩ := hrel
          have HG := Lib.hid hg2
          have HC := Lib.hid hc2
          have HS := Lib.hid hs2
          clear hg2 hc2 hs2
          by_cases hlj : j < 32
          · have hin : o + k * 32 + j < cur2.size := by rw [HS.out]; omega
            have hcell : wr.cell? ⟨g, o + k * 32 + j, none⟩ = some cur2[o + k * 32 + j] := hB2.at_ _ (Array.getElem?_eq_getElem hin)
            have hfr := hB2.free (o + k * 32 + j)
            have HB2 := Lib.hid hB2
            clear hB2
            go_wp2
            go_roundw
            case rel => exact ⟨j + 1, by omega, by go_num, by go_num, ⟨_, HB2.out.set (o + k * 32 + j) _, by simp [HS.out], fun p hp => by
              by_cases hpk : p = k * 32 + j
              · subst hpk
                rw [← Nat.add_assoc]
                simp [hin]
                omega
              · rw [Array.getElem?_setIfInBounds_ne (by omega)]; exact HC.out p (by omega)⟩, grown_set HG.out _⟩
            case measure => simp [intOf]; omega
          · obtain rfl : j = 32 := by omega
            have HB2 := Lib.hid hB2
            clear hB2
            go_wp2
            go_roundw
            case rel => exact ⟨k + 1, by omega, by go_num, by go_num, ⟨_, HB2.out, HS.out, fun p hp => HC.out p (by omega)⟩, HG.out⟩
            case measure => simp [intOf]; omega
      · go_wp2
        go_ret
        obtain rfl : k = n := by omega
        refine ⟨rfl, ⟨_, cap, rfl, hlen, fun _ => ⟨g, o, rfl, ⟨hlo, rfl⟩, fun j hj => by rw [HB'.out.cell, HC.out j hj]⟩⟩, HG.out⟩
set_option maxHeartbeats 1000000 in
set_option maxRecDepth 100000 in
theorem heldKeyS_any (v : Value) (n : Nat) (m : Int) (w : World) (S : Nat → Prop) (h : MarkedK w S v n m) (hm : 0 ≤ m) (hmn : m + n * 32 ≤ 1000000000000000) :
    Calls Try.prog 42 #[v, .int .i64 m] w fun e w' => e = .returned (.int .i64 (m + n * 32)) ∧ Ext w w' := by
  obtain ⟨A, cap, rfl, hlen, hw⟩ := h
  have HW := Lib.hid hw
  clear hw
  go_enter Try.func42, Try.ntmps42
  go_wp2
  go_loopw [1, 5, 6] (fun q i _ wr => ∃ k : Nat, k ≤ n ∧ q = .int .i64 (m + (k : Int) * 32) ∧ i = .int .i64 k ∧ Ext w wr) (fun _ i _ _ => n - (intOf i).toNat)
  case atStart => exact ⟨0, by omega, by simp, rfl, Ext.refl _⟩
  case round =>
    obtain ⟨k, hk, rfl, rfl, hx⟩ := hrel
    have HX := Lib.hid hx
    clear hx
    obtain ⟨wo, rfl⟩ : ∃ wo : World, wo = wr := ⟨_, rfl⟩
    by_cases hlt : k < n
    · obtain ⟨g, o, rfl, hs, hc⟩ := HW.out (by omega)
      have HC := Lib.hid hc
      clear hc
      go_wp2
      go_loopw [1, 6] (fun q i wr => ∃ j : Nat, j ≤ 32 ∧ q = .int .i64 (m + (k : Int) * 32 + j) ∧ i = .int .i64 j ∧ Ext w wr) (fun _ i _ => 32 - (intOf i).toNat)
      case atStart => exact ⟨0, by omega, by simp, rfl, HX.out⟩
      case round =>
        clear HX
        obtain ⟨j, hj, rfl, rfl, hx⟩ := hrel
        have HX := Lib.hid hx
        clear hx
        by_cases hlj : j < 32
        · have hd : wr.cell? ⟨g, o + k * 32 + j, none⟩ = some (.int .u8 ((m + (k : Int) * 32 + j) % 256)) := by
            have := HX.out.cell (HC.out (k * 32 + j) (by omega))
            rw [Nat.add_assoc, this]
            congr 2
            omega
          have hne : (((m + (k : Int) * 32 + j) % 256 : Int) != (m + (k : Int) * 32 + j) % 256) = false := by simp
          go_wp2
          go_roundw
          case rel => exact ⟨j + 1, by omega, by go_num, by go_num, HX.out⟩
          case measure => simp [intOf]; omega
        · obtain rfl : j = 32 := by omega
          go_wp2
          go_roundw
          case rel => exact ⟨k + 1, by omega, by go_num, by go_num, HX.out⟩
          case measure => simp [intOf]; omega
    · go_wp2
      go_ret
      obtain rfl : k = n := by omega
      exact ⟨rfl, HX.out⟩

end Go.Proofs.Yteegnbdgfedajaa
/- The walk of the law FnExactLinksOf. No condition. -/
namespace Go.Proofs.Yteegnbdgfedajaa
open Go.RowKit
set_option linter.unusedVariables false
set_option linter.unusedSimpArgs false

set_option maxHeartbeats 1000000 in
set_option maxRecDepth 100000 in
theorem FnExactLinksOf_any (w : World) (cs0 : Array Value) (x0 : Int × List Int) (S0 : Nat → Prop) (h0 : RBlob w S0 cs0 x0) :
    Calls Try.prog 8 #[.agg cs0] w fun e w' => e = .returned (.bool true) ∧ Ext w w' := by
  have H0 := Lib.hid h0
  clear h0
  have hn0 := H0.out.st.size
  have Hs0 := Lib.hid H0.out.st
  by_cases hz0 : (1048576 - x0.2.length : Int) < 0
  · go_enter Try.func8, Try.ntmps8
    go_wp2_with (first | (refine wpl_loadB (Blk.new' (g := w.heap.size) (w := w) (by simp) 61 cs0) aggBlobL hn0 rfl _ rfl rfl ?_))
    refine (szBlob_u _ x0 (1048576) _ _ (H0.out.ext (ext_alloc _ _)) (by omega) (by omega)).mono ?_
    rintro e w1 ⟨rfl, hx⟩
    rw [if_pos (by omega)]
    have B0 := Lib.hid ((Blk.new' (g := w.heap.size) (w := w) (by simp) 61 cs0).ext hx)
    have XW := Lib.hid ((ext_alloc _ _).trans hx)
    clear hx
    go_wp2_with (first | (refine wpl_loadB B0.out aggBlobL hn0 rfl _ rfl rfl ?_))
    go_ret
    exact ⟨rfl, XW.out⟩
  obtain ⟨R, c, hR⟩ : ∃ R c, lofR x0 = (R, c) := ⟨_, _, rfl⟩
  have HR1 := Lib.hid (congrArg Prod.fst hR)
  have HR2 := Lib.hid (congrArg Prod.snd hR)
  clear hR
  have hq : (c != c) = false := by simp
  go_enter Try.func8, Try.ntmps8
  go_wp2_with (first | (refine wpl_loadB (Blk.new' (g := w.heap.size) (w := w) (by simp) 61 cs0) aggBlobL hn0 rfl _ rfl rfl ?_))
  refine (szBlob_u _ x0 (1048576) _ _ (H0.out.ext (ext_alloc _ _)) (by omega) (by omega)).mono ?_
  rintro e w1 ⟨rfl, hx⟩
  rw [if_neg (by omega)]
  have B0 := Lib.hid ((Blk.new' (g := w.heap.size) (w := w) (by simp) 61 cs0).ext hx)
  have XW := Lib.hid ((ext_alloc _ _).trans hx)
  clear hx
  go_wp2_with (first | (refine wpl_loadB B0.out aggBlobL hn0 rfl _ rfl rfl ?_))
  refine (toBlob_o _ x0 _ _ (H0.out.ext XW.out)).mono ?_
  rintro e w2 ⟨vs0, rfl, ho, hrs0, hx⟩
  have BB0_Os0 := Lib.hid (ho.far_of_lt (Nat.lt_of_lt_of_le B0.out.lt (by first | exact Nat.le_refl _ | simp)))
  replace ho := ho.le (base' := w.heap.size) XW.out.size
  replace B0 := Lib.hid (B0.out.ext hx)
  replace XW := Lib.hid (XW.out.trans hx)
  have Hrs0 := Lib.hid hrs0
  clear hrs0
  obtain ⟨As0, qs0, rfl⟩ := ho.shape
  have Os0 := Lib.hid ho
  clear ho
  clear hx
  go_wp2_with (first | (refine wpl_loadB B0.out aggBlobL hn0 rfl _ rfl rfl ?_))
  refine (specLinksOf_u _ x0 _ _ ⟨_, rfl, Os0.out.rd, Hrs0.out⟩).mono ?_
  rintro e w3 ⟨vW, he, ho, hx⟩
  rw [HR2.out] at he
  subst he
  rw [HR1.out] at ho
  have NOs0_OW := Lib.hid (Os0.out.apart ho (by first | exact Nat.le_refl _ | simp))
  have NOW_Os0 := Lib.hid (Os0.out.apart' ho (by first | exact Nat.le_refl _ | simp))
  have BB0_OW := Lib.hid (ho.far_of_lt (Nat.lt_of_lt_of_le B0.out.lt (by first | exact Nat.le_refl _ | simp)))
  replace ho := ho.le (base' := w.heap.size) XW.out.size
  replace Os0 := Lib.hid (Os0.out.ext hx)
  replace B0 := Lib.hid (B0.out.ext hx)
  replace XW := Lib.hid (XW.out.trans hx)
  obtain ⟨AW, qW, rfl⟩ := ho.shape
  have OW := Lib.hid ho
  clear ho
  clear hx
  clear Os0
  go_wp2_with (first | (refine wpl_loadB B0.out aggBlobL hn0 rfl _ rfl rfl ?_))
  refine (toBlob_o _ x0 _ _ (H0.out.ext XW.out)).mono ?_
  rintro e w4 ⟨vx0, rfl, ho, hrx0, hx⟩
  have NOW_Ox0 := Lib.hid (OW.out.apart ho (by first | exact Nat.le_refl _ | simp))
  have NOx0_OW := Lib.hid (OW.out.apart' ho (by first | exact Nat.le_refl _ | simp))
  have BB0_Ox0 := Lib.hid (ho.far_of_lt (Nat.lt_of_lt_of_le B0.out.lt (by first | exact Nat.le_refl _ | simp)))
  replace ho := ho.le (base' := w.heap.size) XW.out.size
  replace OW := Lib.hid (OW.out.ext hx)
  replace B0 := Lib.hid (B0.out.ext hx)
  replace XW := Lib.hid (XW.out.trans hx)
  have Hrx0 := Lib.hid hrx0
  clear hrx0
  obtain ⟨Ax0, qx0, rfl⟩ := ho.shape
  have Ox0 := Lib.hid ho
  clear ho
  clear hx
  have Zsx0 := Lib.hid (blobSt x0.1 Ax0 x0.2.length qx0)
  have Znx0 := Zsx0.out.size
  have BVx0_OW := Lib.hid (OW.out.far_of_ge (Nat.le_refl _))
  have BVx0_Ox0 := Lib.hid (Ox0.out.far_of_ge (Nat.le_refl _))
  go_wp2_with (first | (refine wpl_storeNewB aggBlobI Zsx0.out rfl rfl _ _ rfl rfl rfl rfl ?_) | (refine wpl_loadB (Blk.new w4 65 #[Value.int .u8 x0.1, .slice Ax0 x0.2.length qx0]) aggBlobI Znx0 rfl _ rfl rfl ?_) | (refine wpl_loadB B0.out aggBlobL hn0 rfl _ rfl rfl ?_) | (refine wpl_loadB (B0.out.alloc _) aggBlobL hn0 rfl _ rfl rfl ?_))
  refine (implLinksOf_u _ x0 _ _ ((show RBlob _ _ _ x0 from ⟨_, rfl, Ox0.out.rd, Hrx0.out⟩).ext (ext_alloc _ _))).mono ?_
  rintro e w5 ⟨vG, he, ho, hx⟩
  rw [HR2.out] at he
  subst he
  rw [HR1.out] at ho
  have NOW_OG := Lib.hid (OW.out.apart ho (by first | exact Nat.le_refl _ | simp))
  have NOG_OW := Lib.hid (OW.out.apart' ho (by first | exact Nat.le_refl _ | simp))
  have NOx0_OG := Lib.hid (Ox0.out.apart ho (by first | exact Nat.le_refl _ | simp))
  have NOG_Ox0 := Lib.hid (Ox0.out.apart' ho (by first | exact Nat.le_refl _ | simp))
  have BB0_OG := Lib.hid (ho.far_of_lt (Nat.lt_of_lt_of_le B0.out.lt (by first | exact Nat.le_refl _ | simp)))
  have BVx0_OG := Lib.hid (ho.far_of_lt (g := w4.heap.size) (by simp))
  replace ho := ho.le (base' := w.heap.size) (by have := XW.out.size; simp; omega)
  have hE := (ext_alloc w4 (.cells #[Value.int .u8 x0.1, .slice Ax0 x0.2.length qx0] 65)).trans hx
  replace OW := Lib.hid (OW.out.ext hE)
  replace Ox0 := Lib.hid (Ox0.out.ext hE)
  replace B0 := Lib.hid (B0.out.ext hE)
  replace XW := Lib.hid (XW.out.trans hE)
  clear hE
  have Vx0 := Lib.hid ((Blk.new w4 65 #[Value.int .u8 x0.1, .slice Ax0 x0.2.length qx0]).ext hx)
  obtain ⟨AG, qG, rfl⟩ := ho.shape
  have OG := Lib.hid ho
  clear ho
  clear hx
  go_wp2_with (first | (refine wpl_loadB B0.out aggBlobL hn0 rfl _ rfl rfl ?_) | (refine wpl_loadB Vx0.out aggBlobI Znx0 rfl _ rfl rfl ?_))
  refine (eqKeyS_u _ _ R _ _ _ OG.out.rd OW.out.rd).mono ?_
  rintro e w6 ⟨rfl, hx⟩
  replace OW := Lib.hid (OW.out.ext hx)
  replace Ox0 := Lib.hid (Ox0.out.ext hx)
  replace OG := Lib.hid (OG.out.ext hx)
  replace B0 := Lib.hid (B0.out.ext hx)
  replace Vx0 := Lib.hid (Vx0.out.ext hx)
  replace XW := Lib.hid (XW.out.trans hx)
  clear hx
  go_wp2_with (first | (refine wpl_loadB B0.out aggBlobL hn0 rfl _ rfl rfl ?_) | (refine wpl_loadB Vx0.out aggBlobI Znx0 rfl _ rfl rfl ?_))
  refine wp_region_held_drew (S := fun W => Ext w6 W) (by kernel_rfl) (Ext.refl _).drew (fun hHeld => ?_)
  refine wpAnyH_take (i := 0) (oi := ?oiz1) (v := (.agg #[Value.int .u8 x0.1, .slice Ax0 x0.2.length qx0])) ?hiz1 (by kernel_rfl) (by kernel_rfl) (by kernel_rfl) ?hQz1 ?hyz1 (by assumption) ?restz1
  case hiz1 => simp only [List.getElem?_toArray, List.getElem?_cons_zero, List.getElem?_cons_succ]; rfl
  case hQz1 => exact fun _ _ _ h => h
  case hyz1 => refine yields_loadB Vx0.out aggBlobI Znx0 ?_ _ rfl rfl; rfl
  try simp only [Act.put, List.setIfInBounds_toArray, List.set_cons_zero, List.set_cons_succ]
  refine wpAnyH_take (i := 1) (oi := ?oiz2) (v := (.agg cs0)) ?hiz2 (by kernel_rfl) (by kernel_rfl) (by kernel_rfl) ?hQz2 ?hyz2 (by assumption) ?restz2
  case hiz2 => simp only [List.getElem?_toArray, List.getElem?_cons_zero, List.getElem?_cons_succ]; rfl
  case hQz2 => exact fun _ _ _ h => h
  case hyz2 => refine yields_loadB B0.out aggBlobL hn0 ?_ _ rfl rfl; rfl
  try simp only [Act.put, List.setIfInBounds_toArray, List.set_cons_zero, List.set_cons_succ]
  refine wpAnyH_ready (rs := [2]) (by kernel_rfl) (by simp) (AllReadyH.cons (o := ?oy3) ?hy3 (fun K hK => ?sy3) AllReadyH.nil)
  case hy3 => simp only [List.getElem?_toArray, List.getElem?_cons_zero, List.getElem?_cons_succ]; rfl
  go_simp
  refine (toBlob_u _ x0 _ _ (H0.out.ext (XW.out.trans hHeld))).mono ?_
  rintro e w7 ⟨vy0, rfl, ho, hx⟩
  have hH2 := hHeld.trans hx
  refine hK.out _ _ hH2 (fun _ => ?_)
  clear hHeld hK K
  have hHeld := hH2
  clear hH2
  try simp only [Act.put, List.setIfInBounds_toArray, List.set_cons_zero, List.set_cons_succ]
  refine wpAnyH_ready (rs := [3]) (by kernel_rfl) (by simp) (AllReadyH.cons (o := ?oy4) ?hy4 (fun K hK => ?sy4) AllReadyH.nil)
  case hy4 => simp only [List.getElem?_toArray, List.getElem?_cons_zero, List.getElem?_cons_succ]; rfl
  go_simp
  refine (eqBlob_u _ _ x0 _ _ _ ((show RBlob _ _ _ x0 from ⟨_, rfl, Ox0.out.rd, Hrx0.out⟩).ext hHeld) ho).mono ?_
  rintro e w8 ⟨rfl, hx⟩
  have hH2 := hHeld.trans hx
  refine hK.out _ _ hH2 (fun _ => ?_)
  clear hHeld hK K
  have hHeld := hH2
  clear hH2
  try simp only [Act.put, List.setIfInBounds_toArray, List.set_cons_zero, List.set_cons_succ]
  refine wpAnyH_take (i := 4) (oi := ?oiz5) (v := ?vz5) ?hiz5 (by kernel_rfl) (by kernel_rfl) (by kernel_rfl) ?hQz5 ?hyz5 (by assumption) ?restz5
  case hiz5 => simp only [List.getElem?_toArray, List.getElem?_cons_zero, List.getElem?_cons_succ]; rfl
  case hQz5 => exact fun _ _ _ h => h
  case hyz5 => exact Or.inl ⟨by rfl, by intro w hSw; go_simp; with_reducible rfl⟩
  try simp only [Act.put, List.setIfInBounds_toArray, List.set_cons_zero, List.set_cons_succ]
  refine wpAnyH_done (by kernel_rfl) ?_ _
  replace OW := Lib.hid (OW.out.ext hHeld)
  replace Ox0 := Lib.hid (Ox0.out.ext hHeld)
  replace OG := Lib.hid (OG.out.ext hHeld)
  replace B0 := Lib.hid (B0.out.ext hHeld)
  replace Vx0 := Lib.hid (Vx0.out.ext hHeld)
  replace XW := Lib.hid (XW.out.trans hHeld)
  clear hHeld
  go_wp2_with (first | (refine wpl_loadB B0.out aggBlobL hn0 rfl _ rfl rfl ?_) | (refine wpl_loadB Vx0.out aggBlobI Znx0 rfl _ rfl rfl ?_))
  refine (markBlob_m x0.1 _ _ (1) _ _ Ox0.out.wr (by omega) (by omega)).mono ?_
  rintro e w9 ⟨rfl, hr, hg⟩
  replace XW := Lib.hid (XW.out.grown hg (fun k hk => (Ox0.out.base_le k hk).1))
  replace OW := Lib.hid (OW.out.kept hg NOW_Ox0.out)
  replace OG := Lib.hid (OG.out.kept hg NOG_Ox0.out)
  replace B0 := Lib.hid (B0.out.grown hg BB0_Ox0.out)
  replace Vx0 := Lib.hid (Vx0.out.grown hg BVx0_Ox0.out)
  clear Ox0 hg
  clear hr
  go_wp2_with (first | (refine wpl_loadB B0.out aggBlobL hn0 rfl _ rfl rfl ?_) | (refine wpl_loadB Vx0.out aggBlobI Znx0 rfl _ rfl rfl ?_))
  refine (eqKeyS_u _ _ R _ _ _ OG.out.rd OW.out.rd).mono ?_
  rintro e w10 ⟨rfl, hx⟩
  replace OW := Lib.hid (OW.out.ext hx)
  replace OG := Lib.hid (OG.out.ext hx)
  replace B0 := Lib.hid (B0.out.ext hx)
  replace Vx0 := Lib.hid (Vx0.out.ext hx)
  replace XW := Lib.hid (XW.out.trans hx)
  clear hx
  have hRl := (show R.length ≤ 64 from HR1.out ▸ lofR_len x0)
  go_wp2_with (first | (refine wpl_loadB B0.out aggBlobL hn0 rfl _ rfl rfl ?_) | (refine wpl_loadB Vx0.out aggBlobI Znx0 rfl _ rfl rfl ?_))
  refine (markKeyS_any _ _ 1 _ _ OG.out.wr (by omega) (by omega)).mono ?_
  rintro e w11 ⟨rfl, hr, hg⟩
  replace XW := Lib.hid (XW.out.grown hg (fun k hk => (OG.out.base_le k hk).1))
  replace OW := Lib.hid (OW.out.kept hg NOW_OG.out)
  replace B0 := Lib.hid (B0.out.grown hg BB0_OG.out)
  replace Vx0 := Lib.hid (Vx0.out.grown hg BVx0_OG.out)
  clear OG hg
  have M := Lib.hid hr
  clear hr
  go_wp2_with (first | (refine wpl_loadB B0.out aggBlobL hn0 rfl _ rfl rfl ?_) | (refine wpl_loadB Vx0.out aggBlobI Znx0 rfl _ rfl rfl ?_))
  refine (heldKeyS_any _ _ 1 _ _ M.out (by omega) (by omega)).mono ?_
  rintro e w12 ⟨rfl, hx⟩
  replace OW := Lib.hid (OW.out.ext hx)
  replace M := Lib.hid (M.out.ext hx)
  replace B0 := Lib.hid (B0.out.ext hx)
  replace Vx0 := Lib.hid (Vx0.out.ext hx)
  replace XW := Lib.hid (XW.out.trans hx)
  clear hx
  have hqm : ((1 + (R.length : Int) * 32) != 1 + (R.length : Int) * 32) = false := by simp
  go_wp2_with (first | (refine wpl_loadB B0.out aggBlobL hn0 rfl _ rfl rfl ?_) | (refine wpl_loadB Vx0.out aggBlobI Znx0 rfl _ rfl rfl ?_))
  refine (toBlob_o _ x0 _ _ (H0.out.ext XW.out)).mono ?_
  rintro e w13 ⟨vz0, rfl, ho, hrz0, hx⟩
  have NOW_Oz0 := Lib.hid (OW.out.apart ho (by first | exact Nat.le_refl _ | simp))
  have NOz0_OW := Lib.hid (OW.out.apart' ho (by first | exact Nat.le_refl _ | simp))
  have BB0_Oz0 := Lib.hid (ho.far_of_lt (Nat.lt_of_lt_of_le B0.out.lt (by first | exact Nat.le_refl _ | simp)))
  have BVx0_Oz0 := Lib.hid (ho.far_of_lt (Nat.lt_of_lt_of_le Vx0.out.lt (by first | exact Nat.le_refl _ | simp)))
  replace ho := ho.le (base' := w.heap.size) XW.out.size
  replace OW := Lib.hid (OW.out.ext hx)
  replace M := Lib.hid (M.out.ext hx)
  replace B0 := Lib.hid (B0.out.ext hx)
  replace Vx0 := Lib.hid (Vx0.out.ext hx)
  replace XW := Lib.hid (XW.out.trans hx)
  have Hrz0 := Lib.hid hrz0
  clear hrz0
  obtain ⟨Az0, qz0, rfl⟩ := ho.shape
  have Oz0 := Lib.hid ho
  clear ho
  clear hx
  go_wp2_with (first | (refine wpl_loadB B0.out aggBlobL hn0 rfl _ rfl rfl ?_) | (refine wpl_loadB Vx0.out aggBlobI Znx0 rfl _ rfl rfl ?_))
  refine (implLinksOf_u _ x0 _ _ ⟨_, rfl, Oz0.out.rd, Hrz0.out⟩).mono ?_
  rintro e w14 ⟨vH, he, ho, hx⟩
  rw [HR2.out] at he
  subst he
  rw [HR1.out] at ho
  have NOW_OH := Lib.hid (OW.out.apart ho (by first | exact Nat.le_refl _ | simp))
  have NOH_OW := Lib.hid (OW.out.apart' ho (by first | exact Nat.le_refl _ | simp))
  have NOz0_OH := Lib.hid (Oz0.out.apart ho (by first | exact Nat.le_refl _ | simp))
  have NOH_Oz0 := Lib.hid (Oz0.out.apart' ho (by first | exact Nat.le_refl _ | simp))
  have BB0_OH := Lib.hid (ho.far_of_lt (Nat.lt_of_lt_of_le B0.out.lt (by first | exact Nat.le_refl _ | simp)))
  have BVx0_OH := Lib.hid (ho.far_of_lt (Nat.lt_of_lt_of_le Vx0.out.lt (by first | exact Nat.le_refl _ | simp)))
  replace ho := ho.le (base' := w.heap.size) XW.out.size
  replace OW := Lib.hid (OW.out.ext hx)
  replace M := Lib.hid (M.out.ext hx)
  replace Oz0 := Lib.hid (Oz0.out.ext hx)
  replace B0 := Lib.hid (B0.out.ext hx)
  replace Vx0 := Lib.hid (Vx0.out.ext hx)
  replace XW := Lib.hid (XW.out.trans hx)
  obtain ⟨AH, qH, rfl⟩ := ho.shape
  have OH := Lib.hid ho
  clear ho
  clear hx
  go_wp2_with (first | (refine wpl_loadB B0.out aggBlobL hn0 rfl _ rfl rfl ?_) | (refine wpl_loadB Vx0.out aggBlobI Znx0 rfl _ rfl rfl ?_))
  refine (eqKeyS_u _ _ R _ _ _ OH.out.rd OW.out.rd).mono ?_
  rintro e w15 ⟨rfl, hx⟩
  replace OW := Lib.hid (OW.out.ext hx)
  replace M := Lib.hid (M.out.ext hx)
  replace Oz0 := Lib.hid (Oz0.out.ext hx)
  replace OH := Lib.hid (OH.out.ext hx)
  replace B0 := Lib.hid (B0.out.ext hx)
  replace Vx0 := Lib.hid (Vx0.out.ext hx)
  replace XW := Lib.hid (XW.out.trans hx)
  clear hx
  go_wp2_with (first | (refine wpl_loadB B0.out aggBlobL hn0 rfl _ rfl rfl ?_) | (refine wpl_loadB Vx0.out aggBlobI Znx0 rfl _ rfl rfl ?_))
  refine (heldKeyS_any _ _ 1 _ _ M.out (by omega) (by omega)).mono ?_
  rintro e w16 ⟨rfl, hx⟩
  replace OW := Lib.hid (OW.out.ext hx)
  replace M := Lib.hid (M.out.ext hx)
  replace Oz0 := Lib.hid (Oz0.out.ext hx)
  replace OH := Lib.hid (OH.out.ext hx)
  replace B0 := Lib.hid (B0.out.ext hx)
  replace Vx0 := Lib.hid (Vx0.out.ext hx)
  replace XW := Lib.hid (XW.out.trans hx)
  clear hx
  go_wp2_with (first | (refine wpl_loadB B0.out aggBlobL hn0 rfl _ rfl rfl ?_) | (refine wpl_loadB Vx0.out aggBlobI Znx0 rfl _ rfl rfl ?_))
  go_ret
  exact ⟨rfl, XW.out⟩
end Go.Proofs.Yteegnbdgfedajaa
