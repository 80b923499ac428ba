/- What the walk of the law FnExactStoreBytes needs, part 5 of 5. No condition. -/
import Derived.Test.YtnklgkmpcochfaaPFnExactStoreBytes4
/- Which stores are valid: the program. No condition. -/
namespace Go.Proofs.Ytnklgkmpcochfaa
open Go.RowKit
set_option linter.unusedVariables false
set_option linter.unusedSimpArgs false

theorem rowKeyI : Row Try.prog tKey 35 53 32 := Row.mk' Try.underlying35 (.agg (numsA .u8 (List.replicate 32 0))) (by kernel_rfl) rfl (by decide) (by decide)
theorem bcSt (c : BC) : St 2 (tBlC.enc c).toArray := ⟨rfl, fun u hu => by rcases (by simpa [tBlC] using hu : u = .int .u8 c.1 ∨ u = .slice c.2.1 c.2.2.1 c.2.2.2) with rfl | rfl <;> rfl⟩
set_option maxHeartbeats 1000000 in
set_option maxRecDepth 100000 in
theorem vsFn_any (c : BC) (w : World) :
    Calls Try.prog 33 #[.agg (tBlC.enc c).toArray] w fun q w' => q = .returned (.bool (!decide (c.2.2.1 ≤ 1024))) ∧ Ext w w' := by
  have hv := implValidBlob_any c.1 c.2.1 c.2.2.1 c.2.2.2
  have hst := bcSt c
  have hsz := hst.size
  obtain ⟨t, A, n, q⟩ := c
  dsimp only at hv ⊢
  obtain ⟨r, hr⟩ : ∃ r, decide (n ≤ 1024) = r := ⟨_, rfl⟩
  simp only [hr] at hv ⊢
  clear hr
  go_enter Try.func33, Try.ntmps33
  go_wp2_with (refine wpl_loadB (Blk.new w 68 (tBlC.enc (t, A, n, q)).toArray) aggBlobI hsz rfl _ rfl rfl ?_)
  refine (hv _).mono ?_
  rintro e w1 ⟨rfl, hx⟩
  have HX := Lib.hid ((ext_alloc w _).trans hx)
  clear hx hv
  go_wp2
  go_ret
  exact ⟨rfl, HX.out⟩
set_option maxHeartbeats 1000000 in
set_option maxRecDepth 100000 in
theorem blobIdx_any (v : Value) (ys : List BC) (w : World) (S : Nat → Prop) (h : RdL tBlC w S v ys) :
    Calls Try.prog 60 #[v, .func (.func 33) #[] #[]] w fun q w' => (∃ k : Nat, k ≤ ys.length ∧ (∀ j (hj : j < ys.length), j < k → ys[j].2.2.1 ≤ 1024) ∧ ((k = ys.length ∧ q = .returned (.int .i64 (-1))) ∨ (∃ hk : k < ys.length, ¬ ys[k].2.2.1 ≤ 1024 ∧ q = .returned (.int .i64 k)))) ∧ Ext w w' := by
  obtain ⟨A, cap, rfl, hcap, hlen, hrd, hok⟩ := h
  have Hrd := Lib.hid hrd
  have Hok := Lib.hid hok
  clear hrd hok
  go_enter Try.func60, Try.ntmps60
  go_wp2
  go_loopw [8] (fun i wr => ∃ k : Nat, k ≤ ys.length ∧ i = .int .i64 k ∧ (∀ j (hj : j < ys.length), j < k → ys[j].2.2.1 ≤ 1024) ∧ Ext w wr) (fun i _ => ys.length - (intOf i).toNat)
  case atStart => exact ⟨0, by omega, rfl, fun j hj h => by omega, Ext.refl _⟩
  case round =>
    obtain ⟨k, hk, rfl, hm, hx⟩ := hrel
    have HX := Lib.hid hx
    have HM := Lib.hid hm
    clear hx hm
    by_cases hlt : k < ys.length
    · obtain ⟨g, o, rfl, hs0, hc⟩ := Hrd.out.elem Hok.out k hlt
      have HD0 := Lib.hid (show ∀ j u, (tBlC.enc ys[k])[j]? = some u → wr.cell? ⟨g, o + k * 2 + j, none⟩ = some u from fun j u hu => HX.out.cell (hc j u hu))
      have hf := vsFn_any ys[k] wr
      have hk0 : (0 : Int) ≤ (k : Int) := by omega
      have hk2 : (k : Int) < (ys.length : Int) := by omega
      clear hc
      by_cases hq : ys[k].2.2.1 ≤ 1024
      · rw [decide_eq_true hq] at hf
        have HQ := Lib.hid hq
        clear hq
        go_wp2_with (refine wpl_load ⟨g, o + k * 2, none⟩ (tBlC.enc ys[k]) aggBlobI rfl _ rfl rfl (fun j u hu => by rw [Addr.add_lit]; exact HD0.out j u hu) ?_)
        refine hf.mono ?_
        rintro e w1 ⟨rfl, hx⟩
        have HX1 := Lib.hid (HX.out.trans hx)
        clear hx hf
        go_wp2
        go_roundw
        case rel => exact ⟨k + 1, by omega, by go_num, fun j hj h => by
          by_cases e : j = k
          · subst e; exact HQ.out
          · exact HM.out j hj (by omega), HX1.out⟩
        case measure => simp [intOf]; omega
      · rw [decide_eq_false hq] at hf
        have HQ := Lib.hid hq
        clear hq
        go_wp2_with (refine wpl_load ⟨g, o + k * 2, none⟩ (tBlC.enc ys[k]) aggBlobI rfl _ rfl rfl (fun j u hu => by rw [Addr.add_lit]; exact HD0.out j u hu) ?_)
        refine hf.mono ?_
        rintro e w1 ⟨rfl, hx⟩
        have HX1 := Lib.hid (HX.out.trans hx)
        clear hx hf
        go_wp2
        go_ret
        exact ⟨⟨k, hk, HM.out, .inr ⟨hlt, HQ.out, rfl⟩⟩, HX1.out⟩
    · obtain rfl : k = ys.length := by omega
      go_wp2
      go_ret
      exact ⟨⟨ys.length, hk, HM.out, .inl ⟨rfl, rfl⟩⟩, HX.out⟩
set_option maxHeartbeats 1000000 in
set_option maxRecDepth 100000 in
theorem blobBad_any (v : Value) (ys : List BC) (w : World) (S : Nat → Prop) (h : RdL tBlC w S v ys) :
    Calls Try.prog 32 #[v, .func (.func 33) #[] #[]] w fun q w' => q = .returned (.bool (!ys.all fun c => decide (c.2.2.1 ≤ 1024))) ∧ Ext w w' := by
  have hi := blobIdx_any v ys w S h
  obtain ⟨A, cap, rfl, _⟩ := id h
  clear h
  obtain ⟨R, hR⟩ : ∃ R, (ys.all fun c => decide (c.2.2.1 ≤ 1024)) = R := ⟨_, rfl⟩
  rw [hR]
  have HR := Lib.hid hR
  clear hR
  go_enter Try.func32, Try.ntmps32
  go_wp2_with fail
  refine hi.mono ?_
  rintro e w1 ⟨⟨k, hk, hm, hq⟩, hx⟩
  have HX := Lib.hid hx
  clear hx hi
  rcases hq with ⟨rfl, rfl⟩ | ⟨hlt, hbad, rfl⟩
  · have e : R = true := by
      rw [← HR.out, List.all_eq_true]
      intro c hc
      obtain ⟨j, hj, rfl⟩ := List.getElem_of_mem hc
      simpa using hm j hj hj
    subst e
    clear hm
    go_wp2
    go_ret
    exact ⟨rfl, HX.out⟩
  · have e : R = false := by
      rw [← HR.out, List.all_eq_false]
      exact ⟨_, List.getElem_mem hlt, by simpa using hbad⟩
    subst e
    have hk0 : (0 : Int) ≤ (k : Int) := by omega
    clear hm hbad
    go_wp2
    go_ret
    exact ⟨by first | rfl | simp, HX.out⟩
set_option maxHeartbeats 4000000 in
set_option maxRecDepth 100000 in
theorem storeKeys_any (v : Value) (ys : List BC) (x : List Bl) (w : World) (S : Nat → Prop) (h : RdL tBlC w S v ys) (hl : ys.length = x.length) (hln : x.length ≤ 1048576) (hof : ∀ i (h1 : i < ys.length) (h2 : i < x.length), BCof w S ys[i] x[i]) (hfit : ∀ k (hk : k < x.length), x[k].2.length ≤ 1024) :
    Calls Try.prog 35 #[.agg #[v]] w fun q w' => ∃ v', q = .returned v' ∧ Own tKey 53 w' w.heap.size v' (keysS x) ∧ Ext w w' := by
  obtain ⟨A, cap, rfl, hcap, hlen, hrd, hok⟩ := h
  have Hrd := Lib.hid hrd
  have Hok := Lib.hid hok
  have HOF := Lib.hid hof
  have HFIT := Lib.hid hfit
  have HL := Lib.hid hl
  have hb0 := (Blk.new w 29 #[.slice A ys.length cap]).at_ 0 rfl
  clear hrd hok hof hfit hl
  go_enter Try.func35, Try.ntmps35
  go_wp2_with fail
  go_loopw [3, 5, 10] (fun o _ i wr => ∃ k : Nat, k ≤ ys.length ∧ i = .int .i64 k ∧ Own tKey 53 wr w.heap.size o ((keysS x).take k) ∧ Ext w wr) (fun _ _ i _ => ys.length - (intOf i).toNat)
  case atStart => exact ⟨0, by omega, rfl, by
    have h9 := Own.empty tKey (w.alloc (.cells #[.slice A ys.length cap] 29)) 53 w.heap.size (ext_alloc _ _).size
    rw [size_alloc] at h9
    exact h9, (ext_alloc _ _).alloc _⟩
  case round =>
    obtain ⟨k, hk, rfl, ho, hx⟩ := hrel
    obtain ⟨C, n1, c1, rfl⟩ := ho.shape3
    have HX := Lib.hid hx
    have HO := Lib.hid ho
    clear hx ho hb0
    by_cases hlt : k < ys.length
    · have hlx : k < x.length := by rw [← HL.out]; exact hlt
      obtain ⟨g, o, rfl, hs0, hc⟩ := Hrd.out.elem Hok.out k hlt
      have hst := bcSt ys[k]
      have hsz := hst.size
      have HD0 := Lib.hid (show ∀ j u, (tBlC.enc ys[k])[j]? = some u → wr.cell? ⟨g, o + k * 2 + j, none⟩ = some u from fun j u hu => HX.out.cell (hc j u hu))
      have HBC := Lib.hid ((HOF.out k hlt hlx).ext HX.out)
      have hkey : ∀ W, Ext wr W → Calls Try.prog 61 #[.agg (tBlC.enc ys[k]).toArray] W fun e w' => e = .returned (.agg (numsA .u8 (keyB x[k]))) ∧ Ext W w' := fun W hW => by
        have hb := HBC.out.ext hW
        have := blobKey_any ys[k].1 (by rw [hb.1]; exact hb.2.2) _ x[k].2 W _ hb.2.1 (HFIT.out k hlx)
        rw [hb.1] at this
        have e : (tBlC.enc ys[k]).toArray = #[.int .u8 x[k].1, .slice ys[k].2.1 ys[k].2.2.1 ys[k].2.2.2] := by rw [← hb.1]; rfl
        rw [e]
        exact this
      have HT := Lib.hid (keysS_take x k hlx)
      have HKo := Lib.hid (keyB_ok x[k])
      have hk0 : (0 : Int) ≤ (k : Int) := by omega
      have hk2 : (k : Int) < (ys.length : Int) := by omega
      have HLN := Lib.hid (show (keysS x).length ≤ 1048576 by rw [keysS_length]; exact hln)
      obtain ⟨K, hK⟩ : ∃ K, keyB x[k] = K := ⟨_, rfl⟩
      rw [hK] at hkey HT HKo
      clear hc hK
      have HKY := Lib.hid hkey
      clear hkey
      go_wp2_with (first
        | (refine wpl_load ⟨g, o + k * 2, none⟩ (tBlC.enc ys[k]) aggBlobI rfl _ rfl rfl (fun j u hu => by rw [Addr.add_lit]; exact HD0.out j u hu) ?_)
        | (refine wpl_storeNewB aggBlobI hst rfl rfl _ _ rfl rfl rfl rfl ?_)
        | (refine wpl_loadB (Blk.new wr _ _) aggBlobI hsz rfl _ rfl rfl ?_))
      refine (HKY.out _ (ext_alloc _ _)).mono ?_
      rintro e w1 ⟨rfl, hx⟩
      have HX1 := Lib.hid (HX.out.trans ((ext_alloc wr _).trans hx))
      have HO1 := Lib.hid (HO.out.ext ((ext_alloc wr _).trans hx))
      clear hx HKY HX HO
      go_wp2_with (first
        | (refine wpl_one rowKeyI (by decide) K HKo.out rfl _ rfl rfl ?_)
        | (at_builtin; refine wpl_append rowKeyI rfl _ _ rfl (v := .slice C n1 c1) rfl (HO1.out.alloc _) _ _ rfl (A := some ⟨w1.heap.size, 0, none⟩) (ys := [K]) rfl (rd_one (T := tKey) w1 K HKo.out _) (by intro y hy; obtain rfl := List.mem_singleton.1 hy; exact HKo.out) (by have := HLN.out; simp; omega) (HX1.out.alloc _).size ?_; intro v9 w9 ho1 hg1 hat1; obtain ⟨C9, n9, c9, rfl⟩ := ho1.shape3; have HX9 := Lib.hid ((HO1.out.alloc (.cells (tKey.enc K).toArray 53)).ext_app (HX1.out.alloc _) hg1); have HO9 := Lib.hid ho1; clear ho1 hg1 hat1))
      go_roundw
      case rel => exact ⟨k + 1, by omega, by go_num, by rw [HT.out]; exact HO9.out, HX9.out⟩
      case measure => simp [intOf]; omega
    · obtain rfl : k = ys.length := by omega
      have HT := Lib.hid (show (keysS x).take ys.length = keysS x from List.take_of_length_le (by rw [keysS_length, HL.out]; exact Nat.le_refl _))
      go_wp2
      go_ret
      exact ⟨_, rfl, by rw [← HT.out]; exact HO.out, HX.out⟩
set_option maxHeartbeats 1000000 in
set_option maxRecDepth 100000 in
theorem isSorted_any (v : Value) (xs : List (List Int)) (R : Bool) (hR : R = true ↔ sortedB xs) (w : World) (S : Nat → Prop) (h : RdL tKey w S v xs) :
    Calls Try.prog 37 #[v, .func (.func 38) #[] #[]] w fun q w' => q = .returned (.bool R) ∧ Ext w w' := by
  have HR := Lib.hid hR
  clear hR
  obtain ⟨A, cap, rfl, hcap, hlen, hrd, hok⟩ := h
  have Hrd := Lib.hid hrd
  have Hok := Lib.hid hok
  clear hrd hok
  by_cases h0 : xs.length = 0
  · have hs : sortedB xs := fun k hk => by omega
    have HS := Lib.hid hs
    have hz : (xs.length : Int) = 0 := by omega
    clear h0 hs
    go_enter Try.func37, Try.ntmps37
    go_wp2
    go_loopw [5] (fun i wr => i = .int .i64 (-1) ∧ wr = w) (fun _ _ => 0)
    case atStart => exact ⟨by first | rfl | go_num, rfl⟩
    case round =>
      obtain ⟨rfl, rfl⟩ := hrel
      go_wp2
      go_ret
      exact ⟨by rw [HR.out.2 HS.out]; rfl, Ext.refl _⟩
  · have hn1 : (xs.length : Int) - 1 = ((xs.length - 1 : Nat) : Int) := by omega
    have HN1 := Lib.hid hn1
    clear hn1
    go_enter Try.func37, Try.ntmps37
    go_wp2
    go_loopw [5] (fun i wr => ∃ j : Nat, j < xs.length ∧ i = .int .i64 j ∧ (∀ k (hk : k + 1 < xs.length), j ≤ k → 0 ≤ cmpL xs[k + 1] xs[k]) ∧ Ext w wr) (fun i _ => (intOf i).toNat)
    case atStart => exact ⟨xs.length - 1, by omega, by first | (rw [HN1.out]; done) | (rw [HN1.out]; go_num) | go_num, fun k hk h => by omega, Ext.refl _⟩
    case round =>
      obtain ⟨j, hj, rfl, hm, hx⟩ := hrel
      have HX := Lib.hid hx
      have HM := Lib.hid hm
      clear hx hm
      by_cases hj0 : 0 < j
      · obtain ⟨m, rfl⟩ : ∃ m, j = m + 1 := ⟨j - 1, by omega⟩
        obtain ⟨g, o, rfl, hs0, hc0⟩ := Hrd.out.elem Hok.out m (by omega)
        obtain ⟨g2, o2, e, hs1, hc1⟩ := Hrd.out.elem Hok.out (m + 1) hj
        injection e with e
        injection e with e1 e2
        subst e1
        subst e2
        have HX0 := Lib.hid (show K32 xs[m] from Hok.out _ (List.getElem_mem _))
        have HX1 := Lib.hid (show K32 xs[m + 1] from Hok.out _ (List.getElem_mem hj))
        have HD0 := Lib.hid (show ∀ j u, (tKey.enc xs[m])[j]? = some u → wr.cell? ⟨g, o + m * 32 + j, none⟩ = some u from fun j u hu => HX.out.cell (hc0 j u hu))
        have HD1 := Lib.hid (show ∀ j u, (tKey.enc xs[m + 1])[j]? = some u → wr.cell? ⟨g, o + (m + 1) * 32 + j, none⟩ = some u from fun j u hu => HX.out.cell (hc1 j u hu))
        have e : ((m + 1 : Nat) : Int) = (m : Int) + 1 := by omega
        rw [e]
        clear hc0 hc1 e
        have hi : (0 : Int) ≤ (m : Int) := by omega
        have hi3 : (0 : Int) ≤ (m : Int) + 1 := by omega
        have hi1 : (m : Int) < (xs.length : Int) := by omega
        have hi2 : (m : Int) + 1 < (xs.length : Int) := by omega
        have hi4 : (0 : Int) < (m : Int) + 1 := by omega
        have W1 : IntKind.i64.wrap (m : Int) = m := IntWalk.i64_in _ (by omega)
        have W2 : IntKind.i64.wrap ((m : Int) + 1 - 1) = m := by rw [show (m : Int) + 1 - 1 = m by omega]; exact W1
        have R := Ext.refl wr
        go_wp2_with fail
        refine wp_region_held_drew (S := fun W => Ext wr W) (by kernel_rfl) (Ext.refl _).drew (fun hHeld => ?_)
        refine wpAnyH_take (i := 0) (oi := ?oiz1) (v := ?vz1) ?hiz1 (by kernel_rfl) (by kernel_rfl) (by kernel_rfl) ?hQz1 ?hyz1 (by assumption) ?restz1
        case hiz1 => simp only [List.getElem?_toArray, List.getElem?_cons_zero, List.getElem?_cons_succ]; rfl
        case hQz1 => exact fun _ _ _ h => h
        case hyz1 => exact Or.inl ⟨by rfl, by intro w hSw; (try dsimp only at hSw); go_simp; with_reducible rfl⟩
        try simp only [Act.put, List.setIfInBounds_toArray, List.set_cons_zero, List.set_cons_succ]
        refine wpAnyH_take (i := 1) (oi := ?oiz2) (v := ?vz2) ?hiz2 (by kernel_rfl) (by kernel_rfl) (by kernel_rfl) ?hQz2 ?hyz2 (by assumption) ?restz2
        case hiz2 => simp only [List.getElem?_toArray, List.getElem?_cons_zero, List.getElem?_cons_succ]; rfl
        case hQz2 => exact fun _ _ _ h => h
        case hyz2 => exact Or.inl ⟨by rfl, by intro w hSw; (try dsimp only at hSw); go_simp; with_reducible rfl⟩
        try simp only [Act.put, List.setIfInBounds_toArray, List.set_cons_zero, List.set_cons_succ]
        refine wpAnyH_take (i := 2) (oi := ?oiz3) (v := ?vz3) ?hiz3 (by kernel_rfl) (by kernel_rfl) (by kernel_rfl) ?hQz3 ?hyz3 (by assumption) ?restz3
        case hiz3 => simp only [List.getElem?_toArray, List.getElem?_cons_zero, List.getElem?_cons_succ]; rfl
        case hQz3 => exact fun _ _ _ h => h
        case hyz3 => exact Or.inl ⟨by rfl, by intro w hSw; (try dsimp only at hSw); go_simp; with_reducible rfl⟩
        try simp only [Act.put, List.setIfInBounds_toArray, List.set_cons_zero, List.set_cons_succ]
        refine wpAnyH_take (i := 3) (oi := ?oiz4) (v := ?vz4) ?hiz4 (by kernel_rfl) (by kernel_rfl) (by kernel_rfl) ?hQz4 ?hyz4 (by assumption) ?restz4
        case hiz4 => simp only [List.getElem?_toArray, List.getElem?_cons_zero, List.getElem?_cons_succ]; rfl
        case hQz4 => exact fun _ _ _ h => h
        case hyz4 => exact Or.inl ⟨by rfl, by intro w hSw; (try dsimp only at hSw); go_simp; with_reducible rfl⟩
        try simp only [Act.put, List.setIfInBounds_toArray, List.set_cons_zero, List.set_cons_succ]
        refine wpAnyH_take (i := 4) (oi := ?oiz5) (v := (.agg (tKey.enc xs[m + 1]).toArray)) ?hiz5 (by kernel_rfl) (by kernel_rfl) (by kernel_rfl) ?hQz5 ?hyz5 (by assumption) ?restz5
        case hiz5 => simp only [List.getElem?_toArray, List.getElem?_cons_zero, List.getElem?_cons_succ]; rfl
        case hQz5 => exact fun _ _ _ h => h
        case hyz5 => refine yields_loadR g (o + (m + 1) * 32) (tKey.enc xs[m + 1]) (by rw [tKey.len _ HX1.out]; exact aggKey) HD1.out ?_ _ rfl rfl; rfl
        try simp only [Act.put, List.setIfInBounds_toArray, List.set_cons_zero, List.set_cons_succ]
        refine wpAnyH_take (i := 5) (oi := ?oiz6) (v := ?vz6) ?hiz6 (by kernel_rfl) (by kernel_rfl) (by kernel_rfl) ?hQz6 ?hyz6 (by assumption) ?restz6
        case hiz6 => simp only [List.getElem?_toArray, List.getElem?_cons_zero, List.getElem?_cons_succ]; rfl
        case hQz6 => exact fun _ _ _ h => h
        case hyz6 => exact Or.inl ⟨by rfl, by intro w hSw; (try dsimp only at hSw); go_simp; with_reducible rfl⟩
        try simp only [Act.put, List.setIfInBounds_toArray, List.set_cons_zero, List.set_cons_succ]
        refine wpAnyH_take (i := 6) (oi := ?oiz7) (v := ?vz7) ?hiz7 (by kernel_rfl) (by kernel_rfl) (by kernel_rfl) ?hQz7 ?hyz7 (by assumption) ?restz7
        case hiz7 => simp only [List.getElem?_toArray, List.getElem?_cons_zero, List.getElem?_cons_succ]; rfl
        case hQz7 => exact fun _ _ _ h => h
        case hyz7 => exact Or.inl ⟨by rfl, by intro w hSw; (try dsimp only at hSw); go_simp; with_reducible rfl⟩
        try simp only [Act.put, List.setIfInBounds_toArray, List.set_cons_zero, List.set_cons_succ]
        refine wpAnyH_take (i := 7) (oi := ?oiz8) (v := ?vz8) ?hiz8 (by kernel_rfl) (by kernel_rfl) (by kernel_rfl) ?hQz8 ?hyz8 (by assumption) ?restz8
        case hiz8 => simp only [List.getElem?_toArray, List.getElem?_cons_zero, List.getElem?_cons_succ]; rfl
        case hQz8 => exact fun _ _ _ h => h
        case hyz8 => exact Or.inl ⟨by rfl, by intro w hSw; (try dsimp only at hSw); go_simp; with_reducible rfl⟩
        try simp only [Act.put, List.setIfInBounds_toArray, List.set_cons_zero, List.set_cons_succ]
        refine wpAnyH_take (i := 8) (oi := ?oiz9) (v := ?vz9) ?hiz9 (by kernel_rfl) (by kernel_rfl) (by kernel_rfl) ?hQz9 ?hyz9 (by assumption) ?restz9
        case hiz9 => simp only [List.getElem?_toArray, List.getElem?_cons_zero, List.getElem?_cons_succ]; rfl
        case hQz9 => exact fun _ _ _ h => h
        case hyz9 => exact Or.inl ⟨by rfl, by intro w hSw; (try dsimp only at hSw); go_simp; with_reducible rfl⟩
        try simp only [Act.put, List.setIfInBounds_toArray, List.set_cons_zero, List.set_cons_succ]
        refine wpAnyH_take (i := 9) (oi := ?oiz10) (v := (.agg (tKey.enc xs[m]).toArray)) ?hiz10 (by kernel_rfl) (by kernel_rfl) (by kernel_rfl) ?hQz10 ?hyz10 (by assumption) ?restz10
        case hiz10 => simp only [List.getElem?_toArray, List.getElem?_cons_zero, List.getElem?_cons_succ]; rfl
        case hQz10 => exact fun _ _ _ h => h
        case hyz10 => refine yields_loadR g (o + m * 32) (tKey.enc xs[m]) (by rw [tKey.len _ HX0.out]; exact aggKey) HD0.out ?_ _ rfl rfl; rfl
        try simp only [Act.put, List.setIfInBounds_toArray, List.set_cons_zero, List.set_cons_succ]
        refine wpAnyH_ready (rs := [10]) (by kernel_rfl) (by simp) (AllReadyH.cons (o := ?oy1110) ?hy1110 (fun K hK => ?sy1110) AllReadyH.nil)
        case hy1110 => simp only [List.getElem?_toArray, List.getElem?_cons_zero, List.getElem?_cons_succ]; rfl
        go_simp
        refine (compareKeys_any xs[m + 1] xs[m] HX1.out HX0.out _).mono ?_
        rintro e w1 ⟨rfl, hx⟩
        have hH2 := hHeld.trans hx
        refine hK.out _ _ hH2 (fun _ => ?_)
        clear hHeld hK K
        have hHeld := hH2
        clear hH2
        try simp only [Act.put, List.setIfInBounds_toArray, List.set_cons_zero, List.set_cons_succ]
        refine wpAnyH_take (i := 11) (oi := ?oiz12) (v := ?vz12) ?hiz12 (by kernel_rfl) (by kernel_rfl) (by kernel_rfl) ?hQz12 ?hyz12 (by assumption) ?restz12
        case hiz12 => simp only [List.getElem?_toArray, List.getElem?_cons_zero, List.getElem?_cons_succ]; rfl
        case hQz12 => exact fun _ _ _ h => h
        case hyz12 => exact Or.inl ⟨by rfl, by intro w hSw; (try dsimp only at hSw); go_simp; with_reducible rfl⟩
        try simp only [Act.put, List.setIfInBounds_toArray, List.set_cons_zero, List.set_cons_succ]
        refine wpAnyH_done (by kernel_rfl) ?_ _
        have HX2 := Lib.hid (HX.out.trans hHeld)
        clear hHeld R
        by_cases hc : cmpL xs[m + 1] xs[m] < 0
        · have HS := Lib.hid (show R = false by
            cases hr : R with
            | false => rfl
            | true => exact absurd hc (HR.out.1 hr m hj))
          go_wp2
          go_ret
          exact ⟨by rw [HS.out]; rfl, HX2.out⟩
        · have Hc := Lib.hid (Int.not_lt.1 hc)
          clear hc
          have hge : ¬ cmpL xs[m + 1] xs[m] < 0 := Int.not_lt.2 Hc.out
          go_wp2
          go_roundw
          case rel => exact ⟨m, by omega, by go_num, fun k hk h => by
            by_cases e : k = m
            · subst e; exact Hc.out
            · exact HM.out k hk (by omega), HX2.out⟩
          case measure => simp [intOf]
      · obtain rfl : j = 0 := by omega
        have HS := Lib.hid (show sortedB xs from fun k hk => Int.not_lt.2 (HM.out k hk (Nat.zero_le _)))
        go_wp2
        go_ret
        exact ⟨by first | (rw [HR.out.2 HS.out]; done) | (rw [HR.out.2 HS.out]; rfl), HX.out⟩
set_option maxHeartbeats 1000000 in
set_option maxRecDepth 100000 in
theorem implValidStore_any (cs : Array Value) (x : List Bl) (hln : x.length ≤ 1048576) (w : World) (S : Nat → Prop) (h : RStore w S cs x) :
    Calls Try.prog 11 #[.agg cs] w fun q w' => q = .returned (.bool (okSt x)) ∧ Ext w w' := by
  obtain ⟨v, rfl, hr⟩ := h
  obtain ⟨ys, hyl, hrb, hof⟩ := blobs_cells hr
  obtain ⟨A, cap, rfl, hcap, hlen⟩ := hr.shape
  have HRB := Lib.hid hrb
  have HOF := Lib.hid hof
  have HYL := Lib.hid hyl
  have HB := Lib.hid (Blk.new w 29 #[.slice A x.length cap])
  have hbad := blobBad_any _ ys _ _ (HRB.out.ext (by decide) (ext_alloc w (.cells #[.slice A x.length cap] 29)))
  have ha : (ys.all fun c => decide (c.2.2.1 ≤ 1024)) = fitB x x.length := by
    rw [fitB_iff]
    cases h1 : (ys.all fun c => decide (c.2.2.1 ≤ 1024)) with
    | true =>
      rw [List.all_eq_true] at h1
      refine (List.all_eq_true.2 fun b hb => ?_).symm
      obtain ⟨j, hj, rfl⟩ := List.getElem_of_mem hb
      have := h1 ys[j] (List.getElem_mem (by omega))
      rwa [(hof j (by omega) hj).len] at this
    | false =>
      rw [List.all_eq_false] at h1
      obtain ⟨c, hc, h2⟩ := h1
      obtain ⟨j, hj, rfl⟩ := List.getElem_of_mem hc
      refine (List.all_eq_false.2 ⟨x[j]'(by omega), List.getElem_mem _, ?_⟩).symm
      rwa [(hof j hj (by omega)).len] at h2
  rw [ha] at hbad
  clear ha hr hrb hof hyl
  by_cases h128 : x.length ≤ 128
  rotate_left
  · have hd : decide ((128 : Int) < (x.length : Int)) = true := decide_eq_true (by omega)
    have e : okSt x = false := by rw [okSt_eq, decide_eq_false h128]; rfl
    rw [e]
    clear e h128 hbad
    go_enter Try.func11, Try.ntmps11
    go_wp2
    go_ret
    exact ⟨rfl, ext_alloc _ _⟩
  have hd : decide ((128 : Int) < (x.length : Int)) = false := decide_eq_false (by omega)
  cases hfit : fitB x x.length with
  | false =>
    have e : okSt x = false := by rw [okSt_eq, hfit]; simp
    rw [e]
    rw [hfit] at hbad
    clear e hfit
    go_enter Try.func11, Try.ntmps11
    go_wp2_with fail
    refine hbad.mono ?_
    rintro e w1 ⟨rfl, hx⟩
    have HX := Lib.hid ((ext_alloc w _).trans hx)
    clear hx hbad
    go_wp2
    go_ret
    exact ⟨rfl, HX.out⟩
  | true =>
    have HOK := Lib.hid (show okSt x = srtB (keysS x) (keysS x).length by rw [okSt_eq, hfit, decide_eq_true h128, keysS_length]; rfl)
    have HFIT := Lib.hid (fitB_all hfit)
    rw [hfit] at hbad
    clear hfit
    go_enter Try.func11, Try.ntmps11
    go_wp2_with fail
    refine hbad.mono ?_
    rintro e w1 ⟨rfl, hx⟩
    have HX := Lib.hid ((ext_alloc w _).trans hx)
    have HB1 := Lib.hid (HB.out.ext hx)
    have hkeys := storeKeys_any (.slice A x.length cap) ys x w1 S (HRB.out.ext (by decide) HX.out) HYL.out hln (fun i h1 h2 => (HOF.out i h1 h2).ext HX.out) HFIT.out
    have hb0 : w1.cell? ⟨w.heap.size, 0, none⟩ = some (.slice A x.length cap) := HB1.out.at_ 0 rfl
    clear hx hbad
    go_wp2_with (refine wpl_loadB HB1.out aggStoreI rfl rfl _ rfl rfl ?_)
    refine hkeys.mono ?_
    rintro e w2 ⟨v2, rfl, ho, hx⟩
    have HX2 := Lib.hid (HX.out.trans hx)
    have HO2 := Lib.hid ho
    have hso := sortedK_any v2 (keysS x) w2 _ ho.rd (by rw [keysS_length]; omega)
    obtain ⟨A2, c2, rfl⟩ := ho.shape
    clear hx ho hkeys hb0
    go_wp2_with fail
    refine hso.mono ?_
    rintro e w3 ⟨v3, D, rfl, hp, hs, ho, hx⟩
    have HX3 := Lib.hid (HX2.out.trans hx)
    have HST := Lib.hid (store_ok (fun k hk => (keysS_ok x k hk).1) hp hs)
    obtain ⟨b, hb⟩ : ∃ b : Bool, (b = true ↔ sortedB (keysS x)) := by
      by_cases h : sortedB (keysS x)
      · exact ⟨true, fun _ => h, fun _ => rfl⟩
      · exact ⟨false, fun q => (by cases q), fun q => absurd q h⟩
    have his := isSorted_any _ _ b hb w3 _ (HO2.out.ext hx).rd
    have HBB := Lib.hid hb
    clear hb
    obtain ⟨A3, c3, rfl⟩ := ho.shape
    clear hx ho hso hp hs
    by_cases hce : (compactL D).length = (keysS x).length
    · have hq : (((compactL D).length : Int) == ((keysS x).length : Int)) = true := by rw [beq_iff_eq]; omega
      have HCE := Lib.hid hce
      clear hce
      go_wp2_with fail
      refine his.mono ?_
      rintro e w4 ⟨rfl, hx⟩
      have HX4 := Lib.hid (HX3.out.trans hx)
      have HE := Lib.hid (show okSt x = b by
        rw [HOK.out]
        cases hbq : b with
        | true => exact HST.out.1 ⟨HCE.out, HBB.out.1 hbq⟩
        | false =>
          cases hc : srtB (keysS x) (keysS x).length with
          | false => rfl
          | true => exact absurd (HBB.out.2 (HST.out.2 hc).2) (by rw [hbq]; decide))
      clear hx his
      go_wp2
      go_ret
      exact ⟨by rw [HE.out]; rfl, HX4.out⟩
    · have hq : (((compactL D).length : Int) == ((keysS x).length : Int)) = false := by rw [beq_eq_false_iff_ne]; omega
      have HE := Lib.hid (show okSt x = false by
        rw [HOK.out]
        cases hc : srtB (keysS x) (keysS x).length with
        | false => rfl
        | true => exact absurd (HST.out.2 hc).1 hce)
      clear hce his
      go_wp2
      go_ret
      exact ⟨by rw [HE.out]; rfl, HX3.out⟩
end Go.Proofs.Ytnklgkmpcochfaa
/- Valid stores, their bytes, their keys: the reference and the program. No condition. -/
namespace Go.Proofs.Ytnklgkmpcochfaa
open Go.RowKit
set_option linter.unusedVariables false
set_option linter.unusedSimpArgs false

/-- the bytes of a store, and a code -/
def bytesR (x : List Bl) : Int × Int := if okSt x then (((sumW wBlob x x.length : Nat) : Int), 0) else (0, 1)
/-- the keys of a store, and a code -/
def keysR (x : List Bl) : List (List Int) × Int := if okSt x then (keysS x, 0) else ([], 1)
theorem keysR_ok (x : List Bl) : ∀ k ∈ (keysR x).1, K32 k := by
  unfold keysR
  split
  · exact keysS_ok x
  · simp
theorem keysR_len (x : List Bl) : (keysR x).1.length ≤ 128 := by
  unfold keysR
  split
  · rename_i h; rw [keysS_length]; exact (okSt_yes h).1
  · simp
set_option maxHeartbeats 1000000 in
set_option maxRecDepth 100000 in
theorem specValidStore_u (cs : Array Value) (x : List Bl) (w : World) (S : Nat → Prop) (h : RStore w S cs x) (hln : x.length ≤ 1048576) :
    Calls Try.prog 9 #[.agg cs] w fun q w' => q = .returned (.bool (okSt x)) ∧ Ext w w' := by
  obtain ⟨v, rfl, hr⟩ := h
  have ho := l05Open_any x hln v _ S (hr.ext (ext_alloc w (.cells #[v] 29))) w.heap.size (Blk.new w 29 #[v])
  obtain ⟨A, cap, rfl, _⟩ := hr.shape
  clear hr
  go_enter Try.func9, Try.ntmps9
  go_wp2_with fail
  refine ho.mono ?_
  rintro e w1 ⟨g, bv, kv, rfl, _, hx⟩
  have HX := Lib.hid ((ext_alloc w _).trans hx)
  clear hx ho
  go_wp2
  go_ret
  exact ⟨rfl, HX.out⟩
theorem implValidStore_u (cs : Array Value) (x : List Bl) (w : World) (S : Nat → Prop) (h : RStore w S cs x) (hln : x.length ≤ 1048576) :
    Calls Try.prog 11 #[.agg cs] w fun q w' => q = .returned (.bool (okSt x)) ∧ Ext w w' := implValidStore_any cs x hln w S h
set_option maxHeartbeats 1000000 in
set_option maxRecDepth 100000 in
theorem specStoreBytes_u (cs : Array Value) (x : List Bl) (w : World) (S : Nat → Prop) (h : RStore w S cs x) (hln : x.length ≤ 1048576) :
    Calls Try.prog 13 #[.agg cs] w fun q w' => q = .returned (.tuple #[.int .i64 (bytesR x).1, .int .i64 (bytesR x).2]) ∧ Ext w w' := by
  obtain ⟨v, rfl, hr⟩ := h
  have ho := l05Open_any x hln v _ S (hr.ext (ext_alloc w (.cells #[v] 29))) w.heap.size (Blk.new w 29 #[v])
  obtain ⟨A, cap, rfl, _⟩ := hr.shape
  clear hr
  cases hok : okSt x with
  | false =>
    simp only [hok] at ho
    rw [show bytesR x = (0, 1) by rw [bytesR, hok]; rfl]
    clear hok
    go_enter Try.func13, Try.ntmps13
    go_wp2_with fail
    refine ho.mono ?_
    rintro e w1 ⟨g, bv, kv, rfl, _, hx⟩
    have HX := Lib.hid ((ext_alloc w _).trans hx)
    clear hx ho
    go_wp2
    go_ret2
    exact ⟨rfl, HX.out⟩
  | true =>
    have HFIT := Lib.hid (okSt_yes hok).2.1
    have h128 := (okSt_yes hok).1
    simp only [hok] at ho
    rw [show bytesR x = (((sumW wBlob x x.length : Nat) : Int), 0) by rw [bytesR, hok]; rfl]
    clear hok
    go_enter Try.func13, Try.ntmps13
    go_wp2_with fail
    refine ho.mono ?_
    rintro e w1 ⟨g, bv, kv, rfl, hyes, hx⟩
    obtain ⟨hg, hB, ⟨ys, hob, hyl, hlen⟩, _⟩ := hyes (by first | rfl | trivial)
    obtain ⟨A1, c1, rfl⟩ := hob.shape
    have HX := Lib.hid ((ext_alloc w _).trans hx)
    have HB := Lib.hid hB
    have HYL := Lib.hid hyl
    have HLEN := Lib.hid hlen
    obtain ⟨A', cap', e', _, _, hrd, hok⟩ := hob.rd
    obtain ⟨rfl, _, rfl⟩ := Value.slice.inj e'
    have HRD := Lib.hid hrd
    have HOK := Lib.hid hok
    clear hx ho hyes hg hB hob hyl hlen e' hrd hok
    go_wp2
    go_loopw [6, 7] (fun n i wr => ∃ k : Nat, k ≤ ys.length ∧ i = .int .i64 k ∧ n = .int .i64 ((sumW wBlob x k : Nat) : Int) ∧ sumW wBlob x k ≤ 1024 * k ∧ Ext w1 wr) (fun _ i _ => ys.length - (intOf i).toNat)
    case atStart => exact ⟨0, by omega, rfl, by rw [sumW_zero]; rfl, by rw [sumW_zero]; omega, Ext.refl _⟩
    case round =>
      obtain ⟨k, hk, rfl, rfl, hle, hx⟩ := hrel
      have HX1 := Lib.hid hx
      have HLE := Lib.hid hle
      have b0 : wr.cell? ⟨g, 0, none⟩ = some (.slice A1 ys.length c1) := (HB.out.ext hx).at_ 0 rfl
      clear hx hle
      by_cases hlt : k < ys.length
      · have hlx : k < x.length := by rw [← HYL.out]; exact hlt
        obtain ⟨g2, o2, rfl, _, hc⟩ := HRD.out.elem HOK.out k hlt
        have d1 : wr.cell? ⟨g2, o2 + k * 2 + 1, none⟩ = some (.slice ys[k].2.1 ys[k].2.2.1 ys[k].2.2.2) := HX1.out.cell (hc 1 _ rfl)
        have HN := Lib.hid (HLEN.out k hlt hlx)
        have HS := Lib.hid (sumW_succ wBlob x k hlx)
        have HW := Lib.hid (show wBlob x[k] ≤ 1024 from HFIT.out k hlx)
        have hk0 : (0 : Int) ≤ (k : Int) := by omega
        have hk2 : (k : Int) < (ys.length : Int) := by omega
        have hys : ys.length ≤ 128 := by rw [HYL.out]; exact h128
        obtain ⟨n, hn⟩ : ∃ n, ys[k].2.2.1 = n := ⟨_, rfl⟩
        have HNn := Lib.hid hn
        rw [hn] at d1
        obtain ⟨q, hq⟩ : ∃ q, sumW wBlob x k = q := ⟨_, rfl⟩
        rw [hq] at HLE ⊢
        have HQ := Lib.hid hq
        have hnb : n ≤ 1024 := by rw [← hn, HN.out]; exact HW.out
        have hqb : q ≤ 131072 := by have := HLE.out; omega
        have hwr : IntKind.i64.wrap ((q : Int) + (n : Int)) = ((q + n : Nat) : Int) := by rw [IntWalk.i64_in _ (by omega)]; omega
        clear hc hn hq hnb hqb hys
        go_wp2
        go_roundw
        case rel => exact ⟨k + 1, by omega, by go_num, by rw [HS.out, HQ.out]; first | (have e := HNn.out; rw [HN.out] at e; show _ = Value.int .i64 ((q + x[k].2.length : Nat) : Int); rw [e]; first | rfl | (rw [← hwr]) | go_num), by rw [HS.out, HQ.out]; have := HW.out; have := HLE.out; omega, HX1.out⟩
        case measure => simp [intOf]; omega
      · obtain rfl : k = ys.length := by omega
        have HS := Lib.hid (show sumW wBlob x ys.length = sumW wBlob x x.length by rw [HYL.out])
        go_wp2
        go_ret2
        exact ⟨by rw [← HS.out]; rfl, HX.out.trans HX1.out⟩
set_option maxHeartbeats 1000000 in
set_option maxRecDepth 100000 in
theorem sizeByte_any (A : Option Addr) (n c : Nat) (w : World) : Calls Try.prog 40 #[.slice A n c] w fun q w' => q = .returned (.int .i64 n) ∧ w = w' := by
  go_enter Try.func40, Try.ntmps40
  go_wp2
  go_ret
  exact ⟨rfl, rfl⟩
set_option maxHeartbeats 1000000 in
set_option maxRecDepth 100000 in
theorem implStoreBytes_u (cs : Array Value) (x : List Bl) (w : World) (S : Nat → Prop) (h : RStore w S cs x) (hln : x.length ≤ 1048576) :
    Calls Try.prog 14 #[.agg cs] w fun q w' => q = .returned (.tuple #[.int .i64 (bytesR x).1, .int .i64 (bytesR x).2]) ∧ Ext w w' := by
  have hv := implValidStore_u cs x _ S (h.ext (ext_alloc w (.cells cs 29))) hln
  obtain ⟨v, rfl, hr⟩ := h
  obtain ⟨ys, hyl, hrb, hof⟩ := blobs_cells hr
  obtain ⟨A, cap, rfl, hcap, hlen⟩ := hr.shape
  have HRB := Lib.hid hrb
  have HYL := Lib.hid hyl
  have HLEN := Lib.hid (show ∀ i (h1 : i < ys.length) (h2 : i < x.length), ys[i].2.2.1 = x[i].2.length from fun i h1 h2 => (hof i h1 h2).len)
  have HB := Lib.hid (Blk.new w 29 #[.slice A x.length cap])
  clear hr hyl hrb hof
  cases hok : okSt x with
  | false =>
    simp only [hok] at hv
    rw [show bytesR x = (0, 1) by rw [bytesR, hok]; rfl]
    clear hok
    go_enter Try.func14, Try.ntmps14
    go_wp2_with (refine wpl_loadB HB.out aggStoreI rfl rfl _ rfl rfl ?_)
    refine hv.mono ?_
    rintro e w1 ⟨rfl, hx⟩
    have HX := Lib.hid ((ext_alloc w _).trans hx)
    clear hx hv
    go_wp2
    go_ret2
    exact ⟨rfl, HX.out⟩
  | true =>
    have HFIT := Lib.hid (okSt_yes hok).2.1
    have h128 := (okSt_yes hok).1
    simp only [hok] at hv
    rw [show bytesR x = (((sumW wBlob x x.length : Nat) : Int), 0) by rw [bytesR, hok]; rfl]
    clear hok
    go_enter Try.func14, Try.ntmps14
    go_wp2_with (refine wpl_loadB HB.out aggStoreI rfl rfl _ rfl rfl ?_)
    refine hv.mono ?_
    rintro e w1 ⟨rfl, hx⟩
    have HX := Lib.hid ((ext_alloc w _).trans hx)
    have b0 : w1.cell? ⟨w.heap.size, 0, none⟩ = some (.slice A x.length cap) := (HB.out.ext hx).at_ 0 rfl
    obtain ⟨A', cap', e', _, _, hrd, hok⟩ := HRB.out.ext (by decide) HX.out
    obtain ⟨rfl, hxy, rfl⟩ := Value.slice.inj e'
    have HRD := Lib.hid hrd
    have HOK := Lib.hid hok
    clear hx hv e' hxy hrd hok
    go_wp2
    go_loopw [4, 6, 13] (fun n _ i wr => ∃ k : Nat, k ≤ x.length ∧ i = .int .i64 k ∧ n = .int .i64 ((sumW wBlob x k : Nat) : Int) ∧ sumW wBlob x k ≤ 1024 * k ∧ Ext w1 wr) (fun _ _ i _ => x.length - (intOf i).toNat)
    case atStart => exact ⟨0, by omega, rfl, by rw [sumW_zero]; rfl, by rw [sumW_zero]; omega, Ext.refl _⟩
    case round =>
      obtain ⟨k, hk, rfl, rfl, hle, hx⟩ := hrel
      have HX1 := Lib.hid hx
      have HLE := Lib.hid hle
      clear hx hle b0
      by_cases hlx : k < x.length
      · have hlt : k < ys.length := by rw [HYL.out]; exact hlx
        obtain ⟨g2, o2, rfl, _, hc⟩ := HRD.out.elem HOK.out k hlt
        have HD := Lib.hid (show ∀ j u, (tBlC.enc ys[k])[j]? = some u → wr.cell? ⟨g2, o2 + k * 2 + j, none⟩ = some u from fun j u hu => HX1.out.cell (hc j u hu))
        have HN := Lib.hid (HLEN.out k hlt hlx)
        have HS := Lib.hid (sumW_succ wBlob x k hlx)
        have HW := Lib.hid (show wBlob x[k] ≤ 1024 from HFIT.out k hlx)
        have hk0 : (0 : Int) ≤ (k : Int) := by omega
        have hk2 : (k : Int) < (x.length : Int) := by omega
        obtain ⟨c, hcE⟩ : ∃ c, ys[k] = c := ⟨_, rfl⟩
        have hst := bcSt c
        have hsz := hst.size
        rw [hcE] at HD HN
        obtain ⟨t0, tA, n, tc⟩ := c
        obtain ⟨q, hq⟩ : ∃ q, sumW wBlob x k = q := ⟨_, rfl⟩
        rw [hq] at HLE ⊢
        have HQ := Lib.hid hq
        have hnb : n ≤ 1024 := by have := HN.out; have h2 : n = x[k].2.length := this; rw [h2]; exact HW.out
        have hqb : q ≤ 131072 := by have := HLE.out; omega
        have hwr : IntKind.i64.wrap ((q : Int) + (n : Int)) = ((q + n : Nat) : Int) := by rw [IntWalk.i64_in _ (by omega)]; omega
        have hz := sizeByte_any tA n tc
        clear hc hcE hq hnb hqb
        go_wp2_with (first
          | (refine wpl_load ⟨g2, o2 + k * 2, none⟩ (tBlC.enc (t0, tA, n, tc)) aggBlobI rfl _ rfl rfl (fun j u hu => by rw [Addr.add_lit]; exact HD.out j u hu) ?_)
          | (refine wpl_storeNewB aggBlobI hst rfl rfl _ _ rfl rfl rfl rfl ?_))
        have V := Lib.hid (Blk.new wr 68 (tBlC.enc (t0, tA, n, tc)).toArray)
        refine (hz _).mono ?_
        rintro e w' ⟨rfl, rfl⟩
        go_wp2
        go_roundw
        case rel => exact ⟨k + 1, by omega, by go_num, by rw [HS.out, HQ.out]; have e : n = x[k].2.length := HN.out; show _ = Value.int .i64 ((q + x[k].2.length : Nat) : Int); rw [← e]; first | rfl | go_num, by rw [HS.out, HQ.out]; have := HW.out; have := HLE.out; omega, HX1.out.trans (ext_alloc _ _)⟩
        case measure => simp [intOf]; omega
      · obtain rfl : k = x.length := by omega
        go_wp2
        go_ret2
        exact ⟨rfl, HX.out.trans HX1.out⟩
end Go.Proofs.Ytnklgkmpcochfaa
/- The walk of the law FnExactStoreBytes. No condition. -/
namespace Go.Proofs.Ytnklgkmpcochfaa
open Go.RowKit
set_option linter.unusedVariables false
set_option linter.unusedSimpArgs false

set_option maxHeartbeats 1000000 in
set_option maxRecDepth 100000 in
theorem FnExactStoreBytes_any (w : World) (cs0 : Array Value) (x0 : List Bl) (S0 : Nat → Prop) (h0 : RStore w S0 cs0 x0) :
    Calls Try.prog 4 #[.agg cs0] w fun e w' => e = .returned (.bool true) ∧ Ext w w' := by
  have H0 := Lib.hid h0
  clear h0
  have hn0 := H0.out.st.size
  have Hs0 := Lib.hid H0.out.st
  by_cases hz0 : (1048576 - (szW wBlob x0 : Nat) : Int) < 0
  · go_enter Try.func4, Try.ntmps4
    go_wp2_with (first | (refine wpl_loadB (Blk.new' (g := w.heap.size) (w := w) (by simp) 24 cs0) aggStoreL hn0 rfl _ rfl rfl ?_))
    refine (szStore_u _ x0 (1048576) _ _ (H0.out.ext (ext_alloc _ _)) (by omega) (by omega)).mono ?_
    rintro e w1 ⟨rfl, hx⟩
    rw [if_pos (by omega)]
    have B0 := Lib.hid ((Blk.new' (g := w.heap.size) (w := w) (by simp) 24 cs0).ext hx)
    have XW := Lib.hid ((ext_alloc _ _).trans hx)
    clear hx
    go_wp2_with (first | (refine wpl_loadB B0.out aggStoreL hn0 rfl _ rfl rfl ?_))
    go_ret
    exact ⟨rfl, XW.out⟩
  have hln0 : x0.length ≤ 1048576 := by have := szW_eq wBlob x0; omega
  obtain ⟨R, c, hR⟩ : ∃ R c, bytesR x0 = (R, c) := ⟨_, _, rfl⟩
  have HR := Lib.hid hR
  clear hR
  have hq : (c != c) = false := by simp
  have hq2 : (R != R) = false := by simp
  go_enter Try.func4, Try.ntmps4
  go_wp2_with (first | (refine wpl_loadB (Blk.new' (g := w.heap.size) (w := w) (by simp) 24 cs0) aggStoreL hn0 rfl _ rfl rfl ?_))
  refine (szStore_u _ x0 (1048576) _ _ (H0.out.ext (ext_alloc _ _)) (by omega) (by omega)).mono ?_
  rintro e w1 ⟨rfl, hx⟩
  rw [if_neg (by omega)]
  have B0 := Lib.hid ((Blk.new' (g := w.heap.size) (w := w) (by simp) 24 cs0).ext hx)
  have XW := Lib.hid ((ext_alloc _ _).trans hx)
  clear hx
  go_wp2_with (first | (refine wpl_loadB B0.out aggStoreL hn0 rfl _ rfl rfl ?_))
  refine (toStore_u _ x0 _ _ (H0.out.ext XW.out) hln0).mono ?_
  rintro e w2 ⟨vs0, rfl, ho, hx⟩
  replace B0 := Lib.hid (B0.out.ext hx)
  replace XW := Lib.hid (XW.out.trans hx)
  have Os0 := Lib.hid ho
  clear ho
  have Zns0 := Os0.out.st.size
  have Zss0 := Lib.hid Os0.out.st
  clear hx
  go_wp2_with (first | (refine wpl_loadB B0.out aggStoreL hn0 rfl _ rfl rfl ?_))
  refine (specStoreBytes_u _ x0 _ _ Os0.out hln0).mono ?_
  rintro e w3 ⟨he, hx⟩
  rw [HR.out] at he
  subst he
  replace Os0 := Lib.hid (Os0.out.ext hx)
  replace B0 := Lib.hid (B0.out.ext hx)
  replace XW := Lib.hid (XW.out.trans hx)
  clear hx
  clear Os0
  go_wp2_with (first | (refine wpl_loadB B0.out aggStoreL hn0 rfl _ rfl rfl ?_))
  refine (toStore_u _ x0 _ _ (H0.out.ext XW.out) hln0).mono ?_
  rintro e w4 ⟨vx0, rfl, ho, hx⟩
  replace B0 := Lib.hid (B0.out.ext hx)
  replace XW := Lib.hid (XW.out.trans hx)
  have Ox0 := Lib.hid ho
  clear ho
  have Znx0 := Ox0.out.st.size
  have Zsx0 := Lib.hid Ox0.out.st
  clear hx
  go_wp2_with (first | (refine wpl_storeNewB aggStoreI Zsx0.out rfl rfl _ _ rfl rfl rfl rfl ?_) | (refine wpl_loadB (Blk.new w4 29 vx0) aggStoreI Znx0 rfl _ rfl rfl ?_) | (refine wpl_loadB B0.out aggStoreL hn0 rfl _ rfl rfl ?_) | (refine wpl_loadB (B0.out.alloc _) aggStoreL hn0 rfl _ rfl rfl ?_))
  refine (implStoreBytes_u _ x0 _ _ (Ox0.out.ext (ext_alloc _ _)) hln0).mono ?_
  rintro e w5 ⟨he, hx⟩
  rw [HR.out] at he
  subst he
  have hE := (ext_alloc w4 (.cells vx0 29)).trans hx
  replace Ox0 := Lib.hid (Ox0.out.ext hE)
  replace B0 := Lib.hid (B0.out.ext hE)
  replace XW := Lib.hid (XW.out.trans hE)
  clear hE
  have Vx0 := Lib.hid ((Blk.new w4 29 vx0).ext hx)
  clear hx
  go_wp2_with (first | (refine wpl_loadB B0.out aggStoreL hn0 rfl _ rfl rfl ?_) | (refine wpl_loadB Vx0.out aggStoreI Znx0 rfl _ rfl rfl ?_))
  refine wp_region_held_drew (S := fun W => Ext w5 W) (by kernel_rfl) (Ext.refl _).drew (fun hHeld => ?_)
  refine wpAnyH_take (i := 0) (oi := ?oiz1) (v := (.agg vx0)) ?hiz1 (by kernel_rfl) (by kernel_rfl) (by kernel_rfl) ?hQz1 ?hyz1 (by assumption) ?restz1
  case hiz1 => simp only [List.getElem?_toArray, List.getElem?_cons_zero, List.getElem?_cons_succ]; rfl
  case hQz1 => exact fun _ _ _ h => h
  case hyz1 => refine yields_loadB Vx0.out aggStoreI Znx0 ?_ _ rfl rfl; rfl
  try simp only [Act.put, List.setIfInBounds_toArray, List.set_cons_zero, List.set_cons_succ]
  refine wpAnyH_take (i := 1) (oi := ?oiz2) (v := (.agg cs0)) ?hiz2 (by kernel_rfl) (by kernel_rfl) (by kernel_rfl) ?hQz2 ?hyz2 (by assumption) ?restz2
  case hiz2 => simp only [List.getElem?_toArray, List.getElem?_cons_zero, List.getElem?_cons_succ]; rfl
  case hQz2 => exact fun _ _ _ h => h
  case hyz2 => refine yields_loadB B0.out aggStoreL hn0 ?_ _ rfl rfl; rfl
  try simp only [Act.put, List.setIfInBounds_toArray, List.set_cons_zero, List.set_cons_succ]
  refine wpAnyH_ready (rs := [2]) (by kernel_rfl) (by simp) (AllReadyH.cons (o := ?oy3) ?hy3 (fun K hK => ?sy3) AllReadyH.nil)
  case hy3 => simp only [List.getElem?_toArray, List.getElem?_cons_zero, List.getElem?_cons_succ]; rfl
  go_simp
  refine (toStore_u _ x0 _ _ (H0.out.ext (XW.out.trans hHeld)) hln0).mono ?_
  rintro e w6 ⟨vy0, rfl, ho, hx⟩
  have hH2 := hHeld.trans hx
  refine hK.out _ _ hH2 (fun _ => ?_)
  clear hHeld hK K
  have hHeld := hH2
  clear hH2
  try simp only [Act.put, List.setIfInBounds_toArray, List.set_cons_zero, List.set_cons_succ]
  refine wpAnyH_ready (rs := [3]) (by kernel_rfl) (by simp) (AllReadyH.cons (o := ?oy4) ?hy4 (fun K hK => ?sy4) AllReadyH.nil)
  case hy4 => simp only [List.getElem?_toArray, List.getElem?_cons_zero, List.getElem?_cons_succ]; rfl
  go_simp
  refine (eqStore_u _ _ x0 _ _ _ (Ox0.out.ext hHeld) ho).mono ?_
  rintro e w7 ⟨rfl, hx⟩
  have hH2 := hHeld.trans hx
  refine hK.out _ _ hH2 (fun _ => ?_)
  clear hHeld hK K
  have hHeld := hH2
  clear hH2
  try simp only [Act.put, List.setIfInBounds_toArray, List.set_cons_zero, List.set_cons_succ]
  refine wpAnyH_take (i := 4) (oi := ?oiz5) (v := ?vz5) ?hiz5 (by kernel_rfl) (by kernel_rfl) (by kernel_rfl) ?hQz5 ?hyz5 (by assumption) ?restz5
  case hiz5 => simp only [List.getElem?_toArray, List.getElem?_cons_zero, List.getElem?_cons_succ]; rfl
  case hQz5 => exact fun _ _ _ h => h
  case hyz5 => exact Or.inl ⟨by rfl, by intro w hSw; go_simp; with_reducible rfl⟩
  try simp only [Act.put, List.setIfInBounds_toArray, List.set_cons_zero, List.set_cons_succ]
  refine wpAnyH_done (by kernel_rfl) ?_ _
  replace Ox0 := Lib.hid (Ox0.out.ext hHeld)
  replace B0 := Lib.hid (B0.out.ext hHeld)
  replace Vx0 := Lib.hid (Vx0.out.ext hHeld)
  replace XW := Lib.hid (XW.out.trans hHeld)
  clear hHeld
  go_wp2_with (first | (refine wpl_loadB B0.out aggStoreL hn0 rfl _ rfl rfl ?_) | (refine wpl_loadB Vx0.out aggStoreI Znx0 rfl _ rfl rfl ?_))
  go_ret
  exact ⟨rfl, XW.out⟩
end Go.Proofs.Ytnklgkmpcochfaa
/- A store as an argument. No condition. -/
namespace Go.Proofs.Ytnklgkmpcochfaa
open Go.RowKit Go.ChangeShapes Go.WideShapes Go.Deep
set_option linter.unusedVariables false
theorem opens_struct1 {α : Type} {P : Program} {t : TypeId} {f : Field} {c : Cd α} (ht : P.underlying t = some (.struct #[f])) (h0 : f.offset = 0) (hc : P.cellsOf t = P.cellsOf f.type) (hf : Opens P f.type c) : Opens P t c := by
  intro H enc w base spare held fuel cs x h hw
  obtain ⟨xs, m, rfl, rfl, hl, hx, hi⟩ := DataW.trod_struct ht h
  match xs, hx with
  | [y0], _ =>
    have e0 := hi 0 f rfl
    simp only [List.getElem?_cons_zero] at e0
    rw [h0, List.drop_zero, List.take_of_length_le (by omega)] at e0
    exact hf _ _ _ _ _ _ _ _ _ e0 (fun n hn => hw n (by simp [DataW.weights, ht, DataW.weightsEach, hn]))
/-- a slice whose elements hold slices -/
theorem rdn_of {α β : Type} {N : NR β} {c : Cd α} {w : World} {S : Nat → Prop} {v : Value} {xs : List α} (f : α → β) (hc : ∀ es x, c w S es x → es.length = N.sz → N.R w S es.toArray (f x)) (h : cSl N.sz c w S [v] xs) : RdN N w S v (xs.map f) := by
  obtain ⟨A, cap, hv, h1, h2, h3⟩ := h
  obtain rfl : v = .slice A xs.length cap := by simpa using hv
  refine ⟨A, cap, by rw [List.length_map], by rw [List.length_map]; exact h1, by rw [List.length_map]; omega, fun hn => ?_⟩
  rw [List.length_map] at hn
  obtain ⟨g, o, e, hS, h4⟩ := h3 hn
  refine ⟨g, o, e, hS, fun i hi => ?_⟩
  rw [List.length_map] at hi
  obtain ⟨es, h5, h6, h7⟩ := h4 i hi
  exact ⟨es, h5, h6, by rw [List.getElem_map]; exact hc es _ h7 h5⟩
theorem rdn_blobs {w : World} {S : Nat → Prop} {v : Value} {xs : List Bl} (h : cSl 2 (cPair (cInt .u8) (cSl 1 (cInt .u8))) w S [v] xs) : RdN nrBlob w S v xs := by
  have := rdn_of (N := nrBlob) (f := fun x : Bl => x) (fun es x hx _ => by
    obtain ⟨c1, c2, rfl, ⟨rfl, hwf⟩, hs⟩ := hx
    obtain ⟨A, cap, rfl, _⟩ := id hs
    exact ⟨_, rfl, rdl_of c_byte hs, wf_u8 hwf⟩) h
  simpa using this
end Go.Proofs.Ytnklgkmpcochfaa
