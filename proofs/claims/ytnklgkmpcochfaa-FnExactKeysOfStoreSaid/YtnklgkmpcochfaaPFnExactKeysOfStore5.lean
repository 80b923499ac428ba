/- What the walk of the law FnExactKeysOfStore needs, part 5 of 5. No condition. -/
import Derived.Test.YtnklgkmpcochfaaPFnExactKeysOfStore4
/- Which stores are valid: the program. No condition. -/
namespace Go.Proofs.Ytnklgkmpcochfaa
open Go.RowKit
set_option linter.unusedVariables false
set_option linter.unusedSimpArgs false

theorem rowKeyI : Row Try.prog tKey 35 53 32 := Row.mk' Try.underlying35 (.agg (numsA .u8 (List.replicate 32 0))) (by kernel_rfl) rfl (by decide) (by decide)
theorem bcSt (c : BC) : St 2 (tBlC.enc c).toArray := ⟨rfl, fun u hu => by rcases (by simpa [tBlC] using hu : u = .int .u8 c.1 ∨ u = .slice c.2.1 c.2.2.1 c.2.2.2) with rfl | rfl <;> rfl⟩
set_option maxHeartbeats 1000000 in
set_option maxRecDepth 100000 in
theorem vsFn_any (c : BC) (w : World) :
    Calls Try.prog 33 #[.agg (tBlC.enc c).toArray] w fun q w' => q = .returned (.bool (!decide (c.2.2.1 ≤ 1024))) ∧ Ext w w' := by
  have hv := implValidBlob_any c.1 c.2.1 c.2.2.1 c.2.2.2
  have hst := bcSt c
  have hsz := hst.size
  obtain ⟨t, A, n, q⟩ := c
  dsimp only at hv ⊢
  obtain ⟨r, hr⟩ : ∃ r, decide (n ≤ 1024) = r := ⟨_, rfl⟩
  simp only [hr] at hv ⊢
  clear hr
  go_enter Try.func33, Try.ntmps33
  go_wp2_with (refine wpl_loadB (Blk.new w 68 (tBlC.enc (t, A, n, q)).toArray) aggBlobI hsz rfl _ rfl rfl ?_)
  refine (hv _).mono ?_
  rintro e w1 ⟨rfl, hx⟩
  have HX := Lib.hid ((ext_alloc w _).trans hx)
  clear hx hv
  go_wp2
  go_ret
  exact ⟨rfl, HX.out⟩
set_option maxHeartbeats 1000000 in
set_option maxRecDepth 100000 in
theorem blobIdx_any (v : Value) (ys : List BC) (w : World) (S : Nat → Prop) (h : RdL tBlC w S v ys) :
    Calls Try.prog 60 #[v, .func (.func 33) #[] #[]] w fun q w' => (∃ k : Nat, k ≤ ys.length ∧ (∀ j (hj : j < ys.length), j < k → ys[j].2.2.1 ≤ 1024) ∧ ((k = ys.length ∧ q = .returned (.int .i64 (-1))) ∨ (∃ hk : k < ys.length, ¬ ys[k].2.2.1 ≤ 1024 ∧ q = .returned (.int .i64 k)))) ∧ Ext w w' := by
  obtain ⟨A, cap, rfl, hcap, hlen, hrd, hok⟩ := h
  have Hrd := Lib.hid hrd
  have Hok := Lib.hid hok
  clear hrd hok
  go_enter Try.func60, Try.ntmps60
  go_wp2
  go_loopw [8] (fun i wr => ∃ k : Nat, k ≤ ys.length ∧ i = .int .i64 k ∧ (∀ j (hj : j < ys.length), j < k → ys[j].2.2.1 ≤ 1024) ∧ Ext w wr) (fun i _ => ys.length - (intOf i).toNat)
  case atStart => exact ⟨0, by omega, rfl, fun j hj h => by omega, Ext.refl _⟩
  case round =>
    obtain ⟨k, hk, rfl, hm, hx⟩ := hrel
    have HX := Lib.hid hx
    have HM := Lib.hid hm
    clear hx hm
    by_cases hlt : k < ys.length
    · obtain ⟨g, o, rfl, hs0, hc⟩ := Hrd.out.elem Hok.out k hlt
      have HD0 := Lib.hid (show ∀ j u, (tBlC.enc ys[k])[j]? = some u → wr.cell? ⟨g, o + k * 2 + j, none⟩ = some u from fun j u hu => HX.out.cell (hc j u hu))
      have hf := vsFn_any ys[k] wr
      have hk0 : (0 : Int) ≤ (k : Int) := by omega
      have hk2 : (k : Int) < (ys.length : Int) := by omega
      clear hc
      by_cases hq : ys[k].2.2.1 ≤ 1024
      · rw [decide_eq_true hq] at hf
        have HQ := Lib.hid hq
        clear hq
        go_wp2_with (refine wpl_load ⟨g, o + k * 2, none⟩ (tBlC.enc ys[k]) aggBlobI rfl _ rfl rfl (fun j u hu => by rw [Addr.add_lit]; exact HD0.out j u hu) ?_)
        refine hf.mono ?_
        rintro e w1 ⟨rfl, hx⟩
        have HX1 := Lib.hid (HX.out.trans hx)
        clear hx hf
        go_wp2
        go_roundw
        case rel => exact ⟨k + 1, by omega, by go_num, fun j hj h => by
          by_cases e : j = k
          · subst e; exact HQ.out
          · exact HM.out j hj (by omega), HX1.out⟩
        case measure => simp [intOf]; omega
      · rw [decide_eq_false hq] at hf
        have HQ := Lib.hid hq
        clear hq
        go_wp2_with (refine wpl_load ⟨g, o + k * 2, none⟩ (tBlC.enc ys[k]) aggBlobI rfl _ rfl rfl (fun j u hu => by rw [Addr.add_lit]; exact HD0.out j u hu) ?_)
        refine hf.mono ?_
        rintro e w1 ⟨rfl, hx⟩
        have HX1 := Lib.hid (HX.out.trans hx)
        clear hx hf
        go_wp2
        go_ret
        exact ⟨⟨k, hk, HM.out, .inr ⟨hlt, HQ.out, rfl⟩⟩, HX1.out⟩
    · obtain rfl : k = ys.length := by omega
      go_wp2
      go_ret
      exact ⟨⟨ys.length, hk, HM.out, .inl ⟨rfl, rfl⟩⟩, HX.out⟩
set_option maxHeartbeats 1000000 in
set_option maxRecDepth 100000 in
theorem blobBad_any (v : Value) (ys : List BC) (w : World) (S : Nat → Prop) (h : RdL tBlC w S v ys) :
    Calls Try.prog 32 #[v, .func (.func 33) #[] #[]] w fun q w' => q = .returned (.bool (!ys.all fun c => decide (c.2.2.1 ≤ 1024))) ∧ Ext w w' := by
  have hi := blobIdx_any v ys w S h
  obtain ⟨A, cap, rfl, _⟩ := id h
  clear h
  obtain ⟨R, hR⟩ : ∃ R, (ys.all fun c => decide (c.2.2.1 ≤ 1024)) = R := ⟨_, rfl⟩
  rw [hR]
  have HR := Lib.hid hR
  clear hR
  go_enter Try.func32, Try.ntmps32
  go_wp2_with fail
  refine hi.mono ?_
  rintro e w1 ⟨⟨k, hk, hm, hq⟩, hx⟩
  have HX := Lib.hid hx
  clear hx hi
  rcases hq with ⟨rfl, rfl⟩ | ⟨hlt, hbad, rfl⟩
  · have e : R = true := by
      rw [← HR.out, List.all_eq_true]
      intro c hc
      obtain ⟨j, hj, rfl⟩ := List.getElem_of_mem hc
      simpa using hm j hj hj
    subst e
    clear hm
    go_wp2
    go_ret
    exact ⟨rfl, HX.out⟩
  · have e : R = false := by
      rw [← HR.out, List.all_eq_false]
      exact ⟨_, List.getElem_mem hlt, by simpa using hbad⟩
    subst e
    have hk0 : (0 : Int) ≤ (k : Int) := by omega
    clear hm hbad
    go_wp2
    go_ret
    exact ⟨by first | rfl | simp, HX.out⟩
set_option maxHeartbeats 4000000 in
set_option maxRecDepth 100000 in
theorem storeKeys_any (v : Value) (ys : List BC) (x : List Bl) (w : World) (S : Nat → Prop) (h : RdL tBlC w S v ys) (hl : ys.length = x.length) (hln : x.length ≤ 1048576) (hof : ∀ i (h1 : i < ys.length) (h2 : i < x.length), BCof w S ys[i] x[i]) (hfit : ∀ k (hk : k < x.length), x[k].2.length ≤ 1024) :
    Calls Try.prog 35 #[.agg #[v]] w fun q w' => ∃ v', q = .returned v' ∧ Own tKey 53 w' w.heap.size v' (keysS x) ∧ Ext w w' := by
  obtain ⟨A, cap, rfl, hcap, hlen, hrd, hok⟩ := h
  have Hrd := Lib.hid hrd
  have Hok := Lib.hid hok
  have HOF := Lib.hid hof
  have HFIT := Lib.hid hfit
  have HL := Lib.hid hl
  have hb0 := (Blk.new w 29 #[.slice A ys.length cap]).at_ 0 rfl
  clear hrd hok hof hfit hl
  go_enter Try.func35, Try.ntmps35
  go_wp2_with fail
  go_loopw [3, 5, 10] (fun o _ i wr => ∃ k : Nat, k ≤ ys.length ∧ i = .int .i64 k ∧ Own tKey 53 wr w.heap.size o ((keysS x).take k) ∧ Ext w wr) (fun _ _ i _ => ys.length - (intOf i).toNat)
  case atStart => exact ⟨0, by omega, rfl, by
    have h9 := Own.empty tKey (w.alloc (.cells #[.slice A ys.length cap] 29)) 53 w.heap.size (ext_alloc _ _).size
    rw [size_alloc] at h9
    exact h9, (ext_alloc _ _).alloc _⟩
  case round =>
    obtain ⟨k, hk, rfl, ho, hx⟩ := hrel
    obtain ⟨C, n1, c1, rfl⟩ := ho.shape3
    have HX := Lib.hid hx
    have HO := Lib.hid ho
    clear hx ho hb0
    by_cases hlt : k < ys.length
    · have hlx : k < x.length := by rw [← HL.out]; exact hlt
      obtain ⟨g, o, rfl, hs0, hc⟩ := Hrd.out.elem Hok.out k hlt
      have hst := bcSt ys[k]
      have hsz := hst.size
      have HD0 := Lib.hid (show ∀ j u, (tBlC.enc ys[k])[j]? = some u → wr.cell? ⟨g, o + k * 2 + j, none⟩ = some u from fun j u hu => HX.out.cell (hc j u hu))
      have HBC := Lib.hid ((HOF.out k hlt hlx).ext HX.out)
      have hkey : ∀ W, Ext wr W → Calls Try.prog 61 #[.agg (tBlC.enc ys[k]).toArray] W fun e w' => e = .returned (.agg (numsA .u8 (keyB x[k]))) ∧ Ext W w' := fun W hW => by
        have hb := HBC.out.ext hW
        have := blobKey_any ys[k].1 (by rw [hb.1]; exact hb.2.2) _ x[k].2 W _ hb.2.1 (HFIT.out k hlx)
        rw [hb.1] at this
        have e : (tBlC.enc ys[k]).toArray = #[.int .u8 x[k].1, .slice ys[k].2.1 ys[k].2.2.1 ys[k].2.2.2] := by rw [← hb.1]; rfl
        rw [e]
        exact this
      have HT := Lib.hid (keysS_take x k hlx)
      have HKo := Lib.hid (keyB_ok x[k])
      have hk0 : (0 : Int) ≤ (k : Int) := by omega
      have hk2 : (k : Int) < (ys.length : Int) := by omega
      have HLN := Lib.hid (show (keysS x).length ≤ 1048576 by rw [keysS_length]; exact hln)
      obtain ⟨K, hK⟩ : ∃ K, keyB x[k] = K := ⟨_, rfl⟩
      rw [hK] at hkey HT HKo
      clear hc hK
      have HKY := Lib.hid hkey
      clear hkey
      go_wp2_with (first
        | (refine wpl_load ⟨g, o + k * 2, none⟩ (tBlC.enc ys[k]) aggBlobI rfl _ rfl rfl (fun j u hu => by rw [Addr.add_lit]; exact HD0.out j u hu) ?_)
        | (refine wpl_storeNewB aggBlobI hst rfl rfl _ _ rfl rfl rfl rfl ?_)
        | (refine wpl_loadB (Blk.new wr _ _) aggBlobI hsz rfl _ rfl rfl ?_))
      refine (HKY.out _ (ext_alloc _ _)).mono ?_
      rintro e w1 ⟨rfl, hx⟩
      have HX1 := Lib.hid (HX.out.trans ((ext_alloc wr _).trans hx))
      have HO1 := Lib.hid (HO.out.ext ((ext_alloc wr _).trans hx))
      clear hx HKY HX HO
      go_wp2_with (first
        | (refine wpl_one rowKeyI (by decide) K HKo.out rfl _ rfl rfl ?_)
        | (at_builtin; refine wpl_append rowKeyI rfl _ _ rfl (v := .slice C n1 c1) rfl (HO1.out.alloc _) _ _ rfl (A := some ⟨w1.heap.size, 0, none⟩) (ys := [K]) rfl (rd_one (T := tKey) w1 K HKo.out _) (by intro y hy; obtain rfl := List.mem_singleton.1 hy; exact HKo.out) (by have := HLN.out; simp; omega) (HX1.out.alloc _).size ?_; intro v9 w9 ho1 hg1 hat1; obtain ⟨C9, n9, c9, rfl⟩ := ho1.shape3; have HX9 := Lib.hid ((HO1.out.alloc (.cells (tKey.enc K).toArray 53)).ext_app (HX1.out.alloc _) hg1); have HO9 := Lib.hid ho1; clear ho1 hg1 hat1))
      go_roundw
      case rel => exact ⟨k + 1, by omega, by go_num, by rw [HT.out]; exact HO9.out, HX9.out⟩
      case measure => simp [intOf]; omega
    · obtain rfl : k = ys.length := by omega
      have HT := Lib.hid (show (keysS x).take ys.length = keysS x from List.take_of_length_le (by rw [keysS_length, HL.out]; exact Nat.le_refl _))
      go_wp2
      go_ret
      exact ⟨_, rfl, by rw [← HT.out]; exact HO.out, HX.out⟩
set_option maxHeartbeats 1000000 in
set_option maxRecDepth 100000 in
theorem isSorted_any (v : Value) (xs : List (List Int)) (R : Bool) (hR : R = true ↔ sortedB xs) (w : World) (S : Nat → Prop) (h : RdL tKey w S v xs) :
    Calls Try.prog 37 #[v, .func (.func 38) #[] #[]] w fun q w' => q = .returned (.bool R) ∧ Ext w w' := by
  have HR := Lib.hid hR
  clear hR
  obtain ⟨A, cap, rfl, hcap, hlen, hrd, hok⟩ := h
  have Hrd := Lib.hid hrd
  have Hok := Lib.hid hok
  clear hrd hok
  by_cases h0 : xs.length = 0
  · have hs : sortedB xs := fun k hk => by omega
    have HS := Lib.hid hs
    have hz : (xs.length : Int) = 0 := by omega
    clear h0 hs
    go_enter Try.func37, Try.ntmps37
    go_wp2
    go_loopw [5] (fun i wr => i = .int .i64 (-1) ∧ wr = w) (fun _ _ => 0)
    case atStart => exact ⟨by first | rfl | go_num, rfl⟩
    case round =>
      obtain ⟨rfl, rfl⟩ := hrel
      go_wp2
      go_ret
      exact ⟨by rw [HR.out.2 HS.out]; rfl, Ext.refl _⟩
  · have hn1 : (xs.length : Int) - 1 = ((xs.length - 1 : Nat) : Int) := by omega
    have HN1 := Lib.hid hn1
    clear hn1
    go_enter Try.func37, Try.ntmps37
    go_wp2
    go_loopw [5] (fun i wr => ∃ j : Nat, j < xs.length ∧ i = .int .i64 j ∧ (∀ k (hk : k + 1 < xs.length), j ≤ k → 0 ≤ cmpL xs[k + 1] xs[k]) ∧ Ext w wr) (fun i _ => (intOf i).toNat)
    case atStart => exact ⟨xs.length - 1, by omega, by first | (rw [HN1.out]; done) | (rw [HN1.out]; go_num) | go_num, fun k hk h => by omega, Ext.refl _⟩
    case round =>
      obtain ⟨j, hj, rfl, hm, hx⟩ := hrel
      have HX := Lib.hid hx
      have HM := Lib.hid hm
      clear hx hm
      by_cases hj0 : 0 < j
      · obtain ⟨m, rfl⟩ : ∃ m, j = m + 1 := ⟨j - 1, by omega⟩
        obtain ⟨g, o, rfl, hs0, hc0⟩ := Hrd.out.elem Hok.out m (by omega)
        obtain ⟨g2, o2, e, hs1, hc1⟩ := Hrd.out.elem Hok.out (m + 1) hj
        injection e with e
        injection e with e1 e2
        subst e1
        subst e2
        have HX0 := Lib.hid (show K32 xs[m] from Hok.out _ (List.getElem_mem _))
        have HX1 := Lib.hid (show K32 xs[m + 1] from Hok.out _ (List.getElem_mem hj))
        have HD0 := Lib.hid (show ∀ j u, (tKey.enc xs[m])[j]? = some u → wr.cell? ⟨g, o + m * 32 + j, none⟩ = some u from fun j u hu => HX.out.cell (hc0 j u hu))
        have HD1 := Lib.hid (show ∀ j u, (tKey.enc xs[m + 1])[j]? = some u → wr.cell? ⟨g, o + (m + 1) * 32 + j, none⟩ = some u from fun j u hu => HX.out.cell (hc1 j u hu))
        have e : ((m + 1 : Nat) : Int) = (m : Int) + 1 := by omega
        rw [e]
        clear hc0 hc1 e
        have hi : (0 : Int) ≤ (m : Int) := by omega
        have hi3 : (0 : Int) ≤ (m : Int) + 1 := by omega
        have hi1 : (m : Int) < (xs.length : Int) := by omega
        have hi2 : (m : Int) + 1 < (xs.length : Int) := by omega
        have hi4 : (0 : Int) < (m : Int) + 1 := by omega
        have W1 : IntKind.i64.wrap (m : Int) = m := IntWalk.i64_in _ (by omega)
        have W2 : IntKind.i64.wrap ((m : Int) + 1 - 1) = m := by rw [show (m : Int) + 1 - 1 = m by omega]; exact W1
        have R := Ext.refl wr
        go_wp2_with fail
        refine wp_region_held_drew (S := fun W => Ext wr W) (by kernel_rfl) (Ext.refl _).drew (fun hHeld => ?_)
        refine wpAnyH_take (i := 0) (oi := ?oiz1) (v := ?vz1) ?hiz1 (by kernel_rfl) (by kernel_rfl) (by kernel_rfl) ?hQz1 ?hyz1 (by assumption) ?restz1
        case hiz1 => simp only [List.getElem?_toArray, List.getElem?_cons_zero, List.getElem?_cons_succ]; rfl
        case hQz1 => exact fun _ _ _ h => h
        case hyz1 => exact Or.inl ⟨by rfl, by intro w hSw; (try dsimp only at hSw); go_simp; with_reducible rfl⟩
        try simp only [Act.put, List.setIfInBounds_toArray, List.set_cons_zero, List.set_cons_succ]
        refine wpAnyH_take (i := 1) (oi := ?oiz2) (v := ?vz2) ?hiz2 (by kernel_rfl) (by kernel_rfl) (by kernel_rfl) ?hQz2 ?hyz2 (by assumption) ?restz2
        case hiz2 => simp only [List.getElem?_toArray, List.getElem?_cons_zero, List.getElem?_cons_succ]; rfl
        case hQz2 => exact fun _ _ _ h => h
        case hyz2 => exact Or.inl ⟨by rfl, by intro w hSw; (try dsimp only at hSw); go_simp; with_reducible rfl⟩
        try simp only [Act.put, List.setIfInBounds_toArray, List.set_cons_zero, List.set_cons_succ]
        refine wpAnyH_take (i := 2) (oi := ?oiz3) (v := ?vz3) ?hiz3 (by kernel_rfl) (by kernel_rfl) (by kernel_rfl) ?hQz3 ?hyz3 (by assumption) ?restz3
        case hiz3 => simp only [List.getElem?_toArray, List.getElem?_cons_zero, List.getElem?_cons_succ]; rfl
        case hQz3 => exact fun _ _ _ h => h
        case hyz3 => exact Or.inl ⟨by rfl, by intro w hSw; (try dsimp only at hSw); go_simp; with_reducible rfl⟩
        try simp only [Act.put, List.setIfInBounds_toArray, List.set_cons_zero, List.set_cons_succ]
        refine wpAnyH_take (i := 3) (oi := ?oiz4) (v := ?vz4) ?hiz4 (by kernel_rfl) (by kernel_rfl) (by kernel_rfl) ?hQz4 ?hyz4 (by assumption) ?restz4
        case hiz4 => simp only [List.getElem?_toArray, List.getElem?_cons_zero, List.getElem?_cons_succ]; rfl
        case hQz4 => exact fun _ _ _ h => h
        case hyz4 => exact Or.inl ⟨by rfl, by intro w hSw; (try dsimp only at hSw); go_simp; with_reducible rfl⟩
        try simp only [Act.put, List.setIfInBounds_toArray, List.set_cons_zero, List.set_cons_succ]
        refine wpAnyH_take (i := 4) (oi := ?oiz5) (v := (.agg (tKey.enc xs[m + 1]).toArray)) ?hiz5 (by kernel_rfl) (by kernel_rfl) (by kernel_rfl) ?hQz5 ?hyz5 (by assumption) ?restz5
        case hiz5 => simp only [List.getElem?_toArray, List.getElem?_cons_zero, List.getElem?_cons_succ]; rfl
        case hQz5 => exact fun _ _ _ h => h
        case hyz5 => refine yields_loadR g (o + (m + 1) * 32) (tKey.enc xs[m + 1]) (by rw [tKey.len _ HX1.out]; exact aggKey) HD1.out ?_ _ rfl rfl; rfl
        try simp only [Act.put, List.setIfInBounds_toArray, List.set_cons_zero, List.set_cons_succ]
        refine wpAnyH_take (i := 5) (oi := ?oiz6) (v := ?vz6) ?hiz6 (by kernel_rfl) (by kernel_rfl) (by kernel_rfl) ?hQz6 ?hyz6 (by assumption) ?restz6
        case hiz6 => simp only [List.getElem?_toArray, List.getElem?_cons_zero, List.getElem?_cons_succ]; rfl
        case hQz6 => exact fun _ _ _ h => h
        case hyz6 => exact Or.inl ⟨by rfl, by intro w hSw; (try dsimp only at hSw); go_simp; with_reducible rfl⟩
        try simp only [Act.put, List.setIfInBounds_toArray, List.set_cons_zero, List.set_cons_succ]
        refine wpAnyH_take (i := 6) (oi := ?oiz7) (v := ?vz7) ?hiz7 (by kernel_rfl) (by kernel_rfl) (by kernel_rfl) ?hQz7 ?hyz7 (by assumption) ?restz7
        case hiz7 => simp only [List.getElem?_toArray, List.getElem?_cons_zero, List.getElem?_cons_succ]; rfl
        case hQz7 => exact fun _ _ _ h => h
        case hyz7 => exact Or.inl ⟨by rfl, by intro w hSw; (try dsimp only at hSw); go_simp; with_reducible rfl⟩
        try simp only [Act.put, List.setIfInBounds_toArray, List.set_cons_zero, List.set_cons_succ]
        refine wpAnyH_take (i := 7) (oi := ?oiz8) (v := ?vz8) ?hiz8 (by kernel_rfl) (by kernel_rfl) (by kernel_rfl) ?hQz8 ?hyz8 (by assumption) ?restz8
        case hiz8 => simp only [List.getElem?_toArray, List.getElem?_cons_zero, List.getElem?_cons_succ]; rfl
        case hQz8 => exact fun _ _ _ h => h
        case hyz8 => exact Or.inl ⟨by rfl, by intro w hSw; (try dsimp only at hSw); go_simp; with_reducible rfl⟩
        try simp only [Act.put, List.setIfInBounds_toArray, List.set_cons_zero, List.set_cons_succ]
        refine wpAnyH_take (i := 8) (oi := ?oiz9) (v := ?vz9) ?hiz9 (by kernel_rfl) (by kernel_rfl) (by kernel_rfl) ?hQz9 ?hyz9 (by assumption) ?restz9
        case hiz9 => simp only [List.getElem?_toArray, List.getElem?_cons_zero, List.getElem?_cons_succ]; rfl
        case hQz9 => exact fun _ _ _ h => h
        case hyz9 => exact Or.inl ⟨by rfl, by intro w hSw; (try dsimp only at hSw); go_simp; with_reducible rfl⟩
        try simp only [Act.put, List.setIfInBounds_toArray, List.set_cons_zero, List.set_cons_succ]
        refine wpAnyH_take (i := 9) (oi := ?oiz10) (v := (.agg (tKey.enc xs[m]).toArray)) ?hiz10 (by kernel_rfl) (by kernel_rfl) (by kernel_rfl) ?hQz10 ?hyz10 (by assumption) ?restz10
        case hiz10 => simp only [List.getElem?_toArray, List.getElem?_cons_zero, List.getElem?_cons_succ]; rfl
        case hQz10 => exact fun _ _ _ h => h
        case hyz10 => refine yields_loadR g (o + m * 32) (tKey.enc xs[m]) (by rw [tKey.len _ HX0.out]; exact aggKey) HD0.out ?_ _ rfl rfl; rfl
        try simp only [Act.put, List.setIfInBounds_toArray, List.set_cons_zero, List.set_cons_succ]
        refine wpAnyH_ready (rs := [10]) (by kernel_rfl) (by simp) (AllReadyH.cons (o := ?oy1110) ?hy1110 (fun K hK => ?sy1110) AllReadyH.nil)
        case hy1110 => simp only [List.getElem?_toArray, List.getElem?_cons_zero, List.getElem?_cons_succ]; rfl
        go_simp
        refine (compareKeys_any xs[m + 1] xs[m] HX1.out HX0.out _).mono ?_
        rintro e w1 ⟨rfl, hx⟩
        have hH2 := hHeld.trans hx
        refine hK.out _ _ hH2 (fun _ => ?_)
        clear hHeld hK K
        have hHeld := hH2
        clear hH2
        try simp only [Act.put, List.setIfInBounds_toArray, List.set_cons_zero, List.set_cons_succ]
        refine wpAnyH_take (i := 11) (oi := ?oiz12) (v := ?vz12) ?hiz12 (by kernel_rfl) (by kernel_rfl) (by kernel_rfl) ?hQz12 ?hyz12 (by assumption) ?restz12
        case hiz12 => simp only [List.getElem?_toArray, List.getElem?_cons_zero, List.getElem?_cons_succ]; rfl
        case hQz12 => exact fun _ _ _ h => h
        case hyz12 => exact Or.inl ⟨by rfl, by intro w hSw; (try dsimp only at hSw); go_simp; with_reducible rfl⟩
        try simp only [Act.put, List.setIfInBounds_toArray, List.set_cons_zero, List.set_cons_succ]
        refine wpAnyH_done (by kernel_rfl) ?_ _
        have HX2 := Lib.hid (HX.out.trans hHeld)
        clear hHeld R
        by_cases hc : cmpL xs[m + 1] xs[m] < 0
        · have HS := Lib.hid (show R = false by
            cases hr : R with
            | false => rfl
            | true => exact absurd hc (HR.out.1 hr m hj))
          go_wp2
          go_ret
          exact ⟨by rw [HS.out]; rfl, HX2.out⟩
        · have Hc := Lib.hid (Int.not_lt.1 hc)
          clear hc
          have hge : ¬ cmpL xs[m + 1] xs[m] < 0 := Int.not_lt.2 Hc.out
          go_wp2
          go_roundw
          case rel => exact ⟨m, by omega, by go_num, fun k hk h => by
            by_cases e : k = m
            · subst e; exact Hc.out
            · exact HM.out k hk (by omega), HX2.out⟩
          case measure => simp [intOf]
      · obtain rfl : j = 0 := by omega
        have HS := Lib.hid (show sortedB xs from fun k hk => Int.not_lt.2 (HM.out k hk (Nat.zero_le _)))
        go_wp2
        go_ret
        exact ⟨by first | (rw [HR.out.2 HS.out]; done) | (rw [HR.out.2 HS.out]; rfl), HX.out⟩
set_option maxHeartbeats 1000000 in
set_option maxRecDepth 100000 in
theorem implValidStore_any (cs : Array Value) (x : List Bl) (hln : x.length ≤ 1048576) (w : World) (S : Nat → Prop) (h : RStore w S cs x) :
    Calls Try.prog 11 #[.agg cs] w fun q w' => q = .returned (.bool (okSt x)) ∧ Ext w w' := by
  obtain ⟨v, rfl, hr⟩ := h
  obtain ⟨ys, hyl, hrb, hof⟩ := blobs_cells hr
  obtain ⟨A, cap, rfl, hcap, hlen⟩ := hr.shape
  have HRB := Lib.hid hrb
  have HOF := Lib.hid hof
  have HYL := Lib.hid hyl
  have HB := Lib.hid (Blk.new w 29 #[.slice A x.length cap])
  have hbad := blobBad_any _ ys _ _ (HRB.out.ext (by decide) (ext_alloc w (.cells #[.slice A x.length cap] 29)))
  have ha : (ys.all fun c => decide (c.2.2.1 ≤ 1024)) = fitB x x.length := by
    rw [fitB_iff]
    cases h1 : (ys.all fun c => decide (c.2.2.1 ≤ 1024)) with
    | true =>
      rw [List.all_eq_true] at h1
      refine (List.all_eq_true.2 fun b hb => ?_).symm
      obtain ⟨j, hj, rfl⟩ := List.getElem_of_mem hb
      have := h1 ys[j] (List.getElem_mem (by omega))
      rwa [(hof j (by omega) hj).len] at this
    | false =>
      rw [List.all_eq_false] at h1
      obtain ⟨c, hc, h2⟩ := h1
      obtain ⟨j, hj, rfl⟩ := List.getElem_of_mem hc
      refine (List.all_eq_false.2 ⟨x[j]'(by omega), List.getElem_mem _, ?_⟩).symm
      rwa [(hof j hj (by omega)).len] at h2
  rw [ha] at hbad
  clear ha hr hrb hof hyl
  by_cases h128 : x.length ≤ 128
  rotate_left
  · have hd : decide ((128 : Int) < (x.length : Int)) = true := decide_eq_true (by omega)
    have e : okSt x = false := by rw [okSt_eq, decide_eq_false h128]; rfl
    rw [e]
    clear e h128 hbad
    go_enter Try.func11, Try.ntmps11
    go_wp2
    go_ret
    exact ⟨rfl, ext_alloc _ _⟩
  have hd : decide ((128 : Int) < (x.length : Int)) = false := decide_eq_false (by omega)
  cases hfit : fitB x x.length with
  | false =>
    have e : okSt x = false := by rw [okSt_eq, hfit]; simp
    rw [e]
    rw [hfit] at hbad
    clear e hfit
    go_enter Try.func11, Try.ntmps11
    go_wp2_with fail
    refine hbad.mono ?_
    rintro e w1 ⟨rfl, hx⟩
    have HX := Lib.hid ((ext_alloc w _).trans hx)
    clear hx hbad
    go_wp2
    go_ret
    exact ⟨rfl, HX.out⟩
  | true =>
    have HOK := Lib.hid (show okSt x = srtB (keysS x) (keysS x).length by rw [okSt_eq, hfit, decide_eq_true h128, keysS_length]; rfl)
    have HFIT := Lib.hid (fitB_all hfit)
    rw [hfit] at hbad
    clear hfit
    go_enter Try.func11, Try.ntmps11
    go_wp2_with fail
    refine hbad.mono ?_
    rintro e w1 ⟨rfl, hx⟩
    have HX := Lib.hid ((ext_alloc w _).trans hx)
    have HB1 := Lib.hid (HB.out.ext hx)
    have hkeys := storeKeys_any (.slice A x.length cap) ys x w1 S (HRB.out.ext (by decide) HX.out) HYL.out hln (fun i h1 h2 => (HOF.out i h1 h2).ext HX.out) HFIT.out
    have hb0 : w1.cell? ⟨w.heap.size, 0, none⟩ = some (.slice A x.length cap) := HB1.out.at_ 0 rfl
    clear hx hbad
    go_wp2_with (refine wpl_loadB HB1.out aggStoreI rfl rfl _ rfl rfl ?_)
    refine hkeys.mono ?_
    rintro e w2 ⟨v2, rfl, ho, hx⟩
    have HX2 := Lib.hid (HX.out.trans hx)
    have HO2 := Lib.hid ho
    have hso := sortedK_any v2 (keysS x) w2 _ ho.rd (by rw [keysS_length]; omega)
    obtain ⟨A2, c2, rfl⟩ := ho.shape
    clear hx ho hkeys hb0
    go_wp2_with fail
    refine hso.mono ?_
    rintro e w3 ⟨v3, D, rfl, hp, hs, ho, hx⟩
    have HX3 := Lib.hid (HX2.out.trans hx)
    have HST := Lib.hid (store_ok (fun k hk => (keysS_ok x k hk).1) hp hs)
    obtain ⟨b, hb⟩ : ∃ b : Bool, (b = true ↔ sortedB (keysS x)) := by
      by_cases h : sortedB (keysS x)
      · exact ⟨true, fun _ => h, fun _ => rfl⟩
      · exact ⟨false, fun q => (by cases q), fun q => absurd q h⟩
    have his := isSorted_any _ _ b hb w3 _ (HO2.out.ext hx).rd
    have HBB := Lib.hid hb
    clear hb
    obtain ⟨A3, c3, rfl⟩ := ho.shape
    clear hx ho hso hp hs
    by_cases hce : (compactL D).length = (keysS x).length
    · have hq : (((compactL D).length : Int) == ((keysS x).length : Int)) = true := by rw [beq_iff_eq]; omega
      have HCE := Lib.hid hce
      clear hce
      go_wp2_with fail
      refine his.mono ?_
      rintro e w4 ⟨rfl, hx⟩
      have HX4 := Lib.hid (HX3.out.trans hx)
      have HE := Lib.hid (show okSt x = b by
        rw [HOK.out]
        cases hbq : b with
        | true => exact HST.out.1 ⟨HCE.out, HBB.out.1 hbq⟩
        | false =>
          cases hc : srtB (keysS x) (keysS x).length with
          | false => rfl
          | true => exact absurd (HBB.out.2 (HST.out.2 hc).2) (by rw [hbq]; decide))
      clear hx his
      go_wp2
      go_ret
      exact ⟨by rw [HE.out]; rfl, HX4.out⟩
    · have hq : (((compactL D).length : Int) == ((keysS x).length : Int)) = false := by rw [beq_eq_false_iff_ne]; omega
      have HE := Lib.hid (show okSt x = false by
        rw [HOK.out]
        cases hc : srtB (keysS x) (keysS x).length with
        | false => rfl
        | true => exact absurd (HST.out.2 hc).1 hce)
      clear hce his
      go_wp2
      go_ret
      exact ⟨by rw [HE.out]; rfl, HX3.out⟩
end Go.Proofs.Ytnklgkmpcochfaa
/- Valid stores, their bytes, their keys: the reference and the program. No condition. -/
namespace Go.Proofs.Ytnklgkmpcochfaa
open Go.RowKit
set_option linter.unusedVariables false
set_option linter.unusedSimpArgs false

/-- the bytes of a store, and a code -/
def bytesR (x : List Bl) : Int × Int := if okSt x then (((sumW wBlob x x.length : Nat) : Int), 0) else (0, 1)
/-- the keys of a store, and a code -/
def keysR (x : List Bl) : List (List Int) × Int := if okSt x then (keysS x, 0) else ([], 1)
theorem keysR_ok (x : List Bl) : ∀ k ∈ (keysR x).1, K32 k := by
  unfold keysR
  split
  · exact keysS_ok x
  · simp
theorem keysR_len (x : List Bl) : (keysR x).1.length ≤ 128 := by
  unfold keysR
  split
  · rename_i h; rw [keysS_length]; exact (okSt_yes h).1
  · simp
set_option maxHeartbeats 1000000 in
set_option maxRecDepth 100000 in
theorem specValidStore_u (cs : Array Value) (x : List Bl) (w : World) (S : Nat → Prop) (h : RStore w S cs x) (hln : x.length ≤ 1048576) :
    Calls Try.prog 9 #[.agg cs] w fun q w' => q = .returned (.bool (okSt x)) ∧ Ext w w' := by
  obtain ⟨v, rfl, hr⟩ := h
  have ho := l05Open_any x hln v _ S (hr.ext (ext_alloc w (.cells #[v] 29))) w.heap.size (Blk.new w 29 #[v])
  obtain ⟨A, cap, rfl, _⟩ := hr.shape
  clear hr
  go_enter Try.func9, Try.ntmps9
  go_wp2_with fail
  refine ho.mono ?_
  rintro e w1 ⟨g, bv, kv, rfl, _, hx⟩
  have HX := Lib.hid ((ext_alloc w _).trans hx)
  clear hx ho
  go_wp2
  go_ret
  exact ⟨rfl, HX.out⟩
theorem implValidStore_u (cs : Array Value) (x : List Bl) (w : World) (S : Nat → Prop) (h : RStore w S cs x) (hln : x.length ≤ 1048576) :
    Calls Try.prog 11 #[.agg cs] w fun q w' => q = .returned (.bool (okSt x)) ∧ Ext w w' := implValidStore_any cs x hln w S h
set_option maxHeartbeats 1000000 in
set_option maxRecDepth 100000 in
theorem specStoreBytes_u (cs : Array Value) (x : List Bl) (w : World) (S : Nat → Prop) (h : RStore w S cs x) (hln : x.length ≤ 1048576) :
    Calls Try.prog 13 #[.agg cs] w fun q w' => q = .returned (.tuple #[.int .i64 (bytesR x).1, .int .i64 (bytesR x).2]) ∧ Ext w w' := by
  obtain ⟨v, rfl, hr⟩ := h
  have ho := l05Open_any x hln v _ S (hr.ext (ext_alloc w (.cells #[v] 29))) w.heap.size (Blk.new w 29 #[v])
  obtain ⟨A, cap, rfl, _⟩ := hr.shape
  clear hr
  cases hok : okSt x with
  | false =>
    simp only [hok] at ho
    rw [show bytesR x = (0, 1) by rw [bytesR, hok]; rfl]
    clear hok
    go_enter Try.func13, Try.ntmps13
    go_wp2_with fail
    refine ho.mono ?_
    rintro e w1 ⟨g, bv, kv, rfl, _, hx⟩
    have HX := Lib.hid ((ext_alloc w _).trans hx)
    clear hx ho
    go_wp2
    go_ret2
    exact ⟨rfl, HX.out⟩
  | true =>
    have HFIT := Lib.hid (okSt_yes hok).2.1
    have h128 := (okSt_yes hok).1
    simp only [hok] at ho
    rw [show bytesR x = (((sumW wBlob x x.length : Nat) : Int), 0) by rw [bytesR, hok]; rfl]
    clear hok
    go_enter Try.func13, Try.ntmps13
    go_wp2_with fail
    refine ho.mono ?_
    rintro e w1 ⟨g, bv, kv, rfl, hyes, hx⟩
    obtain ⟨hg, hB, ⟨ys, hob, hyl, hlen⟩, _⟩ := hyes (by first | rfl | trivial)
    obtain ⟨A1, c1, rfl⟩ := hob.shape
    have HX := Lib.hid ((ext_alloc w _).trans hx)
    have HB := Lib.hid hB
    have HYL := Lib.hid hyl
    have HLEN := Lib.hid hlen
    obtain ⟨A', cap', e', _, _, hrd, hok⟩ := hob.rd
    obtain ⟨rfl, _, rfl⟩ := Value.slice.inj e'
    have HRD := Lib.hid hrd
    have HOK := Lib.hid hok
    clear hx ho hyes hg hB hob hyl hlen e' hrd hok
    go_wp2
    go_loopw [6, 7] (fun n i wr => ∃ k : Nat, k ≤ ys.length ∧ i = .int .i64 k ∧ n = .int .i64 ((sumW wBlob x k : Nat) : Int) ∧ sumW wBlob x k ≤ 1024 * k ∧ Ext w1 wr) (fun _ i _ => ys.length - (intOf i).toNat)
    case atStart => exact ⟨0, by omega, rfl, by rw [sumW_zero]; rfl, by rw [sumW_zero]; omega, Ext.refl _⟩
    case round =>
      obtain ⟨k, hk, rfl, rfl, hle, hx⟩ := hrel
      have HX1 := Lib.hid hx
      have HLE := Lib.hid hle
      have b0 : wr.cell? ⟨g, 0, none⟩ = some (.slice A1 ys.length c1) := (HB.out.ext hx).at_ 0 rfl
      clear hx hle
      by_cases hlt : k < ys.length
      · have hlx : k < x.length := by rw [← HYL.out]; exact hlt
        obtain ⟨g2, o2, rfl, _, hc⟩ := HRD.out.elem HOK.out k hlt
        have d1 : wr.cell? ⟨g2, o2 + k * 2 + 1, none⟩ = some (.slice ys[k].2.1 ys[k].2.2.1 ys[k].2.2.2) := HX1.out.cell (hc 1 _ rfl)
        have HN := Lib.hid (HLEN.out k hlt hlx)
        have HS := Lib.hid (sumW_succ wBlob x k hlx)
        have HW := Lib.hid (show wBlob x[k] ≤ 1024 from HFIT.out k hlx)
        have hk0 : (0 : Int) ≤ (k : Int) := by omega
        have hk2 : (k : Int) < (ys.length : Int) := by omega
        have hys : ys.length ≤ 128 := by rw [HYL.out]; exact h128
        obtain ⟨n, hn⟩ : ∃ n, ys[k].2.2.1 = n := ⟨_, rfl⟩
        have HNn := Lib.hid hn
        rw [hn] at d1
        obtain ⟨q, hq⟩ : ∃ q, sumW wBlob x k = q := ⟨_, rfl⟩
        rw [hq] at HLE ⊢
        have HQ := Lib.hid hq
        have hnb : n ≤ 1024 := by rw [← hn, HN.out]; exact HW.out
        have hqb : q ≤ 131072 := by have := HLE.out; omega
        have hwr : IntKind.i64.wrap ((q : Int) + (n : Int)) = ((q + n : Nat) : Int) := by rw [IntWalk.i64_in _ (by omega)]; omega
        clear hc hn hq hnb hqb hys
        go_wp2
        go_roundw
        case rel => exact ⟨k + 1, by omega, by go_num, by rw [HS.out, HQ.out]; first | (have e := HNn.out; rw [HN.out] at e; show _ = Value.int .i64 ((q + x[k].2.length : Nat) : Int); rw [e]; first | rfl | (rw [← hwr]) | go_num), by rw [HS.out, HQ.out]; have := HW.out; have := HLE.out; omega, HX1.out⟩
        case measure => simp [intOf]; omega
      · obtain rfl : k = ys.length := by omega
        have HS := Lib.hid (show sumW wBlob x ys.length = sumW wBlob x x.length by rw [HYL.out])
        go_wp2
        go_ret2
        exact ⟨by rw [← HS.out]; rfl, HX.out.trans HX1.out⟩
set_option maxHeartbeats 1000000 in
set_option maxRecDepth 100000 in
theorem sizeByte_any (A : Option Addr) (n c : Nat) (w : World) : Calls Try.prog 40 #[.slice A n c] w fun q w' => q = .returned (.int .i64 n) ∧ w = w' := by
  go_enter Try.func40, Try.ntmps40
  go_wp2
  go_ret
  exact ⟨rfl, rfl⟩
set_option maxHeartbeats 1000000 in
set_option maxRecDepth 100000 in
theorem implStoreBytes_u (cs : Array Value) (x : List Bl) (w : World) (S : Nat → Prop) (h : RStore w S cs x) (hln : x.length ≤ 1048576) :
    Calls Try.prog 14 #[.agg cs] w fun q w' => q = .returned (.tuple #[.int .i64 (bytesR x).1, .int .i64 (bytesR x).2]) ∧ Ext w w' := by
  have hv := implValidStore_u cs x _ S (h.ext (ext_alloc w (.cells cs 29))) hln
  obtain ⟨v, rfl, hr⟩ := h
  obtain ⟨ys, hyl, hrb, hof⟩ := blobs_cells hr
  obtain ⟨A, cap, rfl, hcap, hlen⟩ := hr.shape
  have HRB := Lib.hid hrb
  have HYL := Lib.hid hyl
  have HLEN := Lib.hid (show ∀ i (h1 : i < ys.length) (h2 : i < x.length), ys[i].2.2.1 = x[i].2.length from fun i h1 h2 => (hof i h1 h2).len)
  have HB := Lib.hid (Blk.new w 29 #[.slice A x.length cap])
  clear hr hyl hrb hof
  cases hok : okSt x with
  | false =>
    simp only [hok] at hv
    rw [show bytesR x = (0, 1) by rw [bytesR, hok]; rfl]
    clear hok
    go_enter Try.func14, Try.ntmps14
    go_wp2_with (refine wpl_loadB HB.out aggStoreI rfl rfl _ rfl rfl ?_)
    refine hv.mono ?_
    rintro e w1 ⟨rfl, hx⟩
    have HX := Lib.hid ((ext_alloc w _).trans hx)
    clear hx hv
    go_wp2
    go_ret2
    exact ⟨rfl, HX.out⟩
  | true =>
    have HFIT := Lib.hid (okSt_yes hok).2.1
    have h128 := (okSt_yes hok).1
    simp only [hok] at hv
    rw [show bytesR x = (((sumW wBlob x x.length : Nat) : Int), 0) by rw [bytesR, hok]; rfl]
    clear hok
    go_enter Try.func14, Try.ntmps14
    go_wp2_with (refine wpl_loadB HB.out aggStoreI rfl rfl _ rfl rfl ?_)
    refine hv.mono ?_
    rintro e w1 ⟨rfl, hx⟩
    have HX := Lib.hid ((ext_alloc w _).trans hx)
    have b0 : w1.cell? ⟨w.heap.size, 0, none⟩ = some (.slice A x.length cap) := (HB.out.ext hx).at_ 0 rfl
    obtain ⟨A', cap', e', _, _, hrd, hok⟩ := HRB.out.ext (by decide) HX.out
    obtain ⟨rfl, hxy, rfl⟩ := Value.slice.inj e'
    have HRD := Lib.hid hrd
    have HOK := Lib.hid hok
    clear hx hv e' hxy hrd hok
    go_wp2
    go_loopw [4, 6, 13] (fun n _ i wr => ∃ k : Nat, k ≤ x.length ∧ i = .int .i64 k ∧ n = .int .i64 ((sumW wBlob x k : Nat) : Int) ∧ sumW wBlob x k ≤ 1024 * k ∧ Ext w1 wr) (fun _ _ i _ => x.length - (intOf i).toNat)
    case atStart => exact ⟨0, by omega, rfl, by rw [sumW_zero]; rfl, by rw [sumW_zero]; omega, Ext.refl _⟩
    case round =>
      obtain ⟨k, hk, rfl, rfl, hle, hx⟩ := hrel
      have HX1 := Lib.hid hx
      have HLE := Lib.hid hle
      clear hx hle b0
      by_cases hlx : k < x.length
      · have hlt : k < ys.length := by rw [HYL.out]; exact hlx
        obtain ⟨g2, o2, rfl, _, hc⟩ := HRD.out.elem HOK.out k hlt
        have HD := Lib.hid (show ∀ j u, (tBlC.enc ys[k])[j]? = some u → wr.cell? ⟨g2, o2 + k * 2 + j, none⟩ = some u from fun j u hu => HX1.out.cell (hc j u hu))
        have HN := Lib.hid (HLEN.out k hlt hlx)
        have HS := Lib.hid (sumW_succ wBlob x k hlx)
        have HW := Lib.hid (show wBlob x[k] ≤ 1024 from HFIT.out k hlx)
        have hk0 : (0 : Int) ≤ (k : Int) := by omega
        have hk2 : (k : Int) < (x.length : Int) := by omega
        obtain ⟨c, hcE⟩ : ∃ c, ys[k] = c := ⟨_, rfl⟩
        have hst := bcSt c
        have hsz := hst.size
        rw [hcE] at HD HN
        obtain ⟨t0, tA, n, tc⟩ := c
        obtain ⟨q, hq⟩ : ∃ q, sumW wBlob x k = q := ⟨_, rfl⟩
        rw [hq] at HLE ⊢
        have HQ := Lib.hid hq
        have hnb : n ≤ 1024 := by have := HN.out; have h2 : n = x[k].2.length := this; rw [h2]; exact HW.out
        have hqb : q ≤ 131072 := by have := HLE.out; omega
        have hwr : IntKind.i64.wrap ((q : Int) + (n : Int)) = ((q + n : Nat) : Int) := by rw [IntWalk.i64_in _ (by omega)]; omega
        have hz := sizeByte_any tA n tc
        clear hc hcE hq hnb hqb
        go_wp2_with (first
          | (refine wpl_load ⟨g2, o2 + k * 2, none⟩ (tBlC.enc (t0, tA, n, tc)) aggBlobI rfl _ rfl rfl (fun j u hu => by rw [Addr.add_lit]; exact HD.out j u hu) ?_)
          | (refine wpl_storeNewB aggBlobI hst rfl rfl _ _ rfl rfl rfl rfl ?_))
        have V := Lib.hid (Blk.new wr 68 (tBlC.enc (t0, tA, n, tc)).toArray)
        refine (hz _).mono ?_
        rintro e w' ⟨rfl, rfl⟩
        go_wp2
        go_roundw
        case rel => exact ⟨k + 1, by omega, by go_num, by rw [HS.out, HQ.out]; have e : n = x[k].2.length := HN.out; show _ = Value.int .i64 ((q + x[k].2.length : Nat) : Int); rw [← e]; first | rfl | go_num, by rw [HS.out, HQ.out]; have := HW.out; have := HLE.out; omega, HX1.out.trans (ext_alloc _ _)⟩
        case measure => simp [intOf]; omega
      · obtain rfl : k = x.length := by omega
        go_wp2
        go_ret2
        exact ⟨rfl, HX.out.trans HX1.out⟩
end Go.Proofs.Ytnklgkmpcochfaa
/- The tree of a map, plainly. No condition. -/
namespace Go.Proofs.Ytnklgkmpcochfaa
open Go.RowKit
set_option linter.unusedVariables false
set_option linter.unusedSimpArgs false

inductive Tr where
  | leaf : Tr
  | node : Nd → Tr → Tr → Tr
def Tr.key : Tr → List Int
  | .leaf => emptyL
  | .node x _ _ => hashL 5 (nodeL x)
def Tr.all : Tr → List Nd
  | .leaf => []
  | .node x l r => x :: (l.all ++ r.all)
def Tr.ok : Tr → Prop
  | .leaf => True
  | .node x l r => x.ok ∧ entB x.n x.v = true ∧ x.l = l.key ∧ x.r = r.key ∧ l.ok ∧ r.ok
theorem Tr.key_ok (T : Tr) : K32 T.key := by
  cases T with
  | leaf => exact emptyL_ok
  | node x l r => exact hashL_ok _ _
theorem Tr.all_ok (T : Tr) (h : T.ok) : ∀ x ∈ T.all, x.ok ∧ entB x.n x.v = true := by
  induction T with
  | leaf => intro x hx; simp [Tr.all] at hx
  | node y l r il ir =>
    obtain ⟨h1, h2, _, _, h5, h6⟩ := h
    intro x hx
    simp only [Tr.all, List.mem_cons, List.mem_append] at hx
    rcases hx with rfl | hx | hx
    · exact ⟨h1, h2⟩
    · exact il h5 x hx
    · exact ir h6 x hx
/-- the place of the greatest of the first k priorities -/
def gK (ps : List (List Int)) (k : Nat) : List Int := ps.getD k []
theorem gK_lt {ps : List (List Int)} {k : Nat} (h : k < ps.length) : gK ps k = ps[k] := by simp [gK, List.getD_eq_getElem?_getD, h]
def topS (ps : List (List Int)) (k t : Nat) : Nat := if 0 < cmpL (gK ps k) (gK ps t) then k else t
def topI (ps : List (List Int)) : Nat → Nat
  | 0 => 0
  | k + 1 => topS ps k (topI ps k)
theorem topI_zero (ps : List (List Int)) : topI ps 0 = 0 := rfl
theorem topI_succ (ps : List (List Int)) (k : Nat) : topI ps (k + 1) = if 0 < cmpL (gK ps k) (gK ps (topI ps k)) then k else topI ps k := rfl
attribute [irreducible] topI
theorem topI_one (ps : List (List Int)) : topI ps 1 = 0 := by rw [topI_succ, topI_zero, cmpL_self]; simp
theorem topI_lt (ps : List (List Int)) (k : Nat) (h : 0 < k) : topI ps k < k := by
  induction k with
  | zero => omega
  | succ k ih =>
    rw [topI_succ]
    split
    · omega
    · rcases Nat.eq_zero_or_pos k with rfl | hk
      · rw [topI_zero]; omega
      · have := ih hk; omega
def prios (L : List En) : List (List Int) := L.map fun e => prioL e.1
theorem prios_length (L : List En) : (prios L).length = L.length := by simp [prios]
theorem prios_at (L : List En) (k : Nat) (h : k < L.length) : gK (prios L) k = prioL L[k].1 := by rw [gK_lt (by rw [prios_length]; exact h)]; simp [prios]
theorem prios_ok (L : List En) : ∀ p ∈ prios L, K32 p := by
  intro p hp
  simp only [prios, List.mem_map] at hp
  obtain ⟨e, _, rfl⟩ := hp
  exact prioL_ok _
theorem prios_take (L : List En) (k : Nat) : prios (L.take k) = (prios L).take k := by simp [prios]
theorem prios_drop (L : List En) (k : Nat) : prios (L.drop k) = (prios L).drop k := by simp [prios]
def topE (L : List En) : Nat := topI (prios L) L.length
theorem topE_lt {L : List En} (h : 0 < L.length) : topE L < L.length := topI_lt _ _ h
/-- the tree -/
def trS (L : List En) (l r : Tr) : Tr := if L.length = 0 then .leaf else .node ⟨l.key, r.key, (gE L (topE L)).1, (gE L (topE L)).2⟩ l r
def trF : Nat → List En → Tr
  | 0, _ => .leaf
  | f + 1, L => trS L (trF f (L.take (topE L))) (trF f (L.drop (topE L + 1)))
theorem trF_zero (L : List En) : trF 0 L = .leaf := rfl
theorem trF_succ (f : Nat) (L : List En) : trF (f + 1) L = trS L (trF f (L.take (topE L))) (trF f (L.drop (topE L + 1))) := rfl
attribute [irreducible] trF
theorem trF_nil (f : Nat) (L : List En) (h : L.length = 0) : trF f L = .leaf := by
  cases f with
  | zero => rw [trF_zero]
  | succ f => rw [trF_succ, trS, if_pos h]
theorem trF_cons (f : Nat) (L : List En) (h : ¬ L.length = 0) : trF (f + 1) L = .node ⟨(trF f (L.take (topE L))).key, (trF f (L.drop (topE L + 1))).key, (gE L (topE L)).1, (gE L (topE L)).2⟩ (trF f (L.take (topE L))) (trF f (L.drop (topE L + 1))) := by rw [trF_succ, trS, if_neg h]
/-- entries that a map may hold -/
def good (L : List En) : Prop := ∀ e ∈ L, tEnt.ok e ∧ entB e.1 e.2 = true
theorem good_of {L : List En} (h : okE L = true) (hok : ∀ e ∈ L, tEnt.ok e) : good L := by
  intro e he
  refine ⟨hok e he, ?_⟩
  rw [okE_eq, Bool.and_eq_true, incs, List.all_eq_true] at h
  obtain ⟨i, hi, rfl⟩ := List.getElem_of_mem he
  have := h.1 i (List.mem_range.2 hi)
  simp only [incC, Bool.and_eq_true] at this
  rw [gE_lt hi] at this
  exact this.1
theorem good.take {L : List En} (h : good L) (k : Nat) : good (L.take k) := fun e he => h e (List.mem_of_mem_take he)
theorem good.drop {L : List En} (h : good L) (k : Nat) : good (L.drop k) := fun e he => h e (List.mem_of_mem_drop he)
theorem good.at_ {L : List En} (h : good L) {k : Nat} (hk : k < L.length) : tEnt.ok (gE L k) ∧ entB (gE L k).1 (gE L k).2 = true := by rw [gE_lt hk]; exact h _ (List.getElem_mem hk)
theorem trF_ok (f : Nat) (L : List En) (h : good L) : (trF f L).ok := by
  induction f generalizing L with
  | zero => rw [trF_zero]; trivial
  | succ f ih =>
    by_cases h0 : L.length = 0
    · rw [trF_nil _ _ h0]; trivial
    · rw [trF_cons _ _ h0]
      have hg := h.at_ (topE_lt (L := L) (by omega))
      exact ⟨⟨Tr.key_ok _, Tr.key_ok _, hg.1.1, hg.1.2⟩, hg.2, rfl, rfl, ih _ (h.take _), ih _ (h.drop _)⟩
theorem trF_len (f : Nat) (L : List En) : (trF f L).all.length ≤ L.length := by
  induction f generalizing L with
  | zero => rw [trF_zero]; simp [Tr.all]
  | succ f ih =>
    by_cases h0 : L.length = 0
    · rw [trF_nil _ _ h0]; simp [Tr.all]
    · rw [trF_cons _ _ h0]
      have h1 := ih (L.take (topE L))
      have h2 := ih (L.drop (topE L + 1))
      have h3 := topE_lt (L := L) (by omega)
      simp only [Tr.all, List.length_cons, List.length_append]
      rw [List.length_take] at h1
      rw [List.length_drop] at h2
      omega
def tNd : Ty Nd := ⟨66, Nd.enc, Nd.ok, fun _ h => Nd.enc_length h, fun x => Nd.enc_one x⟩
theorem Rd.cutL {α : Type} {T : Ty α} {w : World} {S : Nat → Prop} {A : Option Addr} {xs : List α} (h : Rd w S T.sz A xs.length (xs.flatMap T.enc)) (hok : ∀ x ∈ xs, T.ok x) {k cap : Nat} (hk : k ≤ xs.length) (hc : xs.length ≤ cap) :
    Rd w S T.sz (if cap = k then A else A.map (·.add (k * T.sz))) (xs.drop k).length ((xs.drop k).flatMap T.enc) := by
  have h1 := h.cut hk hc
  have e : (xs.flatMap T.enc).drop (k * T.sz) = (xs.drop k).flatMap T.enc := by
    conv => lhs; rw [← List.take_append_drop k xs, List.flatMap_append]
    rw [List.drop_append_of_le_length (by rw [flat_length T _ (fun x hx => hok x (List.mem_of_mem_take hx)), List.length_take, Nat.min_eq_left hk]; exact Nat.le_refl _), List.drop_eq_nil_of_le (by rw [flat_length T _ (fun x hx => hok x (List.mem_of_mem_take hx)), List.length_take, Nat.min_eq_left hk]; exact Nat.le_refl _), List.nil_append]
  rw [e, ← List.length_drop] at h1
  exact h1
theorem Rd.headL {α : Type} {T : Ty α} {w : World} {S : Nat → Prop} {A : Option Addr} {xs : List α} (h : Rd w S T.sz A xs.length (xs.flatMap T.enc)) (hok : ∀ x ∈ xs, T.ok x) {k : Nat} (hk : k ≤ xs.length) :
    Rd w S T.sz A (xs.take k).length ((xs.take k).flatMap T.enc) := by
  have h1 := h.head hk
  have e : (xs.flatMap T.enc).take (k * T.sz) = (xs.take k).flatMap T.enc := by
    conv => lhs; rw [← List.take_append_drop k xs, List.flatMap_append]
    rw [List.take_append_of_le_length (by rw [flat_length T _ (fun x hx => hok x (List.mem_of_mem_take hx)), List.length_take, Nat.min_eq_left hk]; exact Nat.le_refl _), List.take_of_length_le (by rw [flat_length T _ (fun x hx => hok x (List.mem_of_mem_take hx)), List.length_take, Nat.min_eq_left hk]; exact Nat.le_refl _)]
  have hl : (xs.take k).length = k := by rw [List.length_take]; omega
  rw [e] at h1
  rw [hl]
  exact h1
/-- the first k of a list that is read -/
theorem RdL.head {α : Type} {T : Ty α} {w : World} {S : Nat → Prop} {A : Option Addr} {xs : List α} {cap : Nat} (h : RdL T w S (.slice A xs.length cap) xs) {k : Nat} (hk : k ≤ xs.length) : RdL T w S (.slice A k cap) (xs.take k) := by
  obtain ⟨A', cap', e, h1, h2, h3, h4⟩ := h
  injection e with e1 _ e3
  subst e1 e3
  have hl : (xs.take k).length = k := by rw [List.length_take]; omega
  exact ⟨A, cap, by rw [hl], by omega, by omega, h3.headL h4 hk, fun x hx => h4 x (List.mem_of_mem_take hx)⟩
theorem RdL.cut {α : Type} {T : Ty α} {w : World} {S : Nat → Prop} {A : Option Addr} {xs : List α} {cap : Nat} (h : RdL T w S (.slice A xs.length cap) xs) {k : Nat} (hk : k ≤ xs.length) :
    RdL T w S (.slice (if cap = k then A else A.map (·.add (k * T.sz))) (xs.length - k) (cap - k)) (xs.drop k) := by
  obtain ⟨A', cap', e, h1, h2, h3, h4⟩ := h
  injection e with e1 _ e3
  subst e1 e3
  exact ⟨_, cap - k, by rw [List.length_drop], by rw [List.length_drop]; omega, by rw [List.length_drop]; omega, h3.cutL h4 hk h1, fun x hx => h4 x (List.mem_of_mem_drop hx)⟩
end Go.Proofs.Ytnklgkmpcochfaa
/- Steps of regions that make and fill variables; structs built of parts. No condition. -/
namespace Go.Proofs.Ytnklgkmpcochfaa
open Go.RowKit
set_option linter.unusedVariables false
set_option linter.unusedSimpArgs false

section
variable {P : Program} {ops : Array Oper} {o : Oper} {a : Act} {w : World} {K : Act → World → Prop} {Q : Exit → Act → World → Prop} {E : Prop}
/-- a new variable: one step of a region -/
theorem stp_alloc {t : TypeId} (z : Array Value) (hz : (P.info? t).map (·.zero) = some (some (.agg z))) (hgd : o.guard = none) (ho : o.op = .alloc t)
    (h : K (a.put o.dst (.pointer (some ⟨w.heap.size, 0, none⟩))) (w.alloc (.cells z t))) : if Region.wanted o (yielded ops a.tmps) = true then Oper.wp P o a w K Q else E := by
  have hw : Region.wanted o (yielded ops a.tmps) = true := by simp [Region.wanted, hgd]
  rw [if_pos hw]
  cases hq : P.info? t with
  | none => simp [hq] at hz
  | some i =>
    have hz' : i.zero = some (.agg z) := by simpa [hq] using hz
    have hrun : (Instr.alloc t true (.tuple #[])).run P w = .ok (.pointer (some ⟨w.heap.size, 0, none⟩)) (w.alloc (.cells z t)) := by
      simp [Instr.alloc, zeroValue, typeInfo, hq, hz', newVar, newRow, Value.cells]
    unfold Oper.wp execOp
    simp only [ho, Sem.run_bind, hrun, Result.andThen_ok, Sem.run_pure]
    exact h
/-- a variable of a struct's type, made full: one step of a region -/
theorem stp_box {t : TypeId} {cs : Array Value} (hgd : o.guard = none) (x : Operand) (ho : o.op = .box t x) (hx : a.eval x = .agg cs)
    (h : K (a.put o.dst (.pointer (some ⟨w.heap.size, 0, none⟩))) (w.alloc (.cells cs t))) : if Region.wanted o (yielded ops a.tmps) = true then Oper.wp P o a w K Q else E := by
  have hw : Region.wanted o (yielded ops a.tmps) = true := by simp [Region.wanted, hgd]
  rw [if_pos hw]
  have hrun : (Instr.box t (.agg cs)).run P w = .ok (.pointer (some ⟨w.heap.size, 0, none⟩)) (w.alloc (.cells cs t)) := by
    simp [Instr.box, newVar, newRow, Value.cells]
  unfold Oper.wp execOp
  simp only [ho, hx, Sem.run_bind, hrun, Result.andThen_ok, Sem.run_pure]
  exact h
/-- a struct is stored: one step of a region -/
theorem stp_storeP {t g e n off : Nat} {cs cur : Array Value} (hb : Blk w g e cur) (ht : Agg P t n) (hs : St n cs) (hl : off + n ≤ cur.size) (hgd : o.guard = none) (x y : Operand) (ho : o.op = .store t x y)
    (hx : a.eval x = .pointer (some ⟨g, off, none⟩)) (hy : a.eval y = .agg cs) (hd : o.dst = none) (h : K a (w.setRow g (splice cur off cs.toList))) :
    if Region.wanted o (yielded ops a.tmps) = true then Oper.wp P o a w K Q else E := by
  have hw : Region.wanted o (yielded ops a.tmps) = true := by simp [Region.wanted, hgd]
  rw [if_pos hw]
  have hsz : cs.toList.length = n := by rw [Array.length_toList, hs.size]
  have hrun := run_storeCells_at P g off e cs.toList 0 cur w hb (by rw [hsz]; simpa using hl) hs.one
  simp only [Nat.add_zero] at hrun
  have ht2 := ht.2
  cases hq : P.info? t with
  | none => simp [hq] at ht2
  | some i =>
    have hs' : i.size = cs.toList.length := by rw [hsz]; simpa [hq] using ht2
    unfold Oper.wp execOp
    simp only [ho, hx, hy, Instr.storeAt, Instr.sureAddr, Sem.run_bind, Sem.run_pure, Result.andThen_ok]
    have hst : (storeVar t ⟨g, off, none⟩ (.agg cs)).run P w = .ok () (w.setRow g (splice cur off cs.toList)) := by
      simp only [storeVar, Sem.run_bind, sizeOf, typeInfo]
      simp only [Array.length_toList] at hs'
      simp [hq, hs', Value.cells, hrun, splice]
    rw [hst]
    simp only [Result.andThen_ok, Sem.run_pure]
    simpa [hd, Act.put, Oper.upon] using h
theorem yields_build {S : World → Prop} {t : TypeId} {parts : Array (Nat × Operand)} {cells : Array Value} (hw : Region.wanted o (yielded ops a.tmps) = true) (ho : o.op = .build t parts)
    (hb : P.built t (parts.toList.map fun p => (p.1, a.eval p.2)) = some cells) : YieldsIf P ops S o (.agg cells) a := Or.inl ⟨hw, fun W hW => by
  replace hb : P.built t (parts.map fun (i, x) => (i, a.eval x)).toList = some cells := by rw [Array.toList_map]; exact hb
  unfold execOp
  simp only [ho, Sem.run_bind, run_build (P := P) W t _ cells hb, Result.andThen_ok, Sem.run_pure]⟩
theorem wpl_buildN {rest : List Oper} {t : TypeId} {parts : Array (Nat × Operand)} {cells : Array Value} (hgd : o.guard = none) (ho : o.op = .build t parts)
    (hb : P.built t (parts.toList.map fun p => (p.1, a.eval p.2)) = some cells) (h : wpList P ops Q rest (a.put o.dst (.agg cells)) w) : wpList P ops Q (o :: rest) a w := by
  replace hb : P.built t (parts.map fun (i, x) => (i, a.eval x)).toList = some cells := by rw [Array.toList_map]; exact hb
  refine wpList_plain hgd fun K hK => ?_
  refine wp_build t parts ho (by rw [hb]; rfl) ?_
  rw [hb]
  exact hK _ _ h
end
theorem fill_at (l : List Value) (n off : Nat) (Z : Array Value) (h : off + n + l.length ≤ Z.size) : ((l.zipIdx n).foldl (fun cs x => cs.setIfInBounds (off + x.2) x.1) Z) = splice Z (off + n) l := by
  induction l generalizing n Z with
  | nil =>
    simp only [List.zipIdx_nil, List.foldl_nil, splice, List.length_nil, Nat.add_zero, List.append_nil, List.take_append_drop, Array.toArray_toList]
  | cons x r ih =>
    simp only [List.length_cons] at h
    simp only [List.zipIdx_cons, List.foldl_cons]
    rw [ih (n + 1) _ (by simp; omega)]
    have e := list_seg_step Z.toList (off + n) x r (by simp; omega)
    unfold splice
    rw [Array.toList_setIfInBounds, List.length_cons]
    rw [show off + (n + 1) = off + n + 1 by omega, e]
theorem fill_one (place : Nat → Option (Nat × Nat)) (Z : Array Value) (i off n : Nat) (v : Value) (rest : List (Nat × Value)) (hp : place i = some (off, n)) (hv : v.cells.size = n) (hl : off + n ≤ Z.size) :
    Instr.fill place Z ((i, v) :: rest) = Instr.fill place (splice Z off v.cells.toList) rest := by
  have hf := fill_at v.cells.toList 0 off Z (by rw [Array.length_toList, hv]; omega)
  have hz : v.cells.zipIdx.foldl (fun cs x => cs.setIfInBounds (off + x.2) x.1) Z = splice Z off v.cells.toList := by
    rw [← Array.foldl_toList, Array.toList_zipIdx]
    simpa using hf
  rw [Instr.fill, hp]
  simp only [hv]
  rw [if_neg (by simp; omega)]
  exact congrArg (fun z => Instr.fill place z rest) hz
def zNd : List Value := List.replicate 64 (Value.int .u8 0) ++ [Value.string ⟨#[]⟩, Value.string ⟨#[]⟩]
theorem fold_fillA (cs Z : Array Value) (n : Nat) (hn : cs.size = n) (h : Z.size = n) : Array.foldl (fun cs x => cs.setIfInBounds x.2 x.1) Z cs.zipIdx 0 n = cs := by
  subst hn
  have e := fold_fill cs.toList Z (by simpa using h)
  rw [← Array.toList_zipIdx, Array.foldl_toList] at e
  simpa using e
/-- a node, built of its parts -/
theorem built_node (x : Nd) (hx : x.ok) : Try.prog.built 171 [(0, .agg (numsA .u8 x.l)), (1, .agg (numsA .u8 x.r)), (2, .agg #[.string x.n, .string x.v])] = some x.enc.toArray := by
  have hb : ∀ parts, Try.prog.built 171 parts = Instr.fill (fun i => #[(0, 32), (32, 32), (64, 2)][i]?) zNd.toArray parts := fun parts => by kernel_rfl
  have hnl : (nums .u8 x.l).length = 32 := by rw [nums_length, hx.1.1]
  have hnr : (nums .u8 x.r).length = 32 := by rw [nums_length, hx.2.1.1]
  have e1 : splice zNd.toArray 0 (nums .u8 x.l) = (nums .u8 x.l ++ zNd.drop 32).toArray := by
    have := splice_next [] zNd (nums .u8 x.l) (o := 0) rfl
    rw [hnl] at this
    simpa using this
  have e2 : splice (nums .u8 x.l ++ zNd.drop 32).toArray 32 (nums .u8 x.r) = (nums .u8 x.l ++ nums .u8 x.r ++ zNd.drop 64).toArray := by
    have := splice_next (nums .u8 x.l) (zNd.drop 32) (nums .u8 x.r) (o := 32) hnl
    rw [hnr, List.drop_drop] at this
    exact this
  have e3 : splice (nums .u8 x.l ++ nums .u8 x.r ++ zNd.drop 64).toArray 64 [.string x.n, .string x.v] = x.enc.toArray := by
    have := splice_next (nums .u8 x.l ++ nums .u8 x.r) (zNd.drop 64) [.string x.n, .string x.v] (o := 64) (by rw [List.length_append, hnl, hnr])
    rw [show (zNd.drop 64).drop ([Value.string x.n, Value.string x.v]).length = [] from rfl, List.append_nil] at this
    exact this
  have c1 : (Value.agg (numsA .u8 x.l)).cells.toList = nums .u8 x.l := rfl
  have c2 : (Value.agg (numsA .u8 x.r)).cells.toList = nums .u8 x.r := rfl
  have c3 : (Value.agg #[.string x.n, .string x.v]).cells.toList = [.string x.n, .string x.v] := rfl
  have z1 : zNd.length = 66 := rfl
  rw [hb, fill_one _ _ 0 0 32 _ _ rfl (by rw [← Array.length_toList, c1, hnl]) (by rw [List.size_toArray, z1]; decide), c1, e1,
    fill_one _ _ 1 32 32 _ _ rfl (by rw [← Array.length_toList, c2, hnr]) (by rw [List.size_toArray, List.length_append, hnl]; decide), c2, e2,
    fill_one _ _ 2 64 2 _ _ rfl rfl (by rw [List.size_toArray, List.length_append, List.length_append, hnl, hnr]; decide), c3, e3, Instr.fill]
/-- a number and a whole array in a variable are the results -/
theorem results_tb {P : Program} {w : World} {fn : Func} {c d : Tmp} {t g e n : Nat} {cs : Array Value} (hr : fn.results = #[.tmp d, .cell c t]) (tmps : Array Value) (hp : tmps.getD c undef = .pointer (some ⟨g, 0, none⟩)) (ht : Agg P t n) (hn : cs.size = n) (hb : Blk w g e cs) {v : Value} (hv : tmps.getD d undef = v) :
    (results fn tmps).run P w = .ok (.tuple #[v, .agg cs]) w := by
  have hl := run_loadB (P := P) hb ht hn
  have hp' : tmps[c]?.getD undef = .pointer (some ⟨g, 0, none⟩) := by simpa using hp
  have hv' : tmps[d]?.getD undef = v := by simpa using hv
  simp [results, hr, hp', hv', asAddr, hl]
theorem rowNd : Row Try.prog tNd 163 171 96 := Row.mk' Try.underlying163 (.agg zNd.toArray) (by kernel_rfl) rfl (by decide) (by decide)
theorem rd_nd {w : World} {S : Nat → Prop} {A : Option Addr} {c n : Nat} {xs : List Nd} (h : RdL tNd w S (.slice A n c) xs) : Rd w S tNd.sz A xs.length (xs.flatMap tNd.enc) := by
  obtain ⟨A', cap, e, h1, h2, h3, h4⟩ := h
  injection e with e1 e2 e3
  subst e1
  exact h3
theorem ok_nd {w : World} {S : Nat → Prop} {v : Value} {xs : List Nd} (h : RdL tNd w S v xs) : ∀ y ∈ xs, tNd.ok y := by
  obtain ⟨A', cap, e, h1, h2, h3, h4⟩ := h
  exact h4
end Go.Proofs.Ytnklgkmpcochfaa
/- The keys of a store: the reference and the program. No condition. -/
namespace Go.Proofs.Ytnklgkmpcochfaa
open Go.RowKit
set_option linter.unusedVariables false
set_option linter.unusedSimpArgs false

set_option maxHeartbeats 400000 in
theorem cloneBl_any (v : Value) (xs : List BC) (w : World) (S : Nat → Prop) (h : RdL tBlC w S v xs) (hl : xs.length * 32 ≤ 140737488351232) :
    Calls Try.prog 67 #[v] w fun e w' => ∃ v', e = .returned v' ∧ Own tBlC 68 w' w.heap.size v' xs ∧ Ext w w' := by
  obtain ⟨A, cap, rfl, hcap, hlen, hrd, hok⟩ := h
  have Hrd := Lib.hid hrd
  have Hok := Lib.hid hok
  clear hrd hok
  rcases A with _ | ad
  · have h0 : xs.length = 0 := by
      rcases Nat.eq_zero_or_pos xs.length with h0 | h0
      · exact h0
      · obtain ⟨g, o, h, _⟩ := Hrd.out.2 h0
        cases h
    obtain rfl : xs = [] := List.eq_nil_of_length_eq_zero h0
    have he : ∀ W : World, (binOp .eql 27 (.slice none 0 cap) (.slice none 0 0)).run Try.prog W = .ok (.bool true) W := fun W => Lib.run_eql_slice_nil W 27 _ none 0 cap 0 0 Try.underlying27
    go_enter Try.func67, Try.ntmps67
    go_wp2_with fail
    go_ret
    exact ⟨_, rfl, Own.nil _ _ _ _, Ext.refl _⟩
  · have he : ∀ W : World, (binOp .eql 27 (.slice (some ad) xs.length cap) (.slice none 0 0)).run Try.prog W = .ok (.bool false) W := fun W => Lib.run_eql_slice_nil W 27 _ (some ad) xs.length cap 0 0 Try.underlying27
    go_enter Try.func67, Try.ntmps67
    go_wp2_with (at_builtin; refine wpl_append rowBlC rfl _ _ rfl rfl (Own.empty tBlC _ 68 w.heap.size (Nat.le_refl _)) _ _ rfl rfl (Hrd.out.ext (by decide) (ext_alloc _ _)) Hok.out (by simp; omega) (by simp) ?_; intro v1 w1 ho1 hg1 hat1; obtain ⟨A1, c1, rfl⟩ := ho1.shape; have HO := Lib.hid ho1; have HG := Lib.hid hg1; clear ho1 hg1 hat1)
    go_ret
    exact ⟨_, rfl, HO.out, (ext_alloc _ _).grown HG.out (fun k hk => Nat.le_of_eq (Option.some.inj hk))⟩

set_option maxHeartbeats 1000000 in
set_option maxRecDepth 100000 in
theorem specKeysOfStore_u (cs : Array Value) (x : List Bl) (hln : x.length ≤ 1048576) (w : World) (S : Nat → Prop) (h : RStore w S cs x) :
    Calls Try.prog 15 #[.agg cs] w fun q w' => ∃ v', q = .returned (.tuple #[v', .int .i64 (keysR x).2]) ∧ Own tKey 53 w' w.heap.size v' (keysR x).1 ∧ Ext w w' := by
  obtain ⟨v, rfl, hr⟩ := h
  have ho := l05Open_any x hln v _ S (hr.ext (ext_alloc w (.cells #[v] 29))) w.heap.size (Blk.new w 29 #[v])
  obtain ⟨A, cap, rfl, _⟩ := hr.shape
  clear hr
  cases hok : okSt x with
  | false =>
    simp only [hok] at ho
    rw [show keysR x = ([], 1) by rw [keysR, hok]; rfl]
    clear hok
    go_enter Try.func15, Try.ntmps15
    go_wp2_with fail
    refine ho.mono ?_
    rintro e w1 ⟨g, bv, kv, rfl, _, hx⟩
    have HX := Lib.hid ((ext_alloc w _).trans hx)
    clear hx ho
    go_wp2
    go_ret2
    exact ⟨_, rfl, Own.empty tKey _ _ _ HX.out.size, HX.out.alloc _⟩
  | true =>
    simp only [hok] at ho
    rw [show keysR x = (keysS x, 0) by rw [keysR, hok]; rfl]
    clear hok
    go_enter Try.func15, Try.ntmps15
    go_wp2_with fail
    refine ho.mono ?_
    rintro e w1 ⟨g, bv, kv, rfl, hyes, hx⟩
    obtain ⟨hg, hB, _, hok⟩ := hyes (by first | rfl | trivial)
    obtain ⟨A1, c1, rfl⟩ := hok.shape
    have HX := Lib.hid ((ext_alloc w _).trans hx)
    have HOK := Lib.hid (hok.le (ext_alloc w (.cells #[.slice A x.length cap] 29)).size)
    have b1 : w1.cell? ⟨g, 1, none⟩ = some (.slice A1 (keysS x).length c1) := hB.at_ 1 rfl
    clear hx ho hyes hg hB hok
    go_wp2
    go_ret2
    exact ⟨_, rfl, HOK.out, HX.out⟩
set_option maxHeartbeats 4000000 in
set_option maxRecDepth 100000 in
theorem newShop_any (v : Value) (x : List Bl) (hln : x.length ≤ 1048576) (hok : okSt x = true) (w : World) (S : Nat → Prop) (h : RdN nrBlob w S v x) :
    Calls Try.prog 41 #[.agg #[v]] w fun q w' => ∃ g bv kv, q = .returned (.tuple #[.pointer (some ⟨g, 0, none⟩), .bool true]) ∧ Blk w' g 82 #[kv, bv] ∧ Own tKey 53 w' w.heap.size kv (keysS x) ∧ Ext w w' := by
  have hv := implValidStore_u #[v] x _ S ⟨v, rfl, h.ext (ext_alloc w (.cells #[v] 29))⟩ hln
  obtain ⟨ys, hyl, hrb, hof⟩ := blobs_cells h
  obtain ⟨A, cap, rfl, hcap, hlen⟩ := h.shape
  have HFIT := Lib.hid (okSt_yes hok).2.1
  have HRB := Lib.hid hrb
  have HYL := Lib.hid hyl
  have HOF := Lib.hid hof
  have HB := Lib.hid (Blk.new w 29 #[.slice A x.length cap])
  rw [hok] at hv
  clear h hyl hrb hof hok
  go_enter Try.func41, Try.ntmps41
  go_wp2_with (refine wpl_loadB HB.out aggStoreI rfl rfl _ rfl rfl ?_)
  refine hv.mono ?_
  rintro e w1 ⟨rfl, hx⟩
  have HX := Lib.hid ((ext_alloc w _).trans hx)
  have HB1 := Lib.hid (HB.out.ext hx)
  clear hx hv HB
  have R := Ext.refl w1
  go_wp2_with fail
  refine wp_region_held_drew (S := fun W => Ext w1 W) (by kernel_rfl) (Ext.refl _).drew (fun hHeld => ?_)
  refine wpAnyH_take (i := 0) (oi := ?oiz1) (v := (.agg #[.slice A x.length cap])) ?hiz1 (by kernel_rfl) (by kernel_rfl) (by kernel_rfl) ?hQz1 ?hyz1 (by assumption) ?restz1
  case hiz1 => simp only [List.getElem?_toArray, List.getElem?_cons_zero, List.getElem?_cons_succ]; rfl
  case hQz1 => exact fun _ _ _ h => h
  case hyz1 => refine yields_loadB HB1.out aggStoreI rfl ?_ _ rfl rfl; rfl
  try simp only [Act.put, List.setIfInBounds_toArray, List.set_cons_zero, List.set_cons_succ]
  refine wpAnyH_take (i := 2) (oi := ?oiz2) (v := ?vz2) ?hiz2 (by kernel_rfl) (by kernel_rfl) (by kernel_rfl) ?hQz2 ?hyz2 (by assumption) ?restz2
  case hiz2 => simp only [List.getElem?_toArray, List.getElem?_cons_zero, List.getElem?_cons_succ]; rfl
  case hQz2 => exact fun _ _ _ h => h
  case hyz2 => exact Or.inl ⟨by rfl, by intro w hSw; (try dsimp only at hSw); go_simp; with_reducible rfl⟩
  try simp only [Act.put, List.setIfInBounds_toArray, List.set_cons_zero, List.set_cons_succ]
  refine wpAnyH_take (i := 3) (oi := ?oiz3) (v := (.slice A x.length cap)) ?hiz3 (by kernel_rfl) (by kernel_rfl) (by kernel_rfl) ?hQz3 ?hyz3 (by assumption) ?restz3
  case hiz3 => simp only [List.getElem?_toArray, List.getElem?_cons_zero, List.getElem?_cons_succ]; rfl
  case hQz3 => exact fun _ _ _ h => h
  case hyz3 => exact Or.inl ⟨by rfl, by intro w hSw; (try dsimp only at hSw); have hcq := (HB1.out.ext hSw).at_ 0 rfl; go_simp; (try with_reducible rfl)⟩
  try simp only [Act.put, List.setIfInBounds_toArray, List.set_cons_zero, List.set_cons_succ]
  refine wpAnyH_ready (rs := [1]) (by kernel_rfl) (by simp) (AllReadyH.cons (o := ?oy41) ?hy41 (fun K hK => ?sy41) AllReadyH.nil)
  case hy41 => simp only [List.getElem?_toArray, List.getElem?_cons_zero, List.getElem?_cons_succ]; rfl
  go_simp
  refine (storeKeys_any (.slice A x.length cap) ys x _ S (HRB.out.ext (by decide) (HX.out.trans hHeld)) HYL.out hln (fun i h1 h2 => (HOF.out i h1 h2).ext (HX.out.trans hHeld)) HFIT.out).mono ?_
  rintro e w2 ⟨kv, rfl, ho, hx⟩
  replace ho := ho.le (base' := w.heap.size) (HX.out.trans hHeld).size
  obtain ⟨A2, c2, rfl⟩ := ho.shape
  have HK := Lib.hid ho
  clear ho
  have hH2 := hHeld.trans hx
  refine hK.out _ _ hH2 (fun _ => ?_)
  clear hHeld hK K
  have hHeld := hH2
  clear hH2
  try simp only [Act.put, List.setIfInBounds_toArray, List.set_cons_zero, List.set_cons_succ]
  refine wpAnyH_ready (rs := [4]) (by kernel_rfl) (by simp) (AllReadyH.cons (o := ?oy54) ?hy54 (fun K hK => ?sy54) AllReadyH.nil)
  case hy54 => simp only [List.getElem?_toArray, List.getElem?_cons_zero, List.getElem?_cons_succ]; rfl
  go_simp
  refine (cloneBl_any (.slice A x.length cap) ys _ S (HRB.out.ext (by decide) (HX.out.trans hHeld)) (by have := HYL.out; omega)).mono ?_
  rintro e w3 ⟨bv, rfl, ho, hx⟩
  obtain ⟨A3, c3, rfl⟩ := ho.shape
  have HK3 := Lib.hid (HK.out.ext hx)
  clear ho HK
  have hH2 := hHeld.trans hx
  refine hK.out _ _ hH2 (fun _ => ?_)
  clear hHeld hK K
  have hHeld := hH2
  clear hH2
  try simp only [Act.put, List.setIfInBounds_toArray, List.set_cons_zero, List.set_cons_succ]
  refine wpAnyH_take (i := 5) (oi := ?oiz6) (v := (.agg #[.slice A2 (keysS x).length c2, .slice A3 ys.length c3])) ?hiz6 (by kernel_rfl) (by kernel_rfl) (by kernel_rfl) ?hQz6 ?hyz6 (by assumption) ?restz6
  case hiz6 => simp only [List.getElem?_toArray, List.getElem?_cons_zero, List.getElem?_cons_succ]; rfl
  case hQz6 => exact fun _ _ _ h => h
  case hyz6 => refine yields_build ?_ rfl ?_; rfl; kernel_rfl
  try simp only [Act.put, List.setIfInBounds_toArray, List.set_cons_zero, List.set_cons_succ]
  refine wpAnyH_ready (rs := [6]) (by kernel_rfl) (by simp) (AllReadyH.cons (o := ?oy76) ?hy76 (fun K hK => ?sy76) AllReadyH.nil)
  case hy76 => simp only [List.getElem?_toArray, List.getElem?_cons_zero, List.getElem?_cons_succ]; rfl
  refine stp_box rfl _ rfl rfl ?_
  have hH2 := hHeld.alloc (.cells #[.slice A2 (keysS x).length c2, .slice A3 ys.length c3] 82)
  refine hK.out _ _ hH2 (fun _ => ?_)
  have HK4 := Lib.hid (HK3.out.alloc (.cells #[.slice A2 (keysS x).length c2, .slice A3 ys.length c3] 82))
  have HB4 := Lib.hid (Blk.new w3 82 #[.slice A2 (keysS x).length c2, .slice A3 ys.length c3])
  have HX4 := Lib.hid (HX.out.trans hH2)
  clear hHeld hK K
  have hHeld := hH2
  clear hH2
  try simp only [Act.put, List.setIfInBounds_toArray, List.set_cons_zero, List.set_cons_succ]
  refine wpAnyH_take (i := 7) (oi := ?oiz8) (v := ?vz8) ?hiz8 (by kernel_rfl) (by kernel_rfl) (by kernel_rfl) ?hQz8 ?hyz8 (by assumption) ?restz8
  case hiz8 => simp only [List.getElem?_toArray, List.getElem?_cons_zero, List.getElem?_cons_succ]; rfl
  case hQz8 => exact fun _ _ _ h => h
  case hyz8 => exact Or.inl ⟨by rfl, by intro w hSw; (try dsimp only at hSw); go_simp; with_reducible rfl⟩
  try simp only [Act.put, List.setIfInBounds_toArray, List.set_cons_zero, List.set_cons_succ]
  refine wpAnyH_take (i := 8) (oi := ?oiz9) (v := ?vz9) ?hiz9 (by kernel_rfl) (by kernel_rfl) (by kernel_rfl) ?hQz9 ?hyz9 (by assumption) ?restz9
  case hiz9 => simp only [List.getElem?_toArray, List.getElem?_cons_zero, List.getElem?_cons_succ]; rfl
  case hQz9 => exact fun _ _ _ h => h
  case hyz9 => exact Or.inl ⟨by rfl, by intro w hSw; (try dsimp only at hSw); go_simp; with_reducible rfl⟩
  try simp only [Act.put, List.setIfInBounds_toArray, List.set_cons_zero, List.set_cons_succ]
  refine wpAnyH_done (by kernel_rfl) ?_ _
  go_wp2
  go_ret2
  exact ⟨_, _, _, rfl, HB4.out, HK4.out, HX4.out⟩
set_option maxHeartbeats 1000000 in
set_option maxRecDepth 100000 in
theorem newShop_no (v : Value) (x : List Bl) (hln : x.length ≤ 1048576) (hok : okSt x = false) (w : World) (S : Nat → Prop) (h : RdN nrBlob w S v x) :
    Calls Try.prog 41 #[.agg #[v]] w fun q w' => q = .returned (.tuple #[.pointer none, .bool false]) ∧ Ext w w' := by
  have hv := implValidStore_u #[v] x _ S ⟨v, rfl, h.ext (ext_alloc w (.cells #[v] 29))⟩ hln
  obtain ⟨A, cap, rfl, hcap, hlen⟩ := h.shape
  have HB := Lib.hid (Blk.new w 29 #[.slice A x.length cap])
  rw [hok] at hv
  clear h hok
  go_enter Try.func41, Try.ntmps41
  go_wp2_with (refine wpl_loadB HB.out aggStoreI rfl rfl _ rfl rfl ?_)
  refine hv.mono ?_
  rintro e w1 ⟨rfl, hx⟩
  have HX := Lib.hid ((ext_alloc w _).trans hx)
  clear hx hv
  go_wp2
  go_ret2
  exact ⟨rfl, HX.out⟩
set_option maxHeartbeats 1000000 in
set_option maxRecDepth 100000 in
theorem implKeysOfStore_u (cs : Array Value) (x : List Bl) (hln : x.length ≤ 1048576) (w : World) (S : Nat → Prop) (h : RStore w S cs x) :
    Calls Try.prog 16 #[.agg cs] w fun q w' => ∃ v', q = .returned (.tuple #[v', .int .i64 (keysR x).2]) ∧ Own tKey 53 w' w.heap.size v' (keysR x).1 ∧ Ext w w' := by
  obtain ⟨v, rfl, hr⟩ := h
  have hB := Blk.new w 29 #[v]
  cases hok : okSt x with
  | true =>
    have ho := newShop_any v x hln hok _ S (hr.ext (ext_alloc w (.cells #[v] 29)))
    obtain ⟨A, cap, rfl, _⟩ := hr.shape
    rw [show keysR x = (keysS x, 0) by rw [keysR, hok]; rfl]
    clear hok hr
    go_enter Try.func16, Try.ntmps16
    go_wp2_with (refine wpl_loadB hB aggStoreI rfl rfl _ rfl rfl ?_)
    refine ho.mono ?_
    rintro e w1 ⟨g, bv, kv, rfl, hb, hk, hx⟩
    obtain ⟨A1, c1, rfl⟩ := hk.shape
    have HX := Lib.hid ((ext_alloc w _).trans hx)
    have HK := Lib.hid (hk.le (ext_alloc w (.cells #[.slice A x.length cap] 29)).size)
    have b0 : w1.cell? ⟨g, 0, none⟩ = some (.slice A1 (keysS x).length c1) := hb.at_ 0 rfl
    clear hx ho hb hk hB
    go_wp2
    go_ret2
    exact ⟨_, rfl, HK.out, HX.out⟩
  | false =>
    have ho := newShop_no v x hln hok _ S (hr.ext (ext_alloc w (.cells #[v] 29)))
    obtain ⟨A, cap, rfl, _⟩ := hr.shape
    rw [show keysR x = ([], 1) by rw [keysR, hok]; rfl]
    clear hok hr
    go_enter Try.func16, Try.ntmps16
    go_wp2_with (refine wpl_loadB hB aggStoreI rfl rfl _ rfl rfl ?_)
    refine ho.mono ?_
    rintro e w1 ⟨rfl, hx⟩
    have HX := Lib.hid ((ext_alloc w _).trans hx)
    clear hx ho hB
    go_wp2
    go_ret2
    exact ⟨_, rfl, Own.nil _ _ _ _, HX.out⟩
end Go.Proofs.Ytnklgkmpcochfaa
/- Stores of one's own; marks laid on them. No condition. -/
namespace Go.Proofs.Ytnklgkmpcochfaa
open Go.RowKit
set_option linter.unusedVariables false
set_option linter.unusedSimpArgs false

/-- only blocks from base to hi have been touched -/
structure Tch (base hi : Nat) (w w' : World) : Prop where
  os : w'.os = w.os
  tape : w'.tape = w.tape
  output : w'.output = w.output
  size : w.heap.size ≤ w'.heap.size
  block : ∀ k, k < w.heap.size → (k < base ∨ hi ≤ k) → w'.heap[k]? = w.heap[k]?
section
variable {base hi : Nat} {w w' w0 w1 : World}
theorem Tch.refl (base hi : Nat) (w : World) : Tch base hi w w := ⟨rfl, rfl, rfl, Nat.le_refl _, fun _ _ _ => rfl⟩
theorem Tch.trans (h : Tch base hi w0 w) (k : Tch base hi w w') : Tch base hi w0 w' :=
  ⟨k.os.trans h.os, k.tape.trans h.tape, k.output.trans h.output, Nat.le_trans h.size k.size, fun q hq hc => (k.block q (Nat.lt_of_lt_of_le hq h.size) hc).trans (h.block q hq hc)⟩
theorem Tch.of_ext (h : Ext w w') : Tch base hi w w' := ⟨h.os, h.tape, h.output, h.size, fun q hq _ => h.block q hq⟩
theorem Tch.of_grown {row : Option Nat} (h : w.grownBy w' row) (hr : ∀ k, row = some k → base ≤ k ∧ k < hi) : Tch base hi w w' :=
  ⟨h.os, h.tape, h.output, h.size, fun q hq hc => h.block q hq (fun e => by have := hr q e.symm; omega)⟩
theorem Tch.of_set {p : Addr} (h1 : base ≤ p.block) (h2 : p.block < hi) (u : Value) : Tch base hi w (w.setCell p u) := ⟨rfl, rfl, rfl, by simp, fun k hk hc => Below.heap_setCell w p u k (by omega)⟩
theorem Ext.tch (h : Ext w0 w) (ht : Tch base hi w w') (hb : w0.heap.size ≤ base) : Ext w0 w' :=
  Below.trans h ⟨ht.os, ht.tape, ht.output, ht.size, fun k hk => ht.block k (Nat.lt_of_lt_of_le hk h.size) (.inl (Nat.lt_of_lt_of_le hk hb))⟩
theorem Blk.tch {g t : Nat} {cs : Array Value} (h : Blk w g t cs) (ht : Tch base hi w w') (hg : g < base ∨ hi ≤ g) : Blk w' g t cs := (ht.block g h.lt hg).trans h
theorem Own.tch {α : Type} {T : Ty α} {e : TypeId} {b : Nat} {v : Value} {xs : List α} (h : Own T e w b v xs) (ht : Tch base hi w w') (hn : ∀ q, v.ownBlock = some q → q < base ∨ hi ≤ q) : Own T e w' b v xs := by
  have hb := h.base_le
  obtain ⟨⟨hl, hx⟩, h2, h3⟩ := h
  rcases hx with hx | ⟨g, cap, cur, rfl, h4, h5, h6⟩
  · exact ⟨⟨hl, .inl hx⟩, h2, h3⟩
  · exact ⟨⟨hl, .inr ⟨g, cap, cur, rfl, h4, (ht.block g (hb g rfl).2 (hn g rfl)).trans h5, h6⟩⟩, h2, h3⟩
end
theorem stRow9 (w : World) (g : Nat) (cs : Array Value) : w.grownBy (w.setRow g cs) (some g) := ⟨rfl, rfl, rfl, by simp, fun k _ hk => setRow_other w g k cs (fun e => hk (by rw [e]))⟩
def sl (c : BC) : Value := .slice c.2.1 c.2.2.1 c.2.2.2
/-- a blob whose cells lie at place i of a row, with bytes of its own -/
structure BlAt (w : World) (g hi : Nat) (cur : Array Value) (i : Nat) (c : BC) (x : Bl) : Prop where
  tag : c.1 = x.1
  byte : 0 ≤ x.1 ∧ x.1 ≤ 255
  own : Own tByte 5 w (g + 1) (sl c) x.2
  below : ∀ q, (sl c).ownBlock = some q → q < hi
  c0 : cur[i * 2]? = some (.int .u8 c.1)
  c1 : cur[i * 2 + 1]? = some (sl c)
/-- v is a store's slice of blobs, in blocks from base to hi that are one's own -/
def StOwn (w : World) (base hi : Nat) (v : Value) (x : List Bl) : Prop :=
  ∃ (g : Nat) (cur : Array Value) (es : Nat → BC), v = .slice (some ⟨g, 0, none⟩) x.length x.length ∧ base ≤ g ∧ g < hi ∧ hi ≤ w.heap.size ∧ x.length ≤ 1048576 ∧ Blk w g 68 cur ∧ cur.size = x.length * 2 ∧
    (∀ i (h : i < x.length), BlAt w g hi cur i (es i) x[i]) ∧ (∀ i j, i < j → j < x.length → (sl (es j)).ownBlock = none ∨ (sl (es j)).ownBlock ≠ (sl (es i)).ownBlock)
section
variable {w w' : World} {base hi : Nat} {v : Value} {x : List Bl}
theorem StOwn.ext (h : StOwn w base hi v x) (e : Ext w w') : StOwn w' base hi v x := by
  obtain ⟨g, cur, es, h1, h2, h3, h4, h5, h6, h7, h8, h9⟩ := h
  exact ⟨g, cur, es, h1, h2, h3, Nat.le_trans h4 e.size, h5, h6.ext e, h7, fun i hi => ⟨(h8 i hi).tag, (h8 i hi).byte, (h8 i hi).own.ext e, (h8 i hi).below, (h8 i hi).c0, (h8 i hi).c1⟩, h9⟩
theorem StOwn.shape (h : StOwn w base hi v x) : ∃ A cap, v = .slice A x.length cap := by
  obtain ⟨g, cur, es, h1, _⟩ := h
  exact ⟨_, _, h1⟩
theorem StOwn.hi_le (h : StOwn w base hi v x) : hi ≤ w.heap.size := by
  obtain ⟨g, cur, es, h1, h2, h3, h4, _⟩ := h
  exact h4
theorem StOwn.rd (h : StOwn w base hi v x) : RStore w (fun q => base ≤ q) #[v] x := by
  obtain ⟨g, cur, es, rfl, h2, h3, h4, h5, h6, h7, h8, h9⟩ := h
  refine ⟨_, rfl, _, _, rfl, Nat.le_refl _, by omega, fun hn => ⟨g, 0, rfl, h2, fun i hi => ?_⟩⟩
  have hb := h8 i hi
  obtain ⟨A, cap, e⟩ := hb.own.shape
  refine ⟨[.int .u8 x[i].1, sl (es i)], rfl, fun j u hu => ?_, ⟨sl (es i), rfl, (hb.own.rd).mono (fun q hq => by omega), hb.byte.1, hb.byte.2⟩⟩
  rw [Nat.zero_add]
  show w.cell? ⟨g, i * 2 + j, none⟩ = some u
  match j, hu with
  | 0, hu => rw [h6.cell]; show cur[i * 2]? = _; rw [hb.c0, hb.tag]; exact hu
  | 1, hu => rw [h6.cell]; rw [hb.c1]; exact hu
end
theorem toBlob_p (cs : Array Value) (x : Bl) (w : World) (S : Nat → Prop) (h : RBlob w S cs x) :
    Calls Try.prog 59 #[.agg cs] w fun e w' => ∃ c : BC, e = .returned (.agg #[.int .u8 c.1, sl c]) ∧ c.1 = x.1 ∧ Own tByte 5 w' w.heap.size (sl c) x.2 ∧ (0 ≤ x.1 ∧ x.1 ≤ 255) ∧ Ext w w' := by
  obtain ⟨v, rfl, hr, h3⟩ := h
  refine (toBlob_any x.1 v x.2 w S hr).mono ?_
  rintro e w' ⟨v', rfl, ho, hx⟩
  obtain ⟨A, cap, rfl⟩ := ho.shape
  exact ⟨(x.1, A, x.2.length, cap), rfl, rfl, ho, h3, hx⟩
theorem Blk.far9 {w : World} {g t : Nat} {cs : Array Value} (h : Blk w g t cs) (hi : Nat) : g < w.heap.size ∨ hi ≤ g := .inl h.lt
theorem stSt (A : Option Addr) (n c : Nat) : St 1 #[Value.slice A n c] := ⟨rfl, fun u hu => by simp at hu; subst hu; rfl⟩
theorem slSt (c : BC) : St 2 #[Value.int .u8 c.1, sl c] := ⟨rfl, fun u hu => by simp at hu; rcases hu with rfl | rfl <;> rfl⟩
set_option maxHeartbeats 4000000 in
set_option maxRecDepth 100000 in
theorem toBlobS_o (v : Value) (xs : List Bl) (w : World) (S : Nat → Prop) (h : RdN nrBlob w S v xs) (hln : xs.length ≤ 1048576) :
    Calls Try.prog 31 #[v] w fun e w' => ∃ v', e = .returned v' ∧ StOwn w' w.heap.size w'.heap.size v' xs ∧ Ext w w' := by
  obtain ⟨A, cap, rfl, hcap, hlen⟩ := h.shape
  have H := Lib.hid h
  clear h
  obtain ⟨Z, hms, hm⟩ := make_rowN 27 68 2 32 Try.underlying27 (by kernel_rfl) .i64 .i64 xs.length (by omega) (by omega)
  have HMS := Lib.hid hms
  clear hms
  go_enter Try.func31, Try.ntmps31
  go_wp2
  go_loopw [4] (fun i wr => ∃ (k : Nat) (cur : Array Value) (es : Nat → BC), k ≤ xs.length ∧ i = .int .i64 k ∧ Blk wr w.heap.size 68 cur ∧ cur.size = xs.length * 2 ∧ (∀ i (h : i < xs.length), i < k → BlAt wr w.heap.size wr.heap.size cur i (es i) xs[i]) ∧ (∀ i j, i < j → j < k → (sl (es j)).ownBlock = none ∨ (sl (es j)).ownBlock ≠ (sl (es i)).ownBlock) ∧ Ext w wr)
    (fun i _ => xs.length - (intOf i).toNat)
  case atStart => exact ⟨0, _, fun _ => (0, none, 0, 0), by omega, rfl, Blk.new w _ _, HMS.out, fun i h hi => by omega, fun i j h1 h2 => by omega, ext_alloc _ _⟩
  case round =>
    obtain ⟨k, cur, es, hk, rfl, hB, hs, hat, hap, hx⟩ := hrel
    have HB := Lib.hid hB
    have HX := Lib.hid hx
    have HS := Lib.hid hs
    have HAT := Lib.hid hat
    have HAP := Lib.hid hap
    clear hm hB hx hs hat hap
    by_cases hlt : k < xs.length
    · obtain ⟨g, o, rfl, hs, ls, hes, hc, hR⟩ := H.out.elem k hlt
      have HD := Lib.hid (show ∀ j u, ls[j]? = some u → wr.cell? ⟨g, o + k * 2 + j, none⟩ = some u from fun j u hu => HX.out.cell (hc j u hu))
      have HR := Lib.hid (show RBlob wr S ls.toArray xs[k] from nrBlob.ext hR HX.out)
      have HES := Lib.hid (show ls.length = 2 from hes)
      have hi : (0 : Int) ≤ (k : Int) := by omega
      have HGL := Lib.hid HB.out.lt
      clear hc hR hes
      go_wp2_with (refine wpl_load ⟨g, o + k * 2, none⟩ ls (by rw [HES.out]; exact aggBlobL) rfl _ rfl rfl (fun j u hu => by rw [Addr.add_lit]; exact HD.out j u hu) ?_)
      refine (toBlob_p ls.toArray xs[k] _ S HR.out).mono ?_
      rintro e w1 ⟨c, rfl, htag, ho, hby, hx⟩
      have HX2 := Lib.hid (HX.out.trans hx)
      have HB2 := Lib.hid (HB.out.ext hx)
      have HO := Lib.hid ho
      have HTAG := Lib.hid htag
      have HBY := Lib.hid hby
      have HSZ := Lib.hid hx.size
      have HAT2 := Lib.hid (show ∀ i (h : i < xs.length), i < k → BlAt w1 w.heap.size wr.heap.size cur i (es i) xs[i] from fun i h hi => ⟨(HAT.out i h hi).tag, (HAT.out i h hi).byte, (HAT.out i h hi).own.ext hx, (HAT.out i h hi).below, (HAT.out i h hi).c0, (HAT.out i h hi).c1⟩)
      have hin : k * 2 + 2 ≤ cur.size := by rw [HS.out]; omega
      have hst := slSt c
      clear hx ho htag hby HX HD HR HAT
      go_wp2_with (refine wpl_storeP (off := k * 2) HB2.out aggBlobI hst hin rfl _ _ rfl rfl rfl rfl ?_)
      go_roundw
      case rel =>
        have hvl : ([Value.int .u8 c.1, sl c] : List Value).length = 2 := rfl
        have hsp : (splice cur (k * 2) [Value.int .u8 c.1, sl c]).size = xs.length * 2 := by rw [splice_size _ _ _ (by rw [hvl]; exact hin)]; exact HS.out
        have hne : ∀ q, (sl c).ownBlock = some q → q ≠ w.heap.size := fun q hq => by have := (HO.out.base_le q hq).1; have := HGL.out; omega
        refine ⟨k + 1, splice cur (k * 2) [.int .u8 c.1, sl c], fun i => if i = k then c else es i, by omega, by go_num, HB2.out.setRow _, hsp, fun i h hi => ?_, fun i j h1 h2 => ?_, HX2.out.setRow (Nat.le_refl _) _⟩
        · by_cases e : i = k
          · subst e
            simp only [if_true]
            refine ⟨HTAG.out, HBY.out, ((HO.out.kept (row := some w.heap.size) (stRow9 _ _ _) (.inr fun e => hne _ e rfl)).le (by have := HGL.out; omega)), fun q hq => ?_, ?_, ?_⟩
            · have := (HO.out.base_le q hq).2; simpa using this
            · have := splice_in cur (i * 2) [.int .u8 c.1, sl c] (by rw [hvl]; exact hin) 0 (by rw [hvl]; omega)
              simpa using this
            · have := splice_in cur (i * 2) [.int .u8 c.1, sl c] (by rw [hvl]; exact hin) 1 (by rw [hvl]; omega)
              simpa using this
          · simp only [if_neg e]
            have hb := HAT2.out i h (by omega)
            refine ⟨hb.tag, hb.byte, hb.own.kept (row := some w.heap.size) (stRow9 _ _ _) (.inr fun e2 => by have := (hb.own.base_le _ e2).1; omega), fun q hq => ?_, ?_, ?_⟩
            · have h1 := hb.below q hq; have h2 := HSZ.out; simp; omega
            · rw [splice_out _ _ _ (by rw [hvl]; exact hin) _ (by rw [hvl]; omega)]; exact hb.c0
            · rw [splice_out _ _ _ (by rw [hvl]; exact hin) _ (by rw [hvl]; omega)]; exact hb.c1
        · have hik : i ≠ k := by omega
          simp only [if_neg hik]
          by_cases e : j = k
          · subst e
            simp only [if_true]
            cases hq : (sl c).ownBlock with
            | none => exact .inl rfl
            | some q =>
              refine .inr fun e2 => ?_
              have h3 := (HO.out.base_le q hq).1
              have h4 := (HAT2.out i (by omega) h1).below q e2.symm
              omega
          · simp only [if_neg e]
            exact HAP.out i j h1 (by omega)
      case measure => simp [intOf]; omega
    · obtain rfl : k = xs.length := by omega
      go_wp2
      go_ret
      exact ⟨_, rfl, ⟨w.heap.size, cur, es, rfl, Nat.le_refl _, HB.out.lt, Nat.le_refl _, hln, HB.out, HS.out, fun i h => HAT.out i h h, HAP.out⟩, HX.out⟩
set_option maxHeartbeats 1000000 in
set_option maxRecDepth 100000 in
theorem toStore_o (cs : Array Value) (x : List Bl) (w : World) (S : Nat → Prop) (h : RStore w S cs x) (hln : x.length ≤ 1048576) :
    Calls Try.prog 10 #[.agg cs] w fun e w' => ∃ v', e = .returned (.agg #[v']) ∧ StOwn w' w.heap.size w'.heap.size v' x ∧ Ext w w' := by
  obtain ⟨v, rfl, hr⟩ := h
  have hc := fun W hW => toBlobS_o v x W S (hr.ext hW) hln
  obtain ⟨A, cap, rfl, _⟩ := hr.shape
  clear hr
  go_enter Try.func10, Try.ntmps10
  go_wp2_with fail
  refine (hc _ (((ext_alloc _ _).alloc _).alloc _)).mono ?_
  rintro e w1 ⟨v', rfl, ho, hx⟩
  obtain ⟨g, cur, es, rfl, h2, h3, h4, h5, h6, h7, h8, h9⟩ := ho
  rw [size_alloc, size_alloc, size_alloc] at h2
  have H6 := Lib.hid h6
  have H8 := Lib.hid h8
  have H9 := Lib.hid h9
  have XW := Lib.hid ((((ext_alloc w _).alloc _).alloc _).trans hx)
  have B1 := Lib.hid (((Blk.new' (g := w.heap.size + 1) (w := w.alloc (.cells #[.slice A x.length cap] 24)) (by simp) 29 #[.slice none 0 0]).alloc (.cells #[.slice none 0 0] 29)).ext hx)
  have B2 := Lib.hid ((Blk.new' (g := w.heap.size + 2) (w := (w.alloc (.cells #[.slice A x.length cap] 24)).alloc (.cells #[.slice none 0 0] 29)) (by simp) 29 #[.slice none 0 0]).ext hx)
  clear hx hc h6 h8 h9
  have d1 := B1.out.at_ 0 rfl
  have d2 := B2.out.at_ 0 rfl
  have f1 := B1.out.free 0
  have f2 := B2.out.free 0
  go_wp2_with fail
  have HB := Lib.hid ((B1.out.far (p := ⟨w.heap.size + 1 + 1, 0, none⟩) (by show w.heap.size + 1 ≠ w.heap.size + 1 + 1; omega) (.slice (some ⟨g, 0, none⟩) x.length x.length)).set 0 (.slice (some ⟨g, 0, none⟩) x.length x.length))
  refine bodyPost_ret (results_blkB rfl _ rfl aggStoreI rfl HB.out) rfl ?_
  refine ⟨_, rfl, ⟨g, cur, es, rfl, by omega, by simpa using h3, by simp, h5, ?_, h7, fun i hi => ?_, H9.out⟩, (XW.out.set (by simp <;> omega) _).set (by simp <;> omega) _⟩
  · exact (H6.out.far (p := ⟨w.heap.size + 1 + 1, 0, none⟩) (by show g ≠ w.heap.size + 1 + 1; omega) _).far (p := ⟨w.heap.size + 1, 0, none⟩) (by show g ≠ w.heap.size + 1; omega) _
  · have hb := H8.out i hi
    exact ⟨hb.tag, hb.byte, (hb.own.set_below (p := ⟨w.heap.size + 1 + 1, 0, none⟩) (by show w.heap.size + 1 + 1 < g + 1; omega) _).set_below (p := ⟨w.heap.size + 1, 0, none⟩) (by show w.heap.size + 1 < g + 1; omega) _, fun q hq => by simpa using hb.below q hq, hb.c0, hb.c1⟩
set_option maxHeartbeats 4000000 in
set_option maxRecDepth 100000 in
theorem markBlobS_o (v : Value) (x : List Bl) (base hi : Nat) (w : World) (h : StOwn w base hi v x) (hsz : szW wBlob x ≤ 1048576) :
    Calls Try.prog 43 #[v, .int .i64 1] w fun e w' => ∃ m : Int, e = .returned (.int .i64 m) ∧ 0 ≤ m ∧ Tch base hi w w' := by
  obtain ⟨g, cur, es, rfl, h2, h3, h4, h5, hB, hcs, hat, hap⟩ := h
  have HB := Lib.hid hB
  have HAP := Lib.hid hap
  have HC1 := Lib.hid (show ∀ i (h : i < x.length), cur[i * 2 + 1]? = some (sl (es i)) from fun i h => (hat i h).c1)
  have HO := Lib.hid (show ∀ i (h : i < x.length), Own tByte 5 w (g + 1) (sl (es i)) x[i].2 from fun i h => (hat i h).own)
  have HBL := Lib.hid (show ∀ i (h : i < x.length), ∀ q, (sl (es i)).ownBlock = some q → base ≤ q ∧ q < hi from fun i h q hq => ⟨by have := ((hat i h).own.base_le q hq).1; omega, (hat i h).below q hq⟩)
  have HSW := Lib.hid (show ∀ k, k ≤ x.length → sumW wBlob x k ≤ 1048576 from fun k _ => by have := szW_eq wBlob x; have := sumW_le wBlob x k; omega)
  clear hB hap hat hsz
  go_enter Try.func43, Try.ntmps43
  go_wp2
  go_loopw [1, 5] (fun q i wr => ∃ (k : Nat) (cur' : Array Value), k ≤ x.length ∧ i = .int .i64 k ∧ q = .int .i64 (((1 + k + sumW wBlob x k : Nat)) : Int) ∧ Blk wr g 68 cur' ∧ cur'.size = x.length * 2 ∧ (∀ i (h : i < x.length), cur'[i * 2 + 1]? = some (sl (es i))) ∧ (∀ i (h : i < x.length), k ≤ i → Own tByte 5 wr (g + 1) (sl (es i)) x[i].2) ∧ Tch base hi w wr) (fun _ i _ => x.length - (intOf i).toNat)
  case atStart => exact ⟨0, cur, by omega, rfl, by rw [sumW_zero]; rfl, HB.out, hcs, HC1.out, fun i h _ => HO.out i h, Tch.refl _ _ _⟩
  case round =>
    obtain ⟨k, cur', hk, rfl, rfl, hB', hs', hc', ho', ht⟩ := hrel
    have HT := Lib.hid ht
    have HB' := Lib.hid hB'
    have HC' := Lib.hid hc'
    have HO' := Lib.hid ho'
    have HS' := Lib.hid hs'
    clear hB' hc' ho' hs' ht HB HC1 HO
    by_cases hlt : k < x.length
    · have hin : k * 2 < cur'.size := by rw [HS'.out]; omega
      have c0 : wr.cell? ⟨g, k * 2, none⟩ = some cur'[k * 2] := HB'.out.at_ _ (Array.getElem?_eq_getElem hin)
      have f0 := HB'.out.free (k * 2)
      have hi0 : (0 : Int) ≤ (k : Int) := by omega
      have hi2 : (k : Int) < (x.length : Int) := by omega
      have HOK := Lib.hid (HO'.out k hlt (Nat.le_refl _))
      have HS := Lib.hid (sumW_succ wBlob x k hlt)
      have hsw := HSW.out k hk
      have hsw2 := HSW.out (k + 1) hlt
      have HCK := Lib.hid (HC'.out k hlt)
      have HWB := Lib.hid (show wBlob x[k] = x[k].2.length from rfl)
      obtain ⟨A, c2, he⟩ := HOK.out.shape
      have HE := Lib.hid he
      have HWL := Lib.hid (show x[k].2.length ≤ 1048576 by rw [← HWB.out]; have := HS.out; omega)
      obtain ⟨s, hs⟩ : ∃ s, 1 + k + sumW wBlob x k = s := ⟨_, rfl⟩
      have HSS := Lib.hid hs
      have hsb : (s : Int) ≤ 3145728 := by omega
      have hww : IntKind.i64.wrap ((s : Int) + 1) = (s : Int) + 1 := IntWalk.i64_in _ (by omega)
      rw [hs]
      obtain ⟨z, hz⟩ : ∃ z, IntKind.u8.wrap (s : Int) = z := ⟨_, rfl⟩
      obtain ⟨w1, hw1⟩ : ∃ w1, wr.setCell ⟨g, k * 2, none⟩ (.int .u8 z) = w1 := ⟨_, rfl⟩
      have HB1 := Lib.hid (show Blk w1 g 68 (cur'.setIfInBounds (k * 2) (.int .u8 z)) by rw [← hw1]; exact HB'.out.set (k * 2) (.int .u8 z))
      have HT1 := Lib.hid (show Tch base hi w w1 by rw [← hw1]; exact HT.out.trans (Tch.of_set (by exact h2) (by exact h3) _))
      have HC1 := Lib.hid (show ∀ i (h : i < x.length), (cur'.setIfInBounds (k * 2) (.int .u8 z))[i * 2 + 1]? = some (sl (es i)) from fun i h => by rw [Array.getElem?_setIfInBounds_ne (by omega)]; exact HC'.out i h)
      have HO1 := Lib.hid (show ∀ i (h : i < x.length), k ≤ i → Own tByte 5 w1 (g + 1) (sl (es i)) x[i].2 from fun i h hi => by rw [← hw1]; exact (HO'.out i h hi).set_below (p := ⟨g, k * 2, none⟩) (Nat.lt_succ_self _) _)
      have c1 : w1.cell? ⟨g, k * 2 + 1, none⟩ = some (.slice A x[k].2.length c2) := by rw [← HE.out]; exact HB1.out.at_ _ (HC1.out k hlt)
      have hmk := markByteS_any (sl (es k)) x[k].2.length ((s : Int) + 1) w1 (g + 1) (HO1.out k hlt (Nat.le_refl _)).wr (by omega) (by have := HWL.out; omega)
      rw [HE.out] at hmk
      have HSZ := Lib.hid (show (cur'.setIfInBounds (k * 2) (.int .u8 z)).size = x.length * 2 by simp [HS'.out])
      clear he hs hsw hsw2
      go_wp2_with fail
      refine hmk.mono ?_
      rintro e w2 ⟨rfl, _, hg⟩
      rw [← HE.out] at hg
      have HG := Lib.hid hg
      have HT2 := Lib.hid (HT1.out.trans (Tch.of_grown hg (HBL.out k hlt)))
      have HB2 := Lib.hid (HB1.out.grown hg (fun e => by have := ((HO1.out k hlt (Nat.le_refl _)).base_le g e.symm).1; omega))
      clear hg hmk c0 f0 c1 hz hw1
      go_wp2
      go_roundw
      case rel => exact ⟨k + 1, _, by omega, by go_num, by rw [HS.out, ← HSS.out, HWB.out]; go_num, HB2.out, HSZ.out, HC1.out, fun i h hi => (HO1.out i h (by omega)).kept HG.out (HAP.out k i (by omega) h), HT2.out⟩
      case measure => simp [intOf]; omega
    · obtain rfl : k = x.length := by omega
      go_wp2
      go_ret
      exact ⟨_, rfl, by omega, HT.out⟩
set_option maxHeartbeats 1000000 in
set_option maxRecDepth 100000 in
theorem markStore_o (v : Value) (x : List Bl) (base hi : Nat) (w : World) (h : StOwn w base hi v x) (hsz : szW wBlob x ≤ 1048576) :
    Calls Try.prog 18 #[.agg #[v], .int .i64 1] w fun e w' => ∃ m : Int, e = .returned (.int .i64 m) ∧ 0 ≤ m ∧ Tch base hi w w' := by
  have hm := markBlobS_o v x base hi _ (h.ext (ext_alloc w (.cells #[v] 29))) hsz
  obtain ⟨A, cap, rfl⟩ := h.shape
  clear h
  go_enter Try.func18, Try.ntmps18
  go_wp2_with fail
  refine hm.mono ?_
  rintro e w1 ⟨m, rfl, h0, ht⟩
  have HT := Lib.hid ((Tch.of_ext (ext_alloc w _)).trans ht)
  clear ht hm
  go_wp2
  go_ret
  exact ⟨m, rfl, h0, HT.out⟩
end Go.Proofs.Ytnklgkmpcochfaa
/- The walk of the law FnExactKeysOfStore. No condition. -/
namespace Go.Proofs.Ytnklgkmpcochfaa
open Go.RowKit
set_option linter.unusedVariables false
set_option linter.unusedSimpArgs false

set_option maxHeartbeats 1000000 in
set_option maxRecDepth 100000 in
theorem FnExactKeysOfStore_any (w : World) (cs0 : Array Value) (x0 : List Bl) (S0 : Nat → Prop) (h0 : RStore w S0 cs0 x0) :
    Calls Try.prog 5 #[.agg cs0] w fun e w' => e = .returned (.bool true) ∧ Ext w w' := by
  have H0 := Lib.hid h0
  clear h0
  have hn0 := H0.out.st.size
  have Hs0 := Lib.hid H0.out.st
  by_cases hz0 : (1048576 - (szW wBlob x0 : Nat) : Int) < 0
  · go_enter Try.func5, Try.ntmps5
    go_wp2_with (first | (refine wpl_loadB (Blk.new' (g := w.heap.size) (w := w) (by simp) 24 cs0) aggStoreL hn0 rfl _ rfl rfl ?_))
    refine (szStore_u _ x0 (1048576) _ _ (H0.out.ext (ext_alloc _ _)) (by omega) (by omega)).mono ?_
    rintro e w1 ⟨rfl, hx⟩
    rw [if_pos (by omega)]
    have B0 := Lib.hid ((Blk.new' (g := w.heap.size) (w := w) (by simp) 24 cs0).ext hx)
    have XW := Lib.hid ((ext_alloc _ _).trans hx)
    clear hx
    go_wp2_with (first | (refine wpl_loadB B0.out aggStoreL hn0 rfl _ rfl rfl ?_))
    go_ret
    exact ⟨rfl, XW.out⟩
  have hln0 : x0.length ≤ 1048576 := by have := szW_eq wBlob x0; omega
  obtain ⟨R, c, hR⟩ : ∃ R c, keysR x0 = (R, c) := ⟨_, _, rfl⟩
  have HR1 := Lib.hid (congrArg Prod.fst hR)
  have HR2 := Lib.hid (congrArg Prod.snd hR)
  clear hR
  have hq : (c != c) = false := by simp
  go_enter Try.func5, Try.ntmps5
  go_wp2_with (first | (refine wpl_loadB (Blk.new' (g := w.heap.size) (w := w) (by simp) 24 cs0) aggStoreL hn0 rfl _ rfl rfl ?_))
  refine (szStore_u _ x0 (1048576) _ _ (H0.out.ext (ext_alloc _ _)) (by omega) (by omega)).mono ?_
  rintro e w1 ⟨rfl, hx⟩
  rw [if_neg (by omega)]
  have B0 := Lib.hid ((Blk.new' (g := w.heap.size) (w := w) (by simp) 24 cs0).ext hx)
  have XW := Lib.hid ((ext_alloc _ _).trans hx)
  clear hx
  go_wp2_with (first | (refine wpl_loadB B0.out aggStoreL hn0 rfl _ rfl rfl ?_))
  refine (toStore_o _ x0 _ _ (H0.out.ext XW.out) hln0).mono ?_
  rintro e w2 ⟨vs0, rfl, ho, hx⟩
  have FOs0_B0 := Lib.hid (B0.out.far9 w2.heap.size)
  replace B0 := Lib.hid (B0.out.ext hx)
  replace XW := Lib.hid (XW.out.trans hx)
  obtain ⟨As0, qs0, rfl⟩ := ho.shape
  have Os0 := Lib.hid ho
  have XOs0 := Lib.hid (Ext.refl w2)
  clear ho
  clear hx
  go_wp2_with (first | (refine wpl_loadB B0.out aggStoreL hn0 rfl _ rfl rfl ?_))
  refine (specKeysOfStore_u _ x0 hln0 _ _ Os0.out.rd).mono ?_
  rintro e w3 ⟨vW, he, ho, hx⟩
  rw [HR2.out] at he
  subst he
  rw [HR1.out] at ho
  have GOs0_OW := Lib.hid (show ∀ q, (vW).ownBlock = some q → q < w1.heap.size ∨ w2.heap.size ≤ q from fun q hq => .inr (by have h1 := XOs0.out.size; have h2 := (ho.base_le q hq).1; (try rw [size_alloc] at h2); omega))
  have BB0_OW := Lib.hid (ho.far_of_lt (Nat.lt_of_lt_of_le B0.out.lt (by first | exact Nat.le_refl _ | simp)))
  replace ho := ho.le (base' := w.heap.size) XW.out.size
  replace Os0 := Lib.hid (Os0.out.ext hx)
  replace XOs0 := Lib.hid (XOs0.out.trans hx)
  replace B0 := Lib.hid (B0.out.ext hx)
  replace XW := Lib.hid (XW.out.trans hx)
  obtain ⟨AW, qW, rfl⟩ := ho.shape
  have OW := Lib.hid ho
  clear ho
  clear hx
  clear XOs0
  clear Os0
  have X9 := Lib.hid XW.out
  go_wp2_with (first | (refine wpl_loadB B0.out aggStoreL hn0 rfl _ rfl rfl ?_))
  refine (toStore_o _ x0 _ _ (H0.out.ext XW.out) hln0).mono ?_
  rintro e w4 ⟨vx0, rfl, ho, hx⟩
  have GOx0_OW := Lib.hid (show ∀ q, (Value.slice AW R.length qW).ownBlock = some q → q < w3.heap.size ∨ w4.heap.size ≤ q from fun q hq => .inl (OW.out.base_le q hq).2)
  have FOx0_B0 := Lib.hid (B0.out.far9 w4.heap.size)
  replace OW := Lib.hid (OW.out.ext hx)
  replace B0 := Lib.hid (B0.out.ext hx)
  replace XW := Lib.hid (XW.out.trans hx)
  obtain ⟨Ax0, qx0, rfl⟩ := ho.shape
  have Ox0 := Lib.hid ho
  have XOx0 := Lib.hid (Ext.refl w4)
  clear ho
  clear hx
  have Zsx0 := Lib.hid (stSt Ax0 x0.length qx0)
  have FOx0_Vx0 := Lib.hid (Or.inr (Nat.le_refl _) : w4.heap.size < w3.heap.size ∨ w4.heap.size ≤ w4.heap.size)
  go_wp2_with (first | (refine wpl_storeNewB aggStoreI Zsx0.out rfl rfl _ _ rfl rfl rfl rfl ?_) | (refine wpl_loadB (Blk.new w4 29 #[.slice Ax0 x0.length qx0]) aggStoreI rfl rfl _ rfl rfl ?_) | (refine wpl_loadB B0.out aggStoreL hn0 rfl _ rfl rfl ?_) | (refine wpl_loadB (B0.out.alloc _) aggStoreL hn0 rfl _ rfl rfl ?_))
  refine (implKeysOfStore_u _ x0 hln0 _ _ (RStore.ext (Ox0.out.rd) (ext_alloc _ _))).mono ?_
  rintro e w5 ⟨vG, he, ho, hx⟩
  rw [HR2.out] at he
  subst he
  rw [HR1.out] at ho
  have GOx0_OG := Lib.hid (show ∀ q, (vG).ownBlock = some q → q < w3.heap.size ∨ w4.heap.size ≤ q from fun q hq => .inr (by have h1 := XOx0.out.size; have h2 := (ho.base_le q hq).1; (try rw [size_alloc] at h2); omega))
  have NOW_OG := Lib.hid (OW.out.apart ho (by first | exact Nat.le_refl _ | simp))
  have NOG_OW := Lib.hid (OW.out.apart' ho (by first | exact Nat.le_refl _ | simp))
  have BB0_OG := Lib.hid (ho.far_of_lt (Nat.lt_of_lt_of_le B0.out.lt (by first | exact Nat.le_refl _ | simp)))
  have BVx0_OG := Lib.hid (ho.far_of_lt (g := w4.heap.size) (by simp))
  replace ho := ho.le (base' := w.heap.size) (by have := XW.out.size; simp; omega)
  have hE := (ext_alloc w4 (.cells #[.slice Ax0 x0.length qx0] 29)).trans hx
  replace OW := Lib.hid (OW.out.ext hE)
  replace Ox0 := Lib.hid (Ox0.out.ext hE)
  replace XOx0 := Lib.hid (XOx0.out.trans hE)
  replace B0 := Lib.hid (B0.out.ext hE)
  replace XW := Lib.hid (XW.out.trans hE)
  clear hE
  have Vx0 := Lib.hid ((Blk.new w4 29 #[.slice Ax0 x0.length qx0]).ext hx)
  obtain ⟨AG, qG, rfl⟩ := ho.shape
  have OG := Lib.hid ho
  clear ho
  clear hx
  go_wp2_with (first | (refine wpl_loadB B0.out aggStoreL hn0 rfl _ rfl rfl ?_) | (refine wpl_loadB Vx0.out aggStoreI rfl rfl _ rfl rfl ?_))
  refine (eqKeyS_u _ _ R _ _ _ OG.out.rd OW.out.rd).mono ?_
  rintro e w6 ⟨rfl, hx⟩
  replace OW := Lib.hid (OW.out.ext hx)
  replace Ox0 := Lib.hid (Ox0.out.ext hx)
  replace XOx0 := Lib.hid (XOx0.out.trans hx)
  replace OG := Lib.hid (OG.out.ext hx)
  replace B0 := Lib.hid (B0.out.ext hx)
  replace Vx0 := Lib.hid (Vx0.out.ext hx)
  replace XW := Lib.hid (XW.out.trans hx)
  clear hx
  go_wp2_with (first | (refine wpl_loadB B0.out aggStoreL hn0 rfl _ rfl rfl ?_) | (refine wpl_loadB Vx0.out aggStoreI rfl rfl _ rfl rfl ?_))
  refine wp_region_held_drew (S := fun W => Ext w6 W) (by kernel_rfl) (Ext.refl _).drew (fun hHeld => ?_)
  refine wpAnyH_take (i := 0) (oi := ?oiz1) (v := (.agg #[.slice Ax0 x0.length qx0])) ?hiz1 (by kernel_rfl) (by kernel_rfl) (by kernel_rfl) ?hQz1 ?hyz1 (by assumption) ?restz1
  case hiz1 => simp only [List.getElem?_toArray, List.getElem?_cons_zero, List.getElem?_cons_succ]; rfl
  case hQz1 => exact fun _ _ _ h => h
  case hyz1 => refine yields_loadB Vx0.out aggStoreI rfl ?_ _ rfl rfl; rfl
  try simp only [Act.put, List.setIfInBounds_toArray, List.set_cons_zero, List.set_cons_succ]
  refine wpAnyH_take (i := 1) (oi := ?oiz2) (v := (.agg cs0)) ?hiz2 (by kernel_rfl) (by kernel_rfl) (by kernel_rfl) ?hQz2 ?hyz2 (by assumption) ?restz2
  case hiz2 => simp only [List.getElem?_toArray, List.getElem?_cons_zero, List.getElem?_cons_succ]; rfl
  case hQz2 => exact fun _ _ _ h => h
  case hyz2 => refine yields_loadB B0.out aggStoreL hn0 ?_ _ rfl rfl; rfl
  try simp only [Act.put, List.setIfInBounds_toArray, List.set_cons_zero, List.set_cons_succ]
  refine wpAnyH_ready (rs := [2]) (by kernel_rfl) (by simp) (AllReadyH.cons (o := ?oy3) ?hy3 (fun K hK => ?sy3) AllReadyH.nil)
  case hy3 => simp only [List.getElem?_toArray, List.getElem?_cons_zero, List.getElem?_cons_succ]; rfl
  go_simp
  refine (toStore_u _ x0 _ _ (H0.out.ext (XW.out.trans hHeld)) hln0).mono ?_
  rintro e w7 ⟨vy0, rfl, ho, hx⟩
  have hH2 := hHeld.trans hx
  refine hK.out _ _ hH2 (fun _ => ?_)
  clear hHeld hK K
  have hHeld := hH2
  clear hH2
  try simp only [Act.put, List.setIfInBounds_toArray, List.set_cons_zero, List.set_cons_succ]
  refine wpAnyH_ready (rs := [3]) (by kernel_rfl) (by simp) (AllReadyH.cons (o := ?oy4) ?hy4 (fun K hK => ?sy4) AllReadyH.nil)
  case hy4 => simp only [List.getElem?_toArray, List.getElem?_cons_zero, List.getElem?_cons_succ]; rfl
  go_simp
  refine (eqStore_u _ _ x0 _ _ _ (RStore.ext Ox0.out.rd hHeld) ho).mono ?_
  rintro e w8 ⟨rfl, hx⟩
  have hH2 := hHeld.trans hx
  refine hK.out _ _ hH2 (fun _ => ?_)
  clear hHeld hK K
  have hHeld := hH2
  clear hH2
  try simp only [Act.put, List.setIfInBounds_toArray, List.set_cons_zero, List.set_cons_succ]
  refine wpAnyH_take (i := 4) (oi := ?oiz5) (v := ?vz5) ?hiz5 (by kernel_rfl) (by kernel_rfl) (by kernel_rfl) ?hQz5 ?hyz5 (by assumption) ?restz5
  case hiz5 => simp only [List.getElem?_toArray, List.getElem?_cons_zero, List.getElem?_cons_succ]; rfl
  case hQz5 => exact fun _ _ _ h => h
  case hyz5 => exact Or.inl ⟨by rfl, by intro w hSw; go_simp; with_reducible rfl⟩
  try simp only [Act.put, List.setIfInBounds_toArray, List.set_cons_zero, List.set_cons_succ]
  refine wpAnyH_done (by kernel_rfl) ?_ _
  replace OW := Lib.hid (OW.out.ext hHeld)
  replace Ox0 := Lib.hid (Ox0.out.ext hHeld)
  replace XOx0 := Lib.hid (XOx0.out.trans hHeld)
  replace OG := Lib.hid (OG.out.ext hHeld)
  replace B0 := Lib.hid (B0.out.ext hHeld)
  replace Vx0 := Lib.hid (Vx0.out.ext hHeld)
  replace XW := Lib.hid (XW.out.trans hHeld)
  clear hHeld
  go_wp2_with (first | (refine wpl_loadB B0.out aggStoreL hn0 rfl _ rfl rfl ?_) | (refine wpl_loadB Vx0.out aggStoreI rfl rfl _ rfl rfl ?_))
  refine (markStore_o _ x0 _ _ _ Ox0.out (by omega)).mono ?_
  rintro e w9 ⟨mk9, rfl, hmk9, ht⟩
  have hmkn : ¬ mk9 < 0 := by omega
  replace XW := Lib.hid (Ext.tch XW.out ht (by first | exact X9.out.size | exact Nat.le_refl _ | simp))
  replace OW := Lib.hid (OW.out.tch ht GOx0_OW.out)
  replace OG := Lib.hid (OG.out.tch ht GOx0_OG.out)
  replace B0 := Lib.hid (B0.out.tch ht FOx0_B0.out)
  replace Vx0 := Lib.hid (Vx0.out.tch ht FOx0_Vx0.out)
  clear Ox0 XOx0 ht
  go_wp2_with (first | (refine wpl_loadB B0.out aggStoreL hn0 rfl _ rfl rfl ?_) | (refine wpl_loadB Vx0.out aggStoreI rfl rfl _ rfl rfl ?_) | (refine wpl_loadBW B0.out aggStoreL hn0 rfl _ rfl rfl ?_) | (refine wpl_loadBW Vx0.out aggStoreI rfl rfl _ rfl rfl ?_))
  refine (eqKeyS_u _ _ R _ _ _ OG.out.rd OW.out.rd).mono ?_
  rintro e w10 ⟨rfl, hx⟩
  replace OW := Lib.hid (OW.out.ext hx)
  replace OG := Lib.hid (OG.out.ext hx)
  replace B0 := Lib.hid (B0.out.ext hx)
  replace Vx0 := Lib.hid (Vx0.out.ext hx)
  replace XW := Lib.hid (XW.out.trans hx)
  clear hx
  have hRl := (show R.length ≤ 128 from HR1.out ▸ keysR_len x0)
  go_wp2_with (first | (refine wpl_loadB B0.out aggStoreL hn0 rfl _ rfl rfl ?_) | (refine wpl_loadB Vx0.out aggStoreI rfl rfl _ rfl rfl ?_))
  refine (markKeyS_any _ _ 1 _ _ OG.out.wr (by omega) (by omega)).mono ?_
  rintro e w11 ⟨rfl, hr, hg⟩
  replace XW := Lib.hid (XW.out.grown hg (fun k hk => (OG.out.base_le k hk).1))
  replace OW := Lib.hid (OW.out.kept hg NOW_OG.out)
  replace B0 := Lib.hid (B0.out.grown hg BB0_OG.out)
  replace Vx0 := Lib.hid (Vx0.out.grown hg BVx0_OG.out)
  clear OG hg
  have M := Lib.hid hr
  clear hr
  go_wp2_with (first | (refine wpl_loadB B0.out aggStoreL hn0 rfl _ rfl rfl ?_) | (refine wpl_loadB Vx0.out aggStoreI rfl rfl _ rfl rfl ?_))
  refine (heldKeyS_any _ _ 1 _ _ M.out (by omega) (by omega)).mono ?_
  rintro e w12 ⟨rfl, hx⟩
  replace OW := Lib.hid (OW.out.ext hx)
  replace M := Lib.hid (M.out.ext hx)
  replace B0 := Lib.hid (B0.out.ext hx)
  replace Vx0 := Lib.hid (Vx0.out.ext hx)
  replace XW := Lib.hid (XW.out.trans hx)
  clear hx
  have hqm : ((1 + (R.length : Int) * 32) != 1 + (R.length : Int) * 32) = false := by simp
  go_wp2_with (first | (refine wpl_loadB B0.out aggStoreL hn0 rfl _ rfl rfl ?_) | (refine wpl_loadB Vx0.out aggStoreI rfl rfl _ rfl rfl ?_))
  refine (toStore_o _ x0 _ _ (H0.out.ext XW.out) hln0).mono ?_
  rintro e w13 ⟨vz0, rfl, ho, hx⟩
  have GOz0_OW := Lib.hid (show ∀ q, (Value.slice AW R.length qW).ownBlock = some q → q < w12.heap.size ∨ w13.heap.size ≤ q from fun q hq => .inl (OW.out.base_le q hq).2)
  have FOz0_B0 := Lib.hid (B0.out.far9 w13.heap.size)
  have FOz0_Vx0 := Lib.hid (Vx0.out.far9 w13.heap.size)
  replace OW := Lib.hid (OW.out.ext hx)
  replace M := Lib.hid (M.out.ext hx)
  replace B0 := Lib.hid (B0.out.ext hx)
  replace Vx0 := Lib.hid (Vx0.out.ext hx)
  replace XW := Lib.hid (XW.out.trans hx)
  obtain ⟨Az0, qz0, rfl⟩ := ho.shape
  have Oz0 := Lib.hid ho
  have XOz0 := Lib.hid (Ext.refl w13)
  clear ho
  clear hx
  go_wp2_with (first | (refine wpl_loadB B0.out aggStoreL hn0 rfl _ rfl rfl ?_) | (refine wpl_loadB Vx0.out aggStoreI rfl rfl _ rfl rfl ?_))
  refine (implKeysOfStore_u _ x0 hln0 _ _ Oz0.out.rd).mono ?_
  rintro e w14 ⟨vH, he, ho, hx⟩
  rw [HR2.out] at he
  subst he
  rw [HR1.out] at ho
  have GOz0_OH := Lib.hid (show ∀ q, (vH).ownBlock = some q → q < w12.heap.size ∨ w13.heap.size ≤ q from fun q hq => .inr (by have h1 := XOz0.out.size; have h2 := (ho.base_le q hq).1; (try rw [size_alloc] at h2); omega))
  have NOW_OH := Lib.hid (OW.out.apart ho (by first | exact Nat.le_refl _ | simp))
  have NOH_OW := Lib.hid (OW.out.apart' ho (by first | exact Nat.le_refl _ | simp))
  have BB0_OH := Lib.hid (ho.far_of_lt (Nat.lt_of_lt_of_le B0.out.lt (by first | exact Nat.le_refl _ | simp)))
  have BVx0_OH := Lib.hid (ho.far_of_lt (Nat.lt_of_lt_of_le Vx0.out.lt (by first | exact Nat.le_refl _ | simp)))
  replace ho := ho.le (base' := w.heap.size) XW.out.size
  replace OW := Lib.hid (OW.out.ext hx)
  replace M := Lib.hid (M.out.ext hx)
  replace Oz0 := Lib.hid (Oz0.out.ext hx)
  replace XOz0 := Lib.hid (XOz0.out.trans hx)
  replace B0 := Lib.hid (B0.out.ext hx)
  replace Vx0 := Lib.hid (Vx0.out.ext hx)
  replace XW := Lib.hid (XW.out.trans hx)
  obtain ⟨AH, qH, rfl⟩ := ho.shape
  have OH := Lib.hid ho
  clear ho
  clear hx
  go_wp2_with (first | (refine wpl_loadB B0.out aggStoreL hn0 rfl _ rfl rfl ?_) | (refine wpl_loadB Vx0.out aggStoreI rfl rfl _ rfl rfl ?_))
  refine (eqKeyS_u _ _ R _ _ _ OH.out.rd OW.out.rd).mono ?_
  rintro e w15 ⟨rfl, hx⟩
  replace OW := Lib.hid (OW.out.ext hx)
  replace M := Lib.hid (M.out.ext hx)
  replace Oz0 := Lib.hid (Oz0.out.ext hx)
  replace XOz0 := Lib.hid (XOz0.out.trans hx)
  replace OH := Lib.hid (OH.out.ext hx)
  replace B0 := Lib.hid (B0.out.ext hx)
  replace Vx0 := Lib.hid (Vx0.out.ext hx)
  replace XW := Lib.hid (XW.out.trans hx)
  clear hx
  go_wp2_with (first | (refine wpl_loadB B0.out aggStoreL hn0 rfl _ rfl rfl ?_) | (refine wpl_loadB Vx0.out aggStoreI rfl rfl _ rfl rfl ?_))
  refine (heldKeyS_any _ _ 1 _ _ M.out (by omega) (by omega)).mono ?_
  rintro e w16 ⟨rfl, hx⟩
  replace OW := Lib.hid (OW.out.ext hx)
  replace M := Lib.hid (M.out.ext hx)
  replace Oz0 := Lib.hid (Oz0.out.ext hx)
  replace XOz0 := Lib.hid (XOz0.out.trans hx)
  replace OH := Lib.hid (OH.out.ext hx)
  replace B0 := Lib.hid (B0.out.ext hx)
  replace Vx0 := Lib.hid (Vx0.out.ext hx)
  replace XW := Lib.hid (XW.out.trans hx)
  clear hx
  go_wp2_with (first | (refine wpl_loadB B0.out aggStoreL hn0 rfl _ rfl rfl ?_) | (refine wpl_loadB Vx0.out aggStoreI rfl rfl _ rfl rfl ?_))
  go_ret
  exact ⟨rfl, XW.out⟩
end Go.Proofs.Ytnklgkmpcochfaa
/- A store as an argument. No condition. -/
namespace Go.Proofs.Ytnklgkmpcochfaa
open Go.RowKit Go.ChangeShapes Go.WideShapes Go.Deep
set_option linter.unusedVariables false
theorem opens_struct1 {α : Type} {P : Program} {t : TypeId} {f : Field} {c : Cd α} (ht : P.underlying t = some (.struct #[f])) (h0 : f.offset = 0) (hc : P.cellsOf t = P.cellsOf f.type) (hf : Opens P f.type c) : Opens P t c := by
  intro H enc w base spare held fuel cs x h hw
  obtain ⟨xs, m, rfl, rfl, hl, hx, hi⟩ := DataW.trod_struct ht h
  match xs, hx with
  | [y0], _ =>
    have e0 := hi 0 f rfl
    simp only [List.getElem?_cons_zero] at e0
    rw [h0, List.drop_zero, List.take_of_length_le (by omega)] at e0
    exact hf _ _ _ _ _ _ _ _ _ e0 (fun n hn => hw n (by simp [DataW.weights, ht, DataW.weightsEach, hn]))
/-- a slice whose elements hold slices -/
theorem rdn_of {α β : Type} {N : NR β} {c : Cd α} {w : World} {S : Nat → Prop} {v : Value} {xs : List α} (f : α → β) (hc : ∀ es x, c w S es x → es.length = N.sz → N.R w S es.toArray (f x)) (h : cSl N.sz c w S [v] xs) : RdN N w S v (xs.map f) := by
  obtain ⟨A, cap, hv, h1, h2, h3⟩ := h
  obtain rfl : v = .slice A xs.length cap := by simpa using hv
  refine ⟨A, cap, by rw [List.length_map], by rw [List.length_map]; exact h1, by rw [List.length_map]; omega, fun hn => ?_⟩
  rw [List.length_map] at hn
  obtain ⟨g, o, e, hS, h4⟩ := h3 hn
  refine ⟨g, o, e, hS, fun i hi => ?_⟩
  rw [List.length_map] at hi
  obtain ⟨es, h5, h6, h7⟩ := h4 i hi
  exact ⟨es, h5, h6, by rw [List.getElem_map]; exact hc es _ h7 h5⟩
theorem rdn_blobs {w : World} {S : Nat → Prop} {v : Value} {xs : List Bl} (h : cSl 2 (cPair (cInt .u8) (cSl 1 (cInt .u8))) w S [v] xs) : RdN nrBlob w S v xs := by
  have := rdn_of (N := nrBlob) (f := fun x : Bl => x) (fun es x hx _ => by
    obtain ⟨c1, c2, rfl, ⟨rfl, hwf⟩, hs⟩ := hx
    obtain ⟨A, cap, rfl, _⟩ := id hs
    exact ⟨_, rfl, rdl_of c_byte hs, wf_u8 hwf⟩) h
  simpa using this
end Go.Proofs.Ytnklgkmpcochfaa
