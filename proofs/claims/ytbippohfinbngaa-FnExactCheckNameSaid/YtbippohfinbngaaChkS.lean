/- A path that is looked at: the reference. No condition. -/
import Derived.Test.YtbippohfinbngaaChkP
namespace Go.Proofs.Ytbippohfinbngaa
open Go.RowKit
set_option linter.unusedVariables false
set_option linter.unusedSimpArgs false

set_option maxHeartbeats 1000000 in
set_option maxRecDepth 100000 in
theorem l04Check_any (root : List Int) (hroot : K32 root) (s : ByteArray) (v : Value) (L : List Nd) (hN : okNs L = true) (w : World) (S : Nat → Prop) (h : RdL tNd w S v L) :
    Calls Try.prog 96 #[.agg (numsA .u8 root), .string s, v] w fun e w' => e = .returned (.tuple #[.bool (ckF s root L).1, .string (ckF s root L).2.1, .bool (ckF s root L).2.2]) ∧ Ext w w' := by
  obtain ⟨A, cap, rfl, hcap, hlen, hrd, hok⟩ := h
  have Hrd := Lib.hid hrd
  have Hok := Lib.hid hok
  have HEN := Lib.hid (fun k (hk : k < L.length) => okNs_at hN hk)
  have hr1 := hroot.1
  obtain ⟨R, hR⟩ : ∃ R, ckF s root L = R := ⟨_, rfl⟩
  rw [hR]
  have HR := Lib.hid hR
  clear hrd hok hN hR
  go_enter Try.func96, Try.ntmps96
  go_wp2_with (first
    | (refine wpl_loadN (Blk.new w 71 (numsA .u8 root)) aggKey hr1 rfl _ rfl rfl ?_)
    | (refine wpl_storeN (Blk.new' (g := w.heap.size + 1) (w := w.alloc _) (by simp) 71 _) aggKey hr1 rfl rfl _ _ rfl rfl rfl rfl ?_))
  go_loopw [10] (fun i wr => ∃ (k : Nat) (due : List Int), k ≤ L.length ∧ i = .int .i64 k ∧ K32 due ∧ ckF s due (L.drop k) = R ∧ Blk wr (w.heap.size + 1) 71 (numsA .u8 due) ∧ Ext w wr) (fun i _ => L.length - (intOf i).toNat)
  case atStart => exact ⟨0, root, by omega, rfl, hroot, by rw [List.drop_zero]; exact HR.out, (Blk.new' (g := w.heap.size + 1) (w := w.alloc _) (by simp) 71 _).setRow _, ((ext_alloc _ _).alloc _).setRow (by omega) _⟩
  case round =>
    obtain ⟨k, due, hk, rfl, hK, hF, hB, hx⟩ := hrel
    have HX := Lib.hid hx
    have HK := Lib.hid hK
    have HF := Lib.hid hF
    have HB := Lib.hid hB
    clear hx hK hF hB HR hroot
    by_cases hlt : k < L.length
    · obtain ⟨g, o, rfl, hs0, hc⟩ := Hrd.out.elem Hok.out k hlt
      have HD := Lib.hid (List.drop_eq_getElem_cons hlt)
      have hxo : L[k].ok := Hok.out _ (List.getElem_mem hlt)
      have hxe := HEN.out k hlt
      have hn : ∀ W, Ext wr W → ∀ j u, L[k].enc.toArray[j]? = some u → W.cell? ⟨g, o + k * 66 + j, none⟩ = some u := fun W hW j u hu => hW.cell (HX.out.cell (hc j u (by rwa [List.getElem?_toArray] at hu)))
      generalize L[k] = x at HD hxo hxe hn hc
      rw [HD.out, ckF_cons] at HF
      have HXO := Lib.hid hxo
      have HXE := Lib.hid hxe
      have HN := Lib.hid hn
      have HXL := Lib.hid hxo.1
      have HXR := Lib.hid hxo.2.1
      have HKN := Lib.hid (hashL_ok 5 (nodeL x))
      have hi : (0 : Int) ≤ (k : Int) := by omega
      have hi2 : (k : Int) < (L.length : Int) := by omega
      clear hc hxo hxe hn
      by_cases hkey : hashL 5 (nodeL x) = due
      · have hneq : ∀ W, (binOp .neq 71 (.agg (numsA .u8 (hashL 5 (nodeL x)))) (.agg (numsA .u8 due))).run Try.prog W = .ok (.bool false) W := fun W => by
          have := run_neqKey _ due HKN.out HK.out W
          rw [decide_eq_true hkey] at this
          exact this
        have HKEY := Lib.hid hkey
        clear hkey
        go_wp2_with fail
        refine wp_region_held_drew (S := fun W => Ext wr W) (by kernel_rfl) (Ext.refl _).drew (fun hHeld => ?_)
        refine wpAnyH_take (i := 0) (oi := ?oiz1) (v := ?vz1) ?hiz1 (by kernel_rfl) (by kernel_rfl) (by kernel_rfl) ?hQz1 ?hyz1 (by assumption) ?restz1
        case hiz1 => simp only [List.getElem?_toArray, List.getElem?_cons_zero, List.getElem?_cons_succ]; rfl
        case hQz1 => exact fun _ _ _ h => h
        case hyz1 => exact Or.inl ⟨by rfl, by intro w hSw; (try dsimp only at hSw); go_simp; with_reducible rfl⟩
        try simp only [Act.put, List.setIfInBounds_toArray, List.set_cons_zero, List.set_cons_succ]
        refine wpAnyH_take (i := 2) (oi := ?oiz2) (v := (.agg (numsA .u8 due))) ?hiz2 (by kernel_rfl) (by kernel_rfl) (by kernel_rfl) ?hQz2 ?hyz2 (by assumption) ?restz2
        case hiz2 => simp only [List.getElem?_toArray, List.getElem?_cons_zero, List.getElem?_cons_succ]; rfl
        case hQz2 => exact fun _ _ _ h => h
        case hyz2 => refine yields_loadB HB.out aggKey (sizeN HK.out.1) ?_ _ rfl rfl; rfl
        try simp only [Act.put, List.setIfInBounds_toArray, List.set_cons_zero, List.set_cons_succ]
        refine wpAnyH_ready (rs := [1]) (by kernel_rfl) (by simp) (AllReadyH.cons (o := ?oy31) ?hy31 (fun K hK => ?sy31) AllReadyH.nil)
        case hy31 => simp only [List.getElem?_toArray, List.getElem?_cons_zero, List.getElem?_cons_succ]; rfl
        go_simp
        refine (l04NodeKeyAt_any x HXO.out HXE.out g (o + k * 66) _ (fun W hW => HN.out W (hHeld.trans hW))).mono ?_
        rintro e w1 ⟨rfl, hx⟩
        have hH2 := hHeld.trans hx
        refine hK.out _ _ hH2 (fun _ => ?_)
        clear hHeld hK K
        have hHeld := hH2
        clear hH2
        try simp only [Act.put, List.setIfInBounds_toArray, List.set_cons_zero, List.set_cons_succ]
        refine wpAnyH_take (i := 3) (oi := ?oiz4) (v := ?vz4) ?hiz4 (by kernel_rfl) (by kernel_rfl) (by kernel_rfl) ?hQz4 ?hyz4 (by assumption) ?restz4
        case hiz4 => simp only [List.getElem?_toArray, List.getElem?_cons_zero, List.getElem?_cons_succ]; rfl
        case hQz4 => exact fun _ _ _ h => h
        case hyz4 => exact Or.inl ⟨by rfl, by intro w hSw; (try dsimp only at hSw); go_simp; with_reducible rfl⟩
        try simp only [Act.put, List.setIfInBounds_toArray, List.set_cons_zero, List.set_cons_succ]
        refine wpAnyH_done (by kernel_rfl) ?_ _
        have HX1 := Lib.hid (HX.out.trans hHeld)
        have HB1 := Lib.hid (HB.out.ext hHeld)
        have c64 := HN.out w1 hHeld 64 _ (Nd.at64 HXO.out)
        have c65 := HN.out w1 hHeld 65 _ (Nd.at65 HXO.out)
        have c65b : w1.cell? ⟨g, o + k * 66 + 64 + 1, none⟩ = some (.string x.v) := c65
        have HN1 := Lib.hid (fun W hW => HN.out W (hHeld.trans hW))
        clear hHeld HB
        have hlast : ((L.drop (k + 1)).isEmpty = true ∧ ((k : Int) == (L.length : Int) - 1) = true) ∨ ((L.drop (k + 1)).isEmpty = false ∧ ((k : Int) == (L.length : Int) - 1) = false) := by
          by_cases e : k + 1 = L.length
          · exact .inl ⟨by rw [List.isEmpty_iff, List.drop_eq_nil_of_le (by omega)], by rw [beq_iff_eq]; omega⟩
          · refine .inr ⟨?_, by rw [beq_eq_false_iff_ne]; omega⟩
            rw [List.isEmpty_eq_false_iff]
            intro e2
            have := congrArg List.length e2
            rw [List.length_drop, List.length_nil] at this
            omega
        by_cases hname : x.n = s
        · have hn2 : (x.n.toList == s.toList) = true := by rw [hname, beq_self_eq_true]
          have HQ := Lib.hid (show ((L.drop (k + 1)).isEmpty, x.v, (L.drop (k + 1)).isEmpty) = R by rw [← HF.out, ckS_hit _ _ HKEY.out hname])
          have m1 : IntKind.i64.wrap ((L.length : Int) - 1) = (L.length : Int) - 1 := by rw [IntKind.wrap_i64]; omega
          clear hname
          rcases hlast with ⟨e1, e2⟩ | ⟨e1, e2⟩
          all_goals
            rw [e1] at HQ
            clear e1
            go_wp2
            go_quiet (fail)
            go_wp2
            go_ret3
            exact ⟨by rw [← HQ.out]; rfl, HX1.out.drewN _⟩
        · have hn2 : (x.n.toList == s.toList) = false := by rw [beq_eq_false_iff_ne]; exact fun e => hname (toList_inj e)
          have HQ := Lib.hid (show ckF s (if ltB s x.n then x.l else x.r) (L.drop (k + 1)) = R by rw [← HF.out, ckS_on _ _ HKEY.out hname])
          have hlt2 := ltB_eq s x.n
          clear hname hlast
          cases hl : ltB s x.n with
          | true =>
            rw [hl] at hlt2 HQ
            go_wp2_with (first
              | (refine wpl_load ⟨g, o + k * 66, none⟩ (nums .u8 x.l) (by rw [nums_length, HXL.out.1]; exact aggKey) rfl _ rfl rfl (fun j u hu => by rw [Addr.add_lit]; have := HN1.out _ (Ext.refl _) (0 + j) u (Nd.left HXO.out j u (by rwa [numsA, List.getElem?_toArray])); rwa [Nat.zero_add] at this) ?_)
              | (refine wpl_storeN HB1.out aggKey HXL.out.1 (sizeN HK.out.1) rfl _ _ rfl rfl rfl rfl ?_))
            go_roundw
            case rel => exact ⟨k + 1, x.l, by omega, by go_num, HXL.out, HQ.out, HB1.out.setRow _, HX1.out.setRow (by omega) _⟩
            case measure => simp [intOf]; omega
          | false =>
            rw [hl] at hlt2 HQ
            go_wp2_with (first
              | (refine wpl_load ⟨g, o + k * 66 + 32, none⟩ (nums .u8 x.r) (by rw [nums_length, HXR.out.1]; exact aggKey) rfl _ rfl rfl (fun j u hu => by rw [Addr.add_lit, Nat.add_assoc]; exact HN1.out _ (Ext.refl _) (32 + j) u (Nd.right HXO.out j u (by rwa [numsA, List.getElem?_toArray]))) ?_)
              | (refine wpl_storeN HB1.out aggKey HXR.out.1 (sizeN HK.out.1) rfl _ _ rfl rfl rfl rfl ?_))
            go_roundw
            case rel => exact ⟨k + 1, x.r, by omega, by go_num, HXR.out, HQ.out, HB1.out.setRow _, HX1.out.setRow (by omega) _⟩
            case measure => simp [intOf]; omega
      · have hneq : ∀ W, (binOp .neq 71 (.agg (numsA .u8 (hashL 5 (nodeL x)))) (.agg (numsA .u8 due))).run Try.prog W = .ok (.bool true) W := fun W => by
          have := run_neqKey _ due HKN.out HK.out W
          rw [decide_eq_false hkey] at this
          exact this
        have HQ := Lib.hid (show (false, (⟨#[]⟩ : ByteArray), false) = R by rw [← HF.out, ckS_bad _ _ hkey])
        clear hkey
        go_wp2_with fail
        refine wp_region_held_drew (S := fun W => Ext wr W) (by kernel_rfl) (Ext.refl _).drew (fun hHeld => ?_)
        refine wpAnyH_take (i := 0) (oi := ?oiz5) (v := ?vz5) ?hiz5 (by kernel_rfl) (by kernel_rfl) (by kernel_rfl) ?hQz5 ?hyz5 (by assumption) ?restz5
        case hiz5 => simp only [List.getElem?_toArray, List.getElem?_cons_zero, List.getElem?_cons_succ]; rfl
        case hQz5 => exact fun _ _ _ h => h
        case hyz5 => exact Or.inl ⟨by rfl, by intro w hSw; (try dsimp only at hSw); go_simp; with_reducible rfl⟩
        try simp only [Act.put, List.setIfInBounds_toArray, List.set_cons_zero, List.set_cons_succ]
        refine wpAnyH_take (i := 2) (oi := ?oiz6) (v := (.agg (numsA .u8 due))) ?hiz6 (by kernel_rfl) (by kernel_rfl) (by kernel_rfl) ?hQz6 ?hyz6 (by assumption) ?restz6
        case hiz6 => simp only [List.getElem?_toArray, List.getElem?_cons_zero, List.getElem?_cons_succ]; rfl
        case hQz6 => exact fun _ _ _ h => h
        case hyz6 => refine yields_loadB HB.out aggKey (sizeN HK.out.1) ?_ _ rfl rfl; rfl
        try simp only [Act.put, List.setIfInBounds_toArray, List.set_cons_zero, List.set_cons_succ]
        refine wpAnyH_ready (rs := [1]) (by kernel_rfl) (by simp) (AllReadyH.cons (o := ?oy71) ?hy71 (fun K hK => ?sy71) AllReadyH.nil)
        case hy71 => simp only [List.getElem?_toArray, List.getElem?_cons_zero, List.getElem?_cons_succ]; rfl
        go_simp
        refine (l04NodeKeyAt_any x HXO.out HXE.out g (o + k * 66) _ (fun W hW => HN.out W (hHeld.trans hW))).mono ?_
        rintro e w1 ⟨rfl, hx⟩
        have hH2 := hHeld.trans hx
        refine hK.out _ _ hH2 (fun _ => ?_)
        clear hHeld hK K
        have hHeld := hH2
        clear hH2
        try simp only [Act.put, List.setIfInBounds_toArray, List.set_cons_zero, List.set_cons_succ]
        refine wpAnyH_take (i := 3) (oi := ?oiz8) (v := ?vz8) ?hiz8 (by kernel_rfl) (by kernel_rfl) (by kernel_rfl) ?hQz8 ?hyz8 (by assumption) ?restz8
        case hiz8 => simp only [List.getElem?_toArray, List.getElem?_cons_zero, List.getElem?_cons_succ]; rfl
        case hQz8 => exact fun _ _ _ h => h
        case hyz8 => exact Or.inl ⟨by rfl, by intro w hSw; (try dsimp only at hSw); go_simp; with_reducible rfl⟩
        try simp only [Act.put, List.setIfInBounds_toArray, List.set_cons_zero, List.set_cons_succ]
        refine wpAnyH_done (by kernel_rfl) ?_ _
        have HX1 := Lib.hid (HX.out.trans hHeld)
        have HB1 := Lib.hid (HB.out.ext hHeld)
        have c64 := HN.out w1 hHeld 64 _ (Nd.at64 HXO.out)
        have c65 := HN.out w1 hHeld 65 _ (Nd.at65 HXO.out)
        have c65b : w1.cell? ⟨g, o + k * 66 + 64 + 1, none⟩ = some (.string x.v) := c65
        have HN1 := Lib.hid (fun W hW => HN.out W (hHeld.trans hW))
        clear hHeld HB
        go_wp2
        go_ret3
        exact ⟨by rw [← HQ.out]; rfl, HX1.out⟩
    · obtain rfl : k = L.length := by omega
      rw [List.drop_eq_nil_of_le (Nat.le_refl _), ckF_nil] at HF
      by_cases hd : due = emptyL
      · have heql : ∀ W, (binOp .eql 71 (.agg (numsA .u8 due)) (.agg (numsA .u8 emptyL))).run Try.prog W = .ok (.bool true) W := fun W => by
          have := run_eqKey due emptyL HK.out emptyL_ok W
          rw [decide_eq_true hd] at this
          exact this
        rw [decide_eq_true hd] at HF
        clear hd
        go_wp2_with fail
        refine wp_region_held_drew (S := fun W => Ext wr W) (by kernel_rfl) (Ext.refl _).drew (fun hHeld => ?_)
        refine wpAnyH_take (i := 0) (oi := ?oiz9) (v := (.agg (numsA .u8 due))) ?hiz9 (by kernel_rfl) (by kernel_rfl) (by kernel_rfl) ?hQz9 ?hyz9 (by assumption) ?restz9
        case hiz9 => simp only [List.getElem?_toArray, List.getElem?_cons_zero, List.getElem?_cons_succ]; rfl
        case hQz9 => exact fun _ _ _ h => h
        case hyz9 => refine yields_loadB HB.out aggKey (sizeN HK.out.1) ?_ _ rfl rfl; rfl
        try simp only [Act.put, List.setIfInBounds_toArray, List.set_cons_zero, List.set_cons_succ]
        refine wpAnyH_ready (rs := [1]) (by kernel_rfl) (by simp) (AllReadyH.cons (o := ?oy101) ?hy101 (fun K hK => ?sy101) AllReadyH.nil)
        case hy101 => simp only [List.getElem?_toArray, List.getElem?_cons_zero, List.getElem?_cons_succ]; rfl
        go_simp
        refine (l04Empty_any _).mono ?_
        rintro e w1 ⟨rfl, hx⟩
        have hH2 := hHeld.trans hx
        refine hK.out _ _ hH2 (fun _ => ?_)
        clear hHeld hK K
        have hHeld := hH2
        clear hH2
        try simp only [Act.put, List.setIfInBounds_toArray, List.set_cons_zero, List.set_cons_succ]
        refine wpAnyH_take (i := 2) (oi := ?oiz11) (v := ?vz11) ?hiz11 (by kernel_rfl) (by kernel_rfl) (by kernel_rfl) ?hQz11 ?hyz11 (by assumption) ?restz11
        case hiz11 => simp only [List.getElem?_toArray, List.getElem?_cons_zero, List.getElem?_cons_succ]; rfl
        case hQz11 => exact fun _ _ _ h => h
        case hyz11 => exact Or.inl ⟨by rfl, by intro w hSw; (try dsimp only at hSw); go_simp; with_reducible rfl⟩
        try simp only [Act.put, List.setIfInBounds_toArray, List.set_cons_zero, List.set_cons_succ]
        refine wpAnyH_take (i := 3) (oi := ?oiz12) (v := ?vz12) ?hiz12 (by kernel_rfl) (by kernel_rfl) (by kernel_rfl) ?hQz12 ?hyz12 (by assumption) ?restz12
        case hiz12 => simp only [List.getElem?_toArray, List.getElem?_cons_zero, List.getElem?_cons_succ]; rfl
        case hQz12 => exact fun _ _ _ h => h
        case hyz12 => exact Or.inl ⟨by rfl, by intro w hSw; (try dsimp only at hSw); go_simp; with_reducible rfl⟩
        try simp only [Act.put, List.setIfInBounds_toArray, List.set_cons_zero, List.set_cons_succ]
        refine wpAnyH_take (i := 4) (oi := ?oiz13) (v := ?vz13) ?hiz13 (by kernel_rfl) (by kernel_rfl) (by kernel_rfl) ?hQz13 ?hyz13 (by assumption) ?restz13
        case hiz13 => simp only [List.getElem?_toArray, List.getElem?_cons_zero, List.getElem?_cons_succ]; rfl
        case hQz13 => exact fun _ _ _ h => h
        case hyz13 => exact Or.inl ⟨by rfl, by intro w hSw; (try dsimp only at hSw); go_simp; with_reducible rfl⟩
        try simp only [Act.put, List.setIfInBounds_toArray, List.set_cons_zero, List.set_cons_succ]
        refine wpAnyH_take (i := 5) (oi := ?oiz14) (v := ?vz14) ?hiz14 (by kernel_rfl) (by kernel_rfl) (by kernel_rfl) ?hQz14 ?hyz14 (by assumption) ?restz14
        case hiz14 => simp only [List.getElem?_toArray, List.getElem?_cons_zero, List.getElem?_cons_succ]; rfl
        case hQz14 => exact fun _ _ _ h => h
        case hyz14 => exact Or.inl ⟨by rfl, by intro w hSw; (try dsimp only at hSw); go_simp; with_reducible rfl⟩
        try simp only [Act.put, List.setIfInBounds_toArray, List.set_cons_zero, List.set_cons_succ]
        refine wpAnyH_done (by kernel_rfl) ?_ _
        have HX1 := Lib.hid (HX.out.trans hHeld)
        clear hHeld
        go_wp2
        go_ret3
        exact ⟨by rw [← HF.out]; rfl, HX1.out⟩
      · have heql : ∀ W, (binOp .eql 71 (.agg (numsA .u8 due)) (.agg (numsA .u8 emptyL))).run Try.prog W = .ok (.bool false) W := fun W => by
          have := run_eqKey due emptyL HK.out emptyL_ok W
          rw [decide_eq_false hd] at this
          exact this
        rw [decide_eq_false hd] at HF
        clear hd
        go_wp2_with fail
        refine wp_region_held_drew (S := fun W => Ext wr W) (by kernel_rfl) (Ext.refl _).drew (fun hHeld => ?_)
        refine wpAnyH_take (i := 0) (oi := ?oiz15) (v := (.agg (numsA .u8 due))) ?hiz15 (by kernel_rfl) (by kernel_rfl) (by kernel_rfl) ?hQz15 ?hyz15 (by assumption) ?restz15
        case hiz15 => simp only [List.getElem?_toArray, List.getElem?_cons_zero, List.getElem?_cons_succ]; rfl
        case hQz15 => exact fun _ _ _ h => h
        case hyz15 => refine yields_loadB HB.out aggKey (sizeN HK.out.1) ?_ _ rfl rfl; rfl
        try simp only [Act.put, List.setIfInBounds_toArray, List.set_cons_zero, List.set_cons_succ]
        refine wpAnyH_ready (rs := [1]) (by kernel_rfl) (by simp) (AllReadyH.cons (o := ?oy161) ?hy161 (fun K hK => ?sy161) AllReadyH.nil)
        case hy161 => simp only [List.getElem?_toArray, List.getElem?_cons_zero, List.getElem?_cons_succ]; rfl
        go_simp
        refine (l04Empty_any _).mono ?_
        rintro e w1 ⟨rfl, hx⟩
        have hH2 := hHeld.trans hx
        refine hK.out _ _ hH2 (fun _ => ?_)
        clear hHeld hK K
        have hHeld := hH2
        clear hH2
        try simp only [Act.put, List.setIfInBounds_toArray, List.set_cons_zero, List.set_cons_succ]
        refine wpAnyH_take (i := 2) (oi := ?oiz17) (v := ?vz17) ?hiz17 (by kernel_rfl) (by kernel_rfl) (by kernel_rfl) ?hQz17 ?hyz17 (by assumption) ?restz17
        case hiz17 => simp only [List.getElem?_toArray, List.getElem?_cons_zero, List.getElem?_cons_succ]; rfl
        case hQz17 => exact fun _ _ _ h => h
        case hyz17 => exact Or.inl ⟨by rfl, by intro w hSw; (try dsimp only at hSw); go_simp; with_reducible rfl⟩
        try simp only [Act.put, List.setIfInBounds_toArray, List.set_cons_zero, List.set_cons_succ]
        refine wpAnyH_take (i := 3) (oi := ?oiz18) (v := ?vz18) ?hiz18 (by kernel_rfl) (by kernel_rfl) (by kernel_rfl) ?hQz18 ?hyz18 (by assumption) ?restz18
        case hiz18 => simp only [List.getElem?_toArray, List.getElem?_cons_zero, List.getElem?_cons_succ]; rfl
        case hQz18 => exact fun _ _ _ h => h
        case hyz18 => exact Or.inl ⟨by rfl, by intro w hSw; (try dsimp only at hSw); go_simp; with_reducible rfl⟩
        try simp only [Act.put, List.setIfInBounds_toArray, List.set_cons_zero, List.set_cons_succ]
        refine wpAnyH_take (i := 4) (oi := ?oiz19) (v := ?vz19) ?hiz19 (by kernel_rfl) (by kernel_rfl) (by kernel_rfl) ?hQz19 ?hyz19 (by assumption) ?restz19
        case hiz19 => simp only [List.getElem?_toArray, List.getElem?_cons_zero, List.getElem?_cons_succ]; rfl
        case hQz19 => exact fun _ _ _ h => h
        case hyz19 => exact Or.inl ⟨by rfl, by intro w hSw; (try dsimp only at hSw); go_simp; with_reducible rfl⟩
        try simp only [Act.put, List.setIfInBounds_toArray, List.set_cons_zero, List.set_cons_succ]
        refine wpAnyH_take (i := 5) (oi := ?oiz20) (v := ?vz20) ?hiz20 (by kernel_rfl) (by kernel_rfl) (by kernel_rfl) ?hQz20 ?hyz20 (by assumption) ?restz20
        case hiz20 => simp only [List.getElem?_toArray, List.getElem?_cons_zero, List.getElem?_cons_succ]; rfl
        case hQz20 => exact fun _ _ _ h => h
        case hyz20 => exact Or.inl ⟨by rfl, by intro w hSw; (try dsimp only at hSw); go_simp; with_reducible rfl⟩
        try simp only [Act.put, List.setIfInBounds_toArray, List.set_cons_zero, List.set_cons_succ]
        refine wpAnyH_done (by kernel_rfl) ?_ _
        have HX1 := Lib.hid (HX.out.trans hHeld)
        clear hHeld
        go_wp2
        go_ret3
        exact ⟨by rw [← HF.out]; rfl, HX1.out⟩
set_option maxHeartbeats 1000000 in
set_option maxRecDepth 100000 in
theorem specCheckName_any (root : List Int) (hroot : K32 root) (s : ByteArray) (hs : s.size ≤ 140737488351232) (v : Value) (L : List Nd) (w : World) (S : Nat → Prop) (h : RdL tNd w S v L) :
    Calls Try.prog 47 #[.agg (numsA .u8 root), .string s, v] w fun e w' => e = .returned (.tuple #[.bool (chkR root s L).1, .string (chkR root s L).2.1, .int .i64 (chkR root s L).2.2]) ∧ Ext w w' := by
  have H := Lib.hid h
  have hr1 := hroot.1
  have hn := l04Name_any s hs
  have hg := fun W hW => l04Given_any v L W S hW
  have hc := fun hN W hW => l04Check_any root hroot s v L hN W S hW
  obtain ⟨A, cap, rfl, hcap, hlen, _⟩ := h
  have B3 : ∀ W, Ext (w.alloc (.cells (numsA .u8 root) 71)) W → Blk W w.heap.size 71 (numsA .u8 root) := fun W hW => (Blk.new w _ _).ext hW
  have HB3 := Lib.hid B3
  clear B3
  cases h1 : nameB s with
  | false =>
    simp only [chkR, h1, Bool.false_and, Bool.false_eq_true, if_false]
    simp only [h1] at hn
    clear h1 hg hc
    go_enter Try.func47, Try.ntmps47
    go_wp2_with fail
    refine (hn _).mono ?_
    rintro e w' ⟨rfl, rfl⟩
    go_wp2
    go_ret3
    exact ⟨rfl, ext_alloc _ _⟩
  | true =>
    simp only [h1] at hn
    cases h2 : okNs L with
    | false =>
      simp only [chkR, h1, h2, Bool.and_false, Bool.false_eq_true, if_false]
      have e1 : givenR L = 1 := by rw [givenR, h2]; rfl
      rw [e1] at hg
      clear h1 h2 hc e1
      go_enter Try.func47, Try.ntmps47
      go_wp2_with fail
      refine (hn _).mono ?_
      rintro e w' ⟨rfl, rfl⟩
      go_wp2_with fail
      refine (hg _ (H.out.ext (by decide) (ext_alloc _ _))).mono ?_
      rintro e w1 ⟨rfl, hx⟩
      have XW := Lib.hid ((ext_alloc w _).trans hx)
      clear hx
      go_wp2
      go_ret3
      exact ⟨rfl, XW.out⟩
    | true =>
      by_cases h3 : 64 < L.length
      · simp only [chkR, h1, h2, Bool.and_true, if_true, if_pos h3]
        have e1 : givenR L = 3 := by rw [givenR, h2, if_pos rfl, if_pos h3]
        rw [e1] at hg
        clear h1 h2 hc e1 h3
        go_enter Try.func47, Try.ntmps47
        go_wp2_with fail
        refine (hn _).mono ?_
        rintro e w' ⟨rfl, rfl⟩
        go_wp2_with fail
        refine (hg _ (H.out.ext (by decide) (ext_alloc _ _))).mono ?_
        rintro e w1 ⟨rfl, hx⟩
        have XW := Lib.hid ((ext_alloc w _).trans hx)
        clear hx
        go_wp2
        go_ret3
        exact ⟨rfl, XW.out⟩
      · simp only [chkR, h1, h2, Bool.and_true, if_true, if_neg h3]
        have e1 : givenR L = 0 := by rw [givenR, h2, if_pos rfl, if_neg h3]
        rw [e1] at hg
        replace hc := hc h2
        clear h1 h2 e1 h3
        obtain ⟨c1, c2, c3, hC⟩ : ∃ c1 c2 c3, ckF s root L = (c1, c2, c3) := ⟨_, _, _, rfl⟩
        simp only [hC] at hc ⊢
        clear hC
        cases c3 with
        | true =>
          go_enter Try.func47, Try.ntmps47
          go_wp2_with fail
          refine (hn _).mono ?_
          rintro e w' ⟨rfl, rfl⟩
          go_wp2_with fail
          refine (hg _ (H.out.ext (by decide) (ext_alloc _ _))).mono ?_
          rintro e w1 ⟨rfl, hx⟩
          have XW := Lib.hid ((ext_alloc w _).trans hx)
          have B := Lib.hid (HB3.out _ hx)
          clear hx
          go_wp2_with (refine wpl_loadN B.out aggKey hr1 rfl _ rfl rfl ?_)
          refine (hc _ (H.out.ext (by decide) XW.out)).mono ?_
          rintro e w2 ⟨rfl, hx⟩
          replace XW := Lib.hid (XW.out.trans hx)
          clear hx
          go_wp2
          go_ret3
          exact ⟨rfl, XW.out⟩
        | false =>
          go_enter Try.func47, Try.ntmps47
          go_wp2_with fail
          refine (hn _).mono ?_
          rintro e w' ⟨rfl, rfl⟩
          go_wp2_with fail
          refine (hg _ (H.out.ext (by decide) (ext_alloc _ _))).mono ?_
          rintro e w1 ⟨rfl, hx⟩
          have XW := Lib.hid ((ext_alloc w _).trans hx)
          have B := Lib.hid (HB3.out _ hx)
          clear hx
          go_wp2_with (refine wpl_loadN B.out aggKey hr1 rfl _ rfl rfl ?_)
          refine (hc _ (H.out.ext (by decide) XW.out)).mono ?_
          rintro e w2 ⟨rfl, hx⟩
          replace XW := Lib.hid (XW.out.trans hx)
          clear hx
          go_wp2
          go_ret3
          exact ⟨rfl, XW.out⟩
end Go.Proofs.Ytbippohfinbngaa
