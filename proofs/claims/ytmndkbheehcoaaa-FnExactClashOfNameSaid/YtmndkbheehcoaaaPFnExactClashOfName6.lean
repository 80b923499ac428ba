/- What the walk of the law FnExactClashOfName needs, part 6 of 8. No condition. -/
import Derived.Test.YtmndkbheehcoaaaPFnExactClashOfName5
/- A path that is looked at: the program. No condition. -/
namespace Go.Proofs.Ytmndkbheehcoaaa
open Go.RowKit
set_option linter.unusedVariables false
set_option linter.unusedSimpArgs false

set_option maxHeartbeats 1000000 in
set_option maxRecDepth 100000 in
theorem nodeNext_any (x : Nd) (hok : x.ok) (s : ByteArray) (w : World) :
    Calls Try.prog 113 #[.agg x.enc.toArray, .string s] w fun e w' => e = .returned (.agg (numsA .u8 (if ltB s x.n then x.l else x.r))) ∧ Ext w w' := by
  have hl := hok.1.1
  have hr := hok.2.1.1
  have c64 : ∀ o, (((w.alloc (.cells x.enc.toArray 31)).alloc o)).cell? ⟨w.heap.size, 64, none⟩ = some (.string x.n) := fun o => ((Blk.new w _ _).alloc o).at_ 64 (Nd.at64 hok)
  have hlt := ltB_eq s x.n
  cases hb : ltB s x.n with
  | true =>
    rw [hb] at hlt
    simp only [if_true]
    clear hb
    go_enter Try.func113, Try.ntmps113
    go_wp2_with (first
      | (refine wpl_loadP (off := 0) (sub := numsA .u8 x.l) ((Blk.new w 31 x.enc.toArray).alloc _) aggKey (sizeN hl) (Nd.left hok) rfl _ rfl rfl ?_)
      | (refine wpl_storeN (Blk.new' (g := w.heap.size + 1) (w := w.alloc _) (by simp) 27 _) aggKey hl rfl rfl _ _ rfl rfl rfl rfl ?_))
    refine bodyPost_ret (results_blk rfl _ rfl aggKey hl ((Blk.new' (g := w.heap.size + 1) (w := w.alloc _) (by simp) 27 _).setRow _)) rfl ?_
    exact ⟨rfl, ((ext_alloc _ _).alloc _).setRow (by omega) _⟩
  | false =>
    rw [hb] at hlt
    simp only [Bool.false_eq_true, if_false]
    clear hb
    go_enter Try.func113, Try.ntmps113
    go_wp2_with (first
      | (refine wpl_loadP (off := 32) (sub := numsA .u8 x.r) ((Blk.new w 31 x.enc.toArray).alloc _) aggKey (sizeN hr) (Nd.right hok) rfl _ rfl rfl ?_)
      | (refine wpl_storeN (Blk.new' (g := w.heap.size + 1) (w := w.alloc _) (by simp) 27 _) aggKey hr rfl rfl _ _ rfl rfl rfl rfl ?_))
    refine bodyPost_ret (results_blk rfl _ rfl aggKey hr ((Blk.new' (g := w.heap.size + 1) (w := w.alloc _) (by simp) 27 _).setRow _)) rfl ?_
    exact ⟨rfl, ((ext_alloc _ _).alloc _).setRow (by omega) _⟩
set_option maxHeartbeats 1000000 in
set_option maxRecDepth 100000 in
theorem areFn_any (x : Nd) (hok : x.ok) (w : World) :
    Calls Try.prog 139 #[.agg x.enc.toArray] w fun e w' => e = .returned (.bool (!entB x.n x.v)) ∧ Ext w w' := by
  have hv := fun W => validEntry_any x.n x.v hok.2.2.1 hok.2.2.2 W
  go_enter Try.func139, Try.ntmps139
  go_wp2_with (refine wpl_loadP (off := 64) (sub := #[.string x.n, .string x.v]) (Blk.new w 31 x.enc.toArray) aggEntryI rfl (Nd.ent hok) rfl _ rfl rfl ?_)
  refine (hv _).mono ?_
  rintro e w1 ⟨rfl, hx⟩
  have XW := Lib.hid ((ext_alloc w _).trans hx)
  clear hx hv
  go_wp2
  go_ret
  exact ⟨rfl, XW.out⟩
set_option maxHeartbeats 1000000 in
set_option maxRecDepth 100000 in
theorem areIdx_any (v : Value) (L : List Nd) (w : World) (S : Nat → Prop) (h : RdL tNd w S v L) :
    Calls Try.prog 164 #[v, .func (.func 139) #[] #[]] w fun q w' => (∃ r : Int, q = .returned (.int .i64 r) ∧ decide (0 ≤ r) = !okNs L) ∧ Ext w w' := by
  obtain ⟨A, cap, rfl, hcap, hlen, hrd, hok⟩ := h
  have Hrd := Lib.hid hrd
  have Hok := Lib.hid hok
  clear hrd hok
  go_enter Try.func164, Try.ntmps164
  go_wp2
  go_loopw [8] (fun i wr => ∃ k : Nat, k ≤ L.length ∧ i = .int .i64 k ∧ (∀ p (hp : p < L.length), p < k → entB L[p].n L[p].v = true) ∧ Ext w wr) (fun i _ => L.length - (intOf i).toNat)
  case atStart => exact ⟨0, by omega, rfl, fun j hj h => by omega, Ext.refl _⟩
  case round =>
    obtain ⟨k, hk, rfl, hm, hx⟩ := hrel
    have HX := Lib.hid hx
    have HM := Lib.hid hm
    clear hx hm
    by_cases hlt : k < L.length
    · obtain ⟨g, o, rfl, hs0, hc⟩ := Hrd.out.elem Hok.out k hlt
      have HD0 := Lib.hid (show ∀ j u, L[k].enc[j]? = some u → wr.cell? ⟨g, o + k * 66 + j, none⟩ = some u from fun j u hu => HX.out.cell (hc j u hu))
      have HXO := Lib.hid (show L[k].ok from Hok.out _ (List.getElem_mem hlt))
      have hf := fun W => areFn_any L[k] HXO.out W
      have hk0 : (0 : Int) ≤ (k : Int) := by omega
      have hk2 : (k : Int) < (L.length : Int) := by omega
      clear hc
      cases hq : entB L[k].n L[k].v with
      | true =>
        simp only [hq] at hf
        go_wp2_with (refine wpl_load ⟨g, o + k * 66, none⟩ L[k].enc (by rw [Nd.enc_length HXO.out]; exact aggNodeI) rfl _ rfl rfl (fun j u hu => by rw [Addr.add_lit]; exact HD0.out j u hu) ?_)
        refine (hf _).mono ?_
        rintro e w1 ⟨rfl, hx⟩
        have HX1 := Lib.hid (HX.out.trans hx)
        clear hx hf
        go_wp2
        go_roundw
        case rel => exact ⟨k + 1, by omega, by go_num, fun p hp h => by
          by_cases e : p = k
          · subst e; exact hq
          · exact HM.out p hp (by omega), HX1.out⟩
        case measure => simp [intOf]; omega
      | false =>
        simp only [hq] at hf
        have HQ := Lib.hid (okNs_bad hlt hq)
        go_wp2_with (refine wpl_load ⟨g, o + k * 66, none⟩ L[k].enc (by rw [Nd.enc_length HXO.out]; exact aggNodeI) rfl _ rfl rfl (fun j u hu => by rw [Addr.add_lit]; exact HD0.out j u hu) ?_)
        refine (hf _).mono ?_
        rintro e w1 ⟨rfl, hx⟩
        have HX1 := Lib.hid (HX.out.trans hx)
        clear hx hf
        go_wp2
        go_ret
        exact ⟨⟨k, rfl, by rw [HQ.out]; simp⟩, HX1.out⟩
    · obtain rfl : k = L.length := by omega
      have HQ := Lib.hid (okNs_good fun p hp => HM.out p hp hp)
      go_wp2
      go_ret
      exact ⟨⟨-1, rfl, by rw [HQ.out]; rfl⟩, HX.out⟩
set_option maxHeartbeats 1000000 in
set_option maxRecDepth 100000 in
theorem areNodes_any (v : Value) (L : List Nd) (w : World) (S : Nat → Prop) (h : RdL tNd w S v L) :
    Calls Try.prog 86 #[v] w fun q w' => q = .returned (.bool (okNs L)) ∧ Ext w w' := by
  have hi := areIdx_any v L w S h
  have hc : Calls Try.prog 138 #[v, .func (.func 139) #[] #[]] w fun q w' => q = .returned (.bool (!okNs L)) ∧ Ext w w' := by
    obtain ⟨A, cap, rfl, _⟩ := h
    go_enter Try.func138, Try.ntmps138
    go_wp2_with fail
    refine hi.mono ?_
    rintro e w1 ⟨⟨r, rfl, hr⟩, hx⟩
    have HX := Lib.hid hx
    have HR := Lib.hid hr
    clear hx hr hi
    go_wp2
    go_ret
    exact ⟨by rw [← HR.out]; rfl, HX.out⟩
  obtain ⟨A, cap, rfl, _⟩ := h
  go_enter Try.func86, Try.ntmps86
  go_wp2_with fail
  refine hc.mono ?_
  rintro e w1 ⟨rfl, hx⟩
  have HX := Lib.hid hx
  clear hx hc hi
  go_wp2
  go_ret
  exact ⟨by simp, HX.out⟩
/-- the loop's answer -/
def ckR (R : Bool × ByteArray × Bool) : Bool × ByteArray × Int := if R.2.2 then (R.1, R.2.1, 0) else (false, ⟨#[]⟩, 8)
set_option maxHeartbeats 1000000 in
set_option maxRecDepth 100000 in
theorem implCheckName_any (root : List Int) (hroot : K32 root) (s : ByteArray) (hs : s.size ≤ 140737488351232) (v : Value) (L : List Nd) (w : World) (S : Nat → Prop) (h : RdL tNd w S v L) :
    Calls Try.prog 52 #[.agg (numsA .u8 root), .string s, v] w fun e w' => e = .returned (.tuple #[.bool (chkR root s L).1, .string (chkR root s L).2.1, .int .i64 (chkR root s L).2.2]) ∧ Ext w w' := by
  have H := Lib.hid h
  have hr1 := hroot.1
  have hn := isName_any s hs
  have hg := fun W hW => areNodes_any v L W S hW
  obtain ⟨A, cap, rfl, hcap, hlen, hrd, hok⟩ := h
  have Hrd := Lib.hid hrd
  have Hok := Lib.hid hok
  clear hrd hok
  cases h1 : nameB s with
  | false =>
    simp only [chkR, h1, Bool.false_and, Bool.false_eq_true, if_false]
    simp only [h1] at hn
    clear h1 hg
    go_enter Try.func52, Try.ntmps52
    go_wp2_with fail
    refine (hn _).mono ?_
    rintro e w' ⟨rfl, rfl⟩
    go_wp2
    go_ret3
    exact ⟨rfl, ext_alloc _ _⟩
  | true =>
    simp only [h1] at hn
    cases h2 : okNs L with
    | false =>
      simp only [chkR, h1, h2, Bool.and_false, Bool.false_eq_true, if_false]
      simp only [h2] at hg
      clear h1 h2
      go_enter Try.func52, Try.ntmps52
      go_wp2_with fail
      refine (hn _).mono ?_
      rintro e w' ⟨rfl, rfl⟩
      go_wp2_with fail
      refine (hg _ (H.out.ext (by decide) (ext_alloc _ _))).mono ?_
      rintro e w1 ⟨rfl, hx⟩
      have XW := Lib.hid ((ext_alloc w _).trans hx)
      clear hx
      go_wp2
      go_ret3
      exact ⟨rfl, XW.out⟩
    | true =>
      have HEN := Lib.hid (fun k (hk : k < L.length) => okNs_at h2 hk)
      by_cases h3 : 64 < L.length
      · simp only [chkR, h1, h2, Bool.and_true, if_true, if_pos h3]
        simp only [h2] at hg
        have h3' : (64 : Int) < (L.length : Int) := by omega
        clear h1 h2 h3
        go_enter Try.func52, Try.ntmps52
        go_wp2_with fail
        refine (hn _).mono ?_
        rintro e w' ⟨rfl, rfl⟩
        go_wp2_with fail
        refine (hg _ (H.out.ext (by decide) (ext_alloc _ _))).mono ?_
        rintro e w1 ⟨rfl, hx⟩
        have XW := Lib.hid ((ext_alloc w _).trans hx)
        clear hx
        go_wp2
        go_ret3
        exact ⟨rfl, XW.out⟩
      · have e0 : chkR root s L = ckR (ckF s root L) := by simp only [chkR, h1, h2, Bool.and_true, if_true, if_neg h3]; rfl
        rw [e0]
        simp only [h2] at hg
        have h3' : ¬ (64 : Int) < (L.length : Int) := by omega
        obtain ⟨R, hR⟩ : ∃ R, ckF s root L = R := ⟨_, rfl⟩
        rw [hR]
        have HR := Lib.hid hR
        obtain ⟨Q1, Q2, Q3, hQ⟩ : ∃ Q1 Q2 Q3, ckR R = (Q1, Q2, Q3) := ⟨_, _, _, rfl⟩
        simp only [hQ]
        have HQ := Lib.hid hQ
        clear h1 h2 h3 e0 hR hQ
        go_enter Try.func52, Try.ntmps52
        go_wp2_with fail
        refine (hn _).mono ?_
        rintro e w' ⟨rfl, rfl⟩
        go_wp2_with fail
        refine (hg _ (H.out.ext (by decide) (ext_alloc _ _))).mono ?_
        rintro e w1 ⟨rfl, hx⟩
        have XW := Lib.hid ((ext_alloc w _).trans hx)
        have BR := Lib.hid ((Blk.new w 27 (numsA .u8 root)).ext hx)
        clear hx hg hn
        go_wp2_with fail
        go_loopw [26] (fun i wr => ∃ (k : Nat) (due : List Int), k ≤ L.length ∧ i = .int .i64 k ∧ K32 due ∧ ckF s due (L.drop k) = R ∧ Blk wr w.heap.size 27 (numsA .u8 due) ∧ Ext w wr) (fun i _ => L.length - (intOf i).toNat)
        case atStart => exact ⟨0, root, by omega, rfl, hroot, by rw [List.drop_zero]; exact HR.out, BR.out, XW.out⟩
        case round =>
          obtain ⟨k, due, hk, rfl, hK, hF, hB, hx⟩ := hrel
          have HX := Lib.hid hx
          have HK := Lib.hid hK
          have HF := Lib.hid hF
          have HB := Lib.hid hB
          clear hx hK hF hB HR hroot BR XW
          by_cases hlt : k < L.length
          · obtain ⟨g, o, rfl, hs0, hc⟩ := Hrd.out.elem Hok.out k hlt
            have HD := Lib.hid (List.drop_eq_getElem_cons hlt)
            have hxo : L[k].ok := Hok.out _ (List.getElem_mem hlt)
            have hxe := HEN.out k hlt
            have hn : ∀ j u, L[k].enc[j]? = some u → wr.cell? ⟨g, o + k * 66 + j, none⟩ = some u := fun j u hu => HX.out.cell (hc j u hu)
            generalize L[k] = x at HD hxo hxe hn hc
            rw [HD.out, ckF_cons] at HF
            have HXO := Lib.hid hxo
            have HXE := Lib.hid hxe
            have HN := Lib.hid hn
            have hsz := (Nd.st hxo).size
            have HST := Lib.hid (Nd.st hxo)
            have HKN := Lib.hid (hashL_ok 5 (nodeL x))
            have HNK := Lib.hid (show K32 (if ltB s x.n then x.l else x.r) by split; exact hxo.1; exact hxo.2.1)
            have B10 := Lib.hid (Blk.new wr 31 x.enc.toArray)
            have HBa := Lib.hid (HB.out.alloc (.cells x.enc.toArray 31))
            have hi : (0 : Int) ≤ (k : Int) := by omega
            have hi2 : (k : Int) < (L.length : Int) := by omega
            clear hc hxo hxe hn
            by_cases hkey : hashL 5 (nodeL x) = due
            · have hneq : ∀ W, (binOp .neq 27 (.agg (numsA .u8 (hashL 5 (nodeL x)))) (.agg (numsA .u8 due))).run Try.prog W = .ok (.bool false) W := fun W => by
                have := run_neqKey _ due HKN.out HK.out W
                rw [decide_eq_true hkey] at this
                exact this
              have HKEY := Lib.hid hkey
              clear hkey
              go_wp2_with (first
                | (refine wpl_load ⟨g, o + k * 66, none⟩ x.enc (by rw [Nd.enc_length HXO.out]; exact aggNodeI) rfl _ rfl rfl (fun j u hu => by rw [Addr.add_lit]; exact HN.out j u hu) ?_)
                | (refine wpl_storeNewB aggNodeI HST.out rfl rfl _ _ rfl rfl rfl rfl ?_))
              refine wp_region_held_drew (S := fun W => Ext (wr.alloc (.cells x.enc.toArray 31)) W) (by kernel_rfl) (Ext.refl _).drew (fun hHeld => ?_)
              refine wpAnyH_take (i := 0) (oi := ?oiz21) (v := (.agg x.enc.toArray)) ?hiz21 (by kernel_rfl) (by kernel_rfl) (by kernel_rfl) ?hQz21 ?hyz21 (by assumption) ?restz21
              case hiz21 => simp only [List.getElem?_toArray, List.getElem?_cons_zero, List.getElem?_cons_succ]; rfl
              case hQz21 => exact fun _ _ _ h => h
              case hyz21 => refine yields_loadB B10.out aggNodeI hsz ?_ _ rfl rfl; rfl
              try simp only [Act.put, List.setIfInBounds_toArray, List.set_cons_zero, List.set_cons_succ]
              refine wpAnyH_take (i := 2) (oi := ?oiz22) (v := (.agg (numsA .u8 due))) ?hiz22 (by kernel_rfl) (by kernel_rfl) (by kernel_rfl) ?hQz22 ?hyz22 (by assumption) ?restz22
              case hiz22 => simp only [List.getElem?_toArray, List.getElem?_cons_zero, List.getElem?_cons_succ]; rfl
              case hQz22 => exact fun _ _ _ h => h
              case hyz22 => refine yields_loadB HBa.out aggKey (sizeN HK.out.1) ?_ _ rfl rfl; rfl
              try simp only [Act.put, List.setIfInBounds_toArray, List.set_cons_zero, List.set_cons_succ]
              refine wpAnyH_ready (rs := [1]) (by kernel_rfl) (by simp) (AllReadyH.cons (o := ?oy231) ?hy231 (fun K hK => ?sy231) AllReadyH.nil)
              case hy231 => simp only [List.getElem?_toArray, List.getElem?_cons_zero, List.getElem?_cons_succ]; rfl
              go_simp
              refine (nodeKey_any x HXO.out HXE.out _).mono ?_
              rintro e w1 ⟨rfl, hx⟩
              have hH2 := hHeld.trans hx
              refine hK.out _ _ hH2 (fun _ => ?_)
              clear hHeld hK K
              have hHeld := hH2
              clear hH2
              try simp only [Act.put, List.setIfInBounds_toArray, List.set_cons_zero, List.set_cons_succ]
              refine wpAnyH_take (i := 3) (oi := ?oiz24) (v := ?vz24) ?hiz24 (by kernel_rfl) (by kernel_rfl) (by kernel_rfl) ?hQz24 ?hyz24 (by assumption) ?restz24
              case hiz24 => simp only [List.getElem?_toArray, List.getElem?_cons_zero, List.getElem?_cons_succ]; rfl
              case hQz24 => exact fun _ _ _ h => h
              case hyz24 => exact Or.inl ⟨by rfl, by intro w hSw; (try dsimp only at hSw); go_simp; with_reducible rfl⟩
              try simp only [Act.put, List.setIfInBounds_toArray, List.set_cons_zero, List.set_cons_succ]
              refine wpAnyH_done (by kernel_rfl) ?_ _
              have HX1 := Lib.hid ((HX.out.alloc (.cells x.enc.toArray 31)).trans hHeld)
              have HB1 := Lib.hid (HBa.out.ext hHeld)
              have B11 := Lib.hid (B10.out.ext hHeld)
              have c64 := B11.out.at_ 64 (Nd.at64 HXO.out)
              have c65 := B11.out.at_ 65 (Nd.at65 HXO.out)
              clear hHeld HB HBa B10
              by_cases hname : x.n = s
              · have hn2 : (x.n.toList == s.toList) = true := by rw [hname, beq_self_eq_true]
                have hrv : ckR ((L.drop (k + 1)).isEmpty, x.v, (L.drop (k + 1)).isEmpty) = (Q1, Q2, Q3) := by rw [← HQ.out, ← HF.out, ckS_hit _ _ HKEY.out hname]
                have m1 : IntKind.i64.wrap ((L.length : Int) - 1) = (L.length : Int) - 1 := by rw [IntKind.wrap_i64]; omega
                clear hname
                by_cases e : k + 1 = L.length
                · have m2 : ¬ (k : Int) < (L.length : Int) - 1 := by omega
                  rw [List.isEmpty_iff.2 (List.drop_eq_nil_of_le (by omega : L.length ≤ k + 1))] at hrv
                  have HRV := Lib.hid hrv
                  clear hrv e
                  go_wp2
                  go_quiet (fail)
                  go_wp2
                  go_ret3
                  exact ⟨by have := HRV.out; simp only [ckR, if_true, Prod.mk.injEq] at this; obtain ⟨rfl, rfl, rfl⟩ := this; rfl, HX1.out.drewN _⟩
                · have m2 : (k : Int) < (L.length : Int) - 1 := by omega
                  rw [show (L.drop (k + 1)).isEmpty = false by
                    rw [List.isEmpty_eq_false_iff]
                    intro e2
                    have := congrArg List.length e2
                    rw [List.length_drop, List.length_nil] at this
                    omega] at hrv
                  have HRV := Lib.hid hrv
                  clear hrv e
                  go_wp2
                  go_ret3
                  exact ⟨by have := HRV.out; simp only [ckR, Bool.false_eq_true, if_false, Prod.mk.injEq] at this; obtain ⟨rfl, rfl, rfl⟩ := this; rfl, HX1.out⟩
              · have hn2 : (x.n.toList == s.toList) = false := by rw [beq_eq_false_iff_ne]; exact fun e => hname (toList_inj e)
                have HRN := Lib.hid (show ckF s (if ltB s x.n then x.l else x.r) (L.drop (k + 1)) = R by rw [← HF.out, ckS_on _ _ HKEY.out hname])
                clear hname
                go_wp2_with (refine wpl_loadB B11.out aggNodeI hsz rfl _ rfl rfl ?_)
                refine (nodeNext_any x HXO.out s _).mono ?_
                rintro e w2 ⟨rfl, hx⟩
                have HX2 := Lib.hid (HX1.out.trans hx)
                have HB2 := Lib.hid (HB1.out.ext hx)
                clear hx
                generalize (if ltB s x.n then x.l else x.r) = nxt at HNK HRN ⊢
                go_wp2_with (refine wpl_storeN HB2.out aggKey HNK.out.1 (sizeN HK.out.1) rfl _ _ rfl rfl rfl rfl ?_)
                go_roundw
                case rel => exact ⟨k + 1, nxt, by omega, by go_num, HNK.out, HRN.out, HB2.out.setRow _, HX2.out.setRow (Nat.le_refl _) _⟩
                case measure => simp [intOf]; omega
            · have hneq : ∀ W, (binOp .neq 27 (.agg (numsA .u8 (hashL 5 (nodeL x)))) (.agg (numsA .u8 due))).run Try.prog W = .ok (.bool true) W := fun W => by
                have := run_neqKey _ due HKN.out HK.out W
                rw [decide_eq_false hkey] at this
                exact this
              have HRV := Lib.hid (show ckR (false, (⟨#[]⟩ : ByteArray), false) = (Q1, Q2, Q3) by rw [← HQ.out, ← HF.out, ckS_bad _ _ hkey])
              clear hkey
              go_wp2_with (first
                | (refine wpl_load ⟨g, o + k * 66, none⟩ x.enc (by rw [Nd.enc_length HXO.out]; exact aggNodeI) rfl _ rfl rfl (fun j u hu => by rw [Addr.add_lit]; exact HN.out j u hu) ?_)
                | (refine wpl_storeNewB aggNodeI HST.out rfl rfl _ _ rfl rfl rfl rfl ?_))
              refine wp_region_held_drew (S := fun W => Ext (wr.alloc (.cells x.enc.toArray 31)) W) (by kernel_rfl) (Ext.refl _).drew (fun hHeld => ?_)
              refine wpAnyH_take (i := 0) (oi := ?oiz25) (v := (.agg x.enc.toArray)) ?hiz25 (by kernel_rfl) (by kernel_rfl) (by kernel_rfl) ?hQz25 ?hyz25 (by assumption) ?restz25
              case hiz25 => simp only [List.getElem?_toArray, List.getElem?_cons_zero, List.getElem?_cons_succ]; rfl
              case hQz25 => exact fun _ _ _ h => h
              case hyz25 => refine yields_loadB B10.out aggNodeI hsz ?_ _ rfl rfl; rfl
              try simp only [Act.put, List.setIfInBounds_toArray, List.set_cons_zero, List.set_cons_succ]
              refine wpAnyH_take (i := 2) (oi := ?oiz26) (v := (.agg (numsA .u8 due))) ?hiz26 (by kernel_rfl) (by kernel_rfl) (by kernel_rfl) ?hQz26 ?hyz26 (by assumption) ?restz26
              case hiz26 => simp only [List.getElem?_toArray, List.getElem?_cons_zero, List.getElem?_cons_succ]; rfl
              case hQz26 => exact fun _ _ _ h => h
              case hyz26 => refine yields_loadB HBa.out aggKey (sizeN HK.out.1) ?_ _ rfl rfl; rfl
              try simp only [Act.put, List.setIfInBounds_toArray, List.set_cons_zero, List.set_cons_succ]
              refine wpAnyH_ready (rs := [1]) (by kernel_rfl) (by simp) (AllReadyH.cons (o := ?oy271) ?hy271 (fun K hK => ?sy271) AllReadyH.nil)
              case hy271 => simp only [List.getElem?_toArray, List.getElem?_cons_zero, List.getElem?_cons_succ]; rfl
              go_simp
              refine (nodeKey_any x HXO.out HXE.out _).mono ?_
              rintro e w1 ⟨rfl, hx⟩
              have hH2 := hHeld.trans hx
              refine hK.out _ _ hH2 (fun _ => ?_)
              clear hHeld hK K
              have hHeld := hH2
              clear hH2
              try simp only [Act.put, List.setIfInBounds_toArray, List.set_cons_zero, List.set_cons_succ]
              refine wpAnyH_take (i := 3) (oi := ?oiz28) (v := ?vz28) ?hiz28 (by kernel_rfl) (by kernel_rfl) (by kernel_rfl) ?hQz28 ?hyz28 (by assumption) ?restz28
              case hiz28 => simp only [List.getElem?_toArray, List.getElem?_cons_zero, List.getElem?_cons_succ]; rfl
              case hQz28 => exact fun _ _ _ h => h
              case hyz28 => exact Or.inl ⟨by rfl, by intro w hSw; (try dsimp only at hSw); go_simp; with_reducible rfl⟩
              try simp only [Act.put, List.setIfInBounds_toArray, List.set_cons_zero, List.set_cons_succ]
              refine wpAnyH_done (by kernel_rfl) ?_ _
              have HX1 := Lib.hid ((HX.out.alloc (.cells x.enc.toArray 31)).trans hHeld)
              have HB1 := Lib.hid (HBa.out.ext hHeld)
              have B11 := Lib.hid (B10.out.ext hHeld)
              have c64 := B11.out.at_ 64 (Nd.at64 HXO.out)
              have c65 := B11.out.at_ 65 (Nd.at65 HXO.out)
              clear hHeld HB HBa B10
              go_wp2
              go_ret3
              exact ⟨by have := HRV.out; simp only [ckR, Bool.false_eq_true, if_false, Prod.mk.injEq] at this; obtain ⟨rfl, rfl, rfl⟩ := this; rfl, HX1.out⟩
          · obtain rfl : k = L.length := by omega
            rw [List.drop_eq_nil_of_le (Nat.le_refl _), ckF_nil] at HF
            by_cases hd : due = emptyL
            · have heql : ∀ W, (binOp .neq 27 (.agg (numsA .u8 due)) (.agg (numsA .u8 emptyL))).run Try.prog W = .ok (.bool false) W := fun W => by
                have := run_neqKey due emptyL HK.out emptyL_ok W
                rw [decide_eq_true hd] at this
                exact this
              have HRV := Lib.hid (show ckR (false, (⟨#[]⟩ : ByteArray), true) = (Q1, Q2, Q3) by rw [← HQ.out, ← HF.out, decide_eq_true hd])
              clear hd
              go_wp2_with fail
              refine wp_region_held_drew (S := fun W => Ext wr W) (by kernel_rfl) (Ext.refl _).drew (fun hHeld => ?_)
              refine wpAnyH_take (i := 0) (oi := ?oiz29) (v := (.agg (numsA .u8 due))) ?hiz29 (by kernel_rfl) (by kernel_rfl) (by kernel_rfl) ?hQz29 ?hyz29 (by assumption) ?restz29
              case hiz29 => simp only [List.getElem?_toArray, List.getElem?_cons_zero, List.getElem?_cons_succ]; rfl
              case hQz29 => exact fun _ _ _ h => h
              case hyz29 => refine yields_loadB HB.out aggKey (sizeN HK.out.1) ?_ _ rfl rfl; rfl
              try simp only [Act.put, List.setIfInBounds_toArray, List.set_cons_zero, List.set_cons_succ]
              refine wpAnyH_ready (rs := [1]) (by kernel_rfl) (by simp) (AllReadyH.cons (o := ?oy301) ?hy301 (fun K hK => ?sy301) AllReadyH.nil)
              case hy301 => simp only [List.getElem?_toArray, List.getElem?_cons_zero, List.getElem?_cons_succ]; rfl
              go_simp
              refine (implEmptyMapKey_any _).mono ?_
              rintro e w1 ⟨rfl, hx⟩
              have hH2 := hHeld.trans hx
              refine hK.out _ _ hH2 (fun _ => ?_)
              clear hHeld hK K
              have hHeld := hH2
              clear hH2
              try simp only [Act.put, List.setIfInBounds_toArray, List.set_cons_zero, List.set_cons_succ]
              refine wpAnyH_take (i := 2) (oi := ?oiz31) (v := ?vz31) ?hiz31 (by kernel_rfl) (by kernel_rfl) (by kernel_rfl) ?hQz31 ?hyz31 (by assumption) ?restz31
              case hiz31 => simp only [List.getElem?_toArray, List.getElem?_cons_zero, List.getElem?_cons_succ]; rfl
              case hQz31 => exact fun _ _ _ h => h
              case hyz31 => exact Or.inl ⟨by rfl, by intro w hSw; (try dsimp only at hSw); go_simp; with_reducible rfl⟩
              try simp only [Act.put, List.setIfInBounds_toArray, List.set_cons_zero, List.set_cons_succ]
              refine wpAnyH_done (by kernel_rfl) ?_ _
              have HX1 := Lib.hid (HX.out.trans hHeld)
              clear hHeld
              go_wp2
              go_ret3
              exact ⟨by have := HRV.out; simp only [ckR, if_true, Prod.mk.injEq] at this; obtain ⟨rfl, rfl, rfl⟩ := this; rfl, HX1.out⟩
            · have heql : ∀ W, (binOp .neq 27 (.agg (numsA .u8 due)) (.agg (numsA .u8 emptyL))).run Try.prog W = .ok (.bool true) W := fun W => by
                have := run_neqKey due emptyL HK.out emptyL_ok W
                rw [decide_eq_false hd] at this
                exact this
              have HRV := Lib.hid (show ckR (false, (⟨#[]⟩ : ByteArray), false) = (Q1, Q2, Q3) by rw [← HQ.out, ← HF.out, decide_eq_false hd])
              clear hd
              go_wp2_with fail
              refine wp_region_held_drew (S := fun W => Ext wr W) (by kernel_rfl) (Ext.refl _).drew (fun hHeld => ?_)
              refine wpAnyH_take (i := 0) (oi := ?oiz32) (v := (.agg (numsA .u8 due))) ?hiz32 (by kernel_rfl) (by kernel_rfl) (by kernel_rfl) ?hQz32 ?hyz32 (by assumption) ?restz32
              case hiz32 => simp only [List.getElem?_toArray, List.getElem?_cons_zero, List.getElem?_cons_succ]; rfl
              case hQz32 => exact fun _ _ _ h => h
              case hyz32 => refine yields_loadB HB.out aggKey (sizeN HK.out.1) ?_ _ rfl rfl; rfl
              try simp only [Act.put, List.setIfInBounds_toArray, List.set_cons_zero, List.set_cons_succ]
              refine wpAnyH_ready (rs := [1]) (by kernel_rfl) (by simp) (AllReadyH.cons (o := ?oy331) ?hy331 (fun K hK => ?sy331) AllReadyH.nil)
              case hy331 => simp only [List.getElem?_toArray, List.getElem?_cons_zero, List.getElem?_cons_succ]; rfl
              go_simp
              refine (implEmptyMapKey_any _).mono ?_
              rintro e w1 ⟨rfl, hx⟩
              have hH2 := hHeld.trans hx
              refine hK.out _ _ hH2 (fun _ => ?_)
              clear hHeld hK K
              have hHeld := hH2
              clear hH2
              try simp only [Act.put, List.setIfInBounds_toArray, List.set_cons_zero, List.set_cons_succ]
              refine wpAnyH_take (i := 2) (oi := ?oiz34) (v := ?vz34) ?hiz34 (by kernel_rfl) (by kernel_rfl) (by kernel_rfl) ?hQz34 ?hyz34 (by assumption) ?restz34
              case hiz34 => simp only [List.getElem?_toArray, List.getElem?_cons_zero, List.getElem?_cons_succ]; rfl
              case hQz34 => exact fun _ _ _ h => h
              case hyz34 => exact Or.inl ⟨by rfl, by intro w hSw; (try dsimp only at hSw); go_simp; with_reducible rfl⟩
              try simp only [Act.put, List.setIfInBounds_toArray, List.set_cons_zero, List.set_cons_succ]
              refine wpAnyH_done (by kernel_rfl) ?_ _
              have HX1 := Lib.hid (HX.out.trans hHeld)
              clear hHeld
              go_wp2
              go_ret3
              exact ⟨by have := HRV.out; simp only [ckR, Bool.false_eq_true, if_false, Prod.mk.injEq] at this; obtain ⟨rfl, rfl, rfl⟩ := this; rfl, HX1.out⟩
end Go.Proofs.Ytmndkbheehcoaaa
/- Two unlike nodes with one key that a path shows: the program. No condition. -/
namespace Go.Proofs.Ytmndkbheehcoaaa
open Go.RowKit
set_option linter.unusedVariables false
set_option linter.unusedSimpArgs false

theorem getR_ok {L : List En} {s : ByteArray} (h1 : okE L = true) (h2 : nameB s = true) : (getR L s).1 = valE L s ∧ (getR L s).2 = if hasE L s then 0 else 6 := by
  rw [getR, valE, h1, h2]
  cases hasE L s <;> simp
theorem provR_ok {L : List En} {s : ByteArray} (h1 : okE L = true) (h2 : nameB s = true) : provR L s = ((trF L.length L).way s, 0) := by
  rw [provR, h1, h2]; rfl
theorem clR_bad {L : List En} {s : ByteArray} {P : List Nd} (h : (okE L && nameB s && okNs P) = false) : clR L s P = (zeroN, zeroN, 1) := by
  rw [clR, h]; rfl
theorem clR_off {L : List En} {s : ByteArray} {P : List Nd} (h : (okE L && nameB s && okNs P) = true) (h2 : (chkR (trF L.length L).key s P).2.2 ≠ 0) : clR L s P = (zeroN, zeroN, 4) := by
  rw [clR, h, if_pos rfl, if_neg h2]
theorem clR_none {L : List En} {s : ByteArray} {P : List Nd} (h : (okE L && nameB s && okNs P) = true) (h2 : (chkR (trF L.length L).key s P).2.2 = 0) (h3 : (chkR (trF L.length L).key s P).1 = hasE L s) (h4 : (chkR (trF L.length L).key s P).2.1 = valE L s) : clR L s P = (zeroN, zeroN, 6) := by
  rw [clR, h, if_pos rfl, if_pos h2, if_pos ⟨h3, h4⟩]
theorem clR_hit {L : List En} {s : ByteArray} {P : List Nd} (h : (okE L && nameB s && okNs P) = true) (h2 : (chkR (trF L.length L).key s P).2.2 = 0) (h3 : ¬ ((chkR (trF L.length L).key s P).1 = hasE L s ∧ (chkR (trF L.length L).key s P).2.1 = valE L s)) : clR L s P = (((trF L.length L).way s).getD (partN ((trF L.length L).way s) P) zeroN, P.getD (partN ((trF L.length L).way s) P) zeroN, 0) := by
  rw [clR, h, if_pos rfl, if_pos h2, if_neg h3]
theorem chk_ne {L : List En} {s : ByteArray} {P : List Nd} (h : okE L = true) (hs : nameB s = true) (hP : okNs P = true) (h2 : (chkR (trF L.length L).key s P).2.2 = 0) (h3 : ¬ ((chkR (trF L.length L).key s P).1 = hasE L s ∧ (chkR (trF L.length L).key s P).2.1 = valE L s)) : (trF L.length L).way s ≠ P := by
  intro e
  have hc := own_ck h s
  rw [e] at hc
  rw [chkR, hs, hP] at h2 h3
  simp only [Bool.and_true, if_true] at h2 h3
  split at h2
  · exact absurd h2 (by decide)
  · rename_i h64
    rw [if_neg h64, hc] at h3
    exact h3 ⟨rfl, rfl⟩
set_option maxHeartbeats 8000000 in
set_option maxRecDepth 100000 in
theorem implClash_any (v u : Value) (L : List En) (s : ByteArray) (hs : s.size ≤ 140737488351232) (P : List Nd) (w : World) (S S' : Nat → Prop) (h : RdL tEnt w S v L) (h' : RdL tNd w S' u P) :
    Calls Try.prog 17 #[v, .string s, u] w fun e w' => e = .returned (.tuple #[.agg (clR L s P).1.enc.toArray, .agg (clR L s P).2.1.enc.toArray, .int .i64 (clR L s P).2.2]) ∧ Ext w w' := by
  have H := Lib.hid h
  have H' := Lib.hid h'
  have hokL := h.choose_spec.choose_spec.2.2.2.2
  have hokP := Lib.hid h'.choose_spec.choose_spec.2.2.2.2
  have hc := fun W hW => validEntries_any v L W S hW
  have hn := isName_any s hs
  have ha := fun W hW => areNodes_any u P W S' hW
  have HZ := Lib.hid (Nd.st zeroN_ok)
  have hne : w.heap.size ≠ w.heap.size + 1 := by omega
  have hne' : w.heap.size + 1 ≠ w.heap.size := by omega
  have ht := fun (hb : okE L = true) W hW => treeOf_any v L (okE_incs hb).2 (good_of hb hokL) W S hW
  have hg := fun W hW => implGetEntry_any v L s hs W S hW
  have hp := fun W hW => implProveName_any v L s hs W S hW
  have hk := fun root hroot W hW => implCheckName_any root hroot s hs u P W S' hW
  obtain ⟨A, cap, rfl, hcap, hlen, _⟩ := h
  obtain ⟨A', cap', rfl, hcap', hlen', _⟩ := h'
  cases hb : okE L with
  | false =>
    have e0 : clR L s P = (zeroN, zeroN, 1) := clR_bad (by rw [hb]; rfl)
    simp only [e0]
    simp only [hb] at hc
    clear hb ht e0 hokL hg hp hk ha
    go_enter Try.func17, Try.ntmps17
    go_wp2_with fail
    refine (hc _ (H.out.ext (by decide) ((ext_alloc _ _).alloc _))).mono ?_
    rintro e w1 ⟨rfl, hx⟩
    have B6 := Lib.hid (((Blk.new w 31 _).alloc _).ext hx)
    have B7 := Lib.hid ((Blk.new' (g := w.heap.size + 1) (by simp) 31 _).ext hx)
    have XW := Lib.hid (((ext_alloc w _).alloc _).trans hx)
    clear hx
    go_wp2_with (first
      | (refine wpl_buildN rfl rfl built_zero ?_)
      | (refine wpl_storeB B6.out aggNodeI HZ.out rfl rfl _ _ rfl rfl rfl rfl ?_)
      | (refine wpl_storeB (B7.out.row_far hne' _) aggNodeI HZ.out rfl rfl _ _ rfl rfl rfl rfl ?_))
    refine bodyPost_ret (results_bbt rfl _ rfl rfl aggNodeI HZ.out.size HZ.out.size ((B6.out.setRow _).row_far hne _) ((B7.out.row_far hne' _).setRow _) rfl) rfl ?_
    exact ⟨rfl, (XW.out.setRow (Nat.le_refl _) _).setRow (Nat.le_succ _) _⟩
  | true =>
    simp only [hb] at hc
    cases hb2 : nameB s with
    | false =>
      have e0 : clR L s P = (zeroN, zeroN, 1) := clR_bad (by rw [hb, hb2]; rfl)
      simp only [e0]
      simp only [hb2] at hn
      clear hb hb2 ht e0 hokL hg hp hk ha
      go_enter Try.func17, Try.ntmps17
      go_wp2_with fail
      refine (hc _ (H.out.ext (by decide) ((ext_alloc _ _).alloc _))).mono ?_
      rintro e w1 ⟨rfl, hx⟩
      have B6 := Lib.hid (((Blk.new w 31 _).alloc _).ext hx)
      have B7 := Lib.hid ((Blk.new' (g := w.heap.size + 1) (by simp) 31 _).ext hx)
      have XW := Lib.hid (((ext_alloc w _).alloc _).trans hx)
      clear hx
      go_wp2_with fail
      refine (hn _).mono ?_
      rintro e w' ⟨rfl, rfl⟩
      go_wp2_with (first
        | (refine wpl_buildN rfl rfl built_zero ?_)
        | (refine wpl_storeB B6.out aggNodeI HZ.out rfl rfl _ _ rfl rfl rfl rfl ?_)
        | (refine wpl_storeB (B7.out.row_far hne' _) aggNodeI HZ.out rfl rfl _ _ rfl rfl rfl rfl ?_))
      refine bodyPost_ret (results_bbt rfl _ rfl rfl aggNodeI HZ.out.size HZ.out.size ((B6.out.setRow _).row_far hne _) ((B7.out.row_far hne' _).setRow _) rfl) rfl ?_
      exact ⟨rfl, (XW.out.setRow (Nat.le_refl _) _).setRow (Nat.le_succ _) _⟩
    | true =>
      simp only [hb2] at hn
      cases hb3 : okNs P with
      | false =>
        have e0 : clR L s P = (zeroN, zeroN, 1) := clR_bad (by rw [hb, hb2, hb3]; rfl)
        simp only [e0]
        simp only [hb3] at ha
        clear hb hb2 hb3 ht e0 hokL hg hp hk
        go_enter Try.func17, Try.ntmps17
        go_wp2_with fail
        refine (hc _ (H.out.ext (by decide) ((ext_alloc _ _).alloc _))).mono ?_
        rintro e w1 ⟨rfl, hx⟩
        have B6 := Lib.hid (((Blk.new w 31 _).alloc _).ext hx)
        have B7 := Lib.hid ((Blk.new' (g := w.heap.size + 1) (by simp) 31 _).ext hx)
        have XW := Lib.hid (((ext_alloc w _).alloc _).trans hx)
        clear hx
        go_wp2_with fail
        refine (hn _).mono ?_
        rintro e w' ⟨rfl, rfl⟩
        go_wp2_with fail
        refine (ha _ (H'.out.ext (by decide) XW.out)).mono ?_
        rintro e w2 ⟨rfl, hx⟩
        replace B6 := Lib.hid (B6.out.ext hx)
        replace B7 := Lib.hid (B7.out.ext hx)
        replace XW := Lib.hid (XW.out.trans hx)
        clear hx
        go_wp2_with (first
          | (refine wpl_buildN rfl rfl built_zero ?_)
          | (refine wpl_storeB B6.out aggNodeI HZ.out rfl rfl _ _ rfl rfl rfl rfl ?_)
          | (refine wpl_storeB (B7.out.row_far hne' _) aggNodeI HZ.out rfl rfl _ _ rfl rfl rfl rfl ?_))
        refine bodyPost_ret (results_bbt rfl _ rfl rfl aggNodeI HZ.out.size HZ.out.size ((B6.out.setRow _).row_far hne _) ((B7.out.row_far hne' _).setRow _) rfl) rfl ?_
        exact ⟨rfl, (XW.out.setRow (Nat.le_refl _) _).setRow (Nat.le_succ _) _⟩
      | true =>
        simp only [hb3] at ha
        replace ht := ht hb
        have hall : (okE L && nameB s && okNs P) = true := by rw [hb, hb2, hb3]; rfl
        have HTO := Lib.hid (trF_ok L.length L (good_of hb hokL))
        replace hk := hk (trF L.length L).key (Tr.key_ok _)
        obtain ⟨g1, g2⟩ := getR_ok hb hb2
        rw [g1, g2] at hg
        clear g1 g2
        by_cases h0 : (chkR (trF L.length L).key s P).2.2 = 0
        · obtain ⟨c1, c2, c3, hck⟩ : ∃ c1 c2 c3, chkR (trF L.length L).key s P = (c1, c2, c3) := ⟨_, _, _, rfl⟩
          obtain ⟨ve, hve⟩ : ∃ ve, valE L s = ve := ⟨_, rfl⟩
          obtain ⟨he, hhe⟩ : ∃ he, hasE L s = he := ⟨_, rfl⟩
          by_cases h3 : c1 = he
          · by_cases h4 : c2 = ve
            · have e0 : clR L s P = (zeroN, zeroN, 6) := clR_none hall h0 (by rw [hck, hhe]; exact h3) (by rw [hck, hve]; exact h4)
              simp only [e0]
              subst h3 h4
              simp only [hck] at hk h0
              simp only [hve, hhe] at hg
              subst h0
              have q1 : (c2.toList == c2.toList) = true := by simp
              obtain ⟨T, hT⟩ : ∃ T, trF L.length L = T := ⟨_, rfl⟩
              simp only [hT] at ht HTO hk
              clear e0 hck hve hhe hb hb2 hb3 hokL hp hall hT
              cases c1 with
              | true =>
                simp only [if_true, Bool.false_eq_true, if_false] at hg
                go_enter Try.func17, Try.ntmps17
                go_wp2_with fail
                refine (hc _ (H.out.ext (by decide) ((ext_alloc _ _).alloc _))).mono ?_
                rintro e w1 ⟨rfl, hx⟩
                have B6 := Lib.hid (((Blk.new w 31 _).alloc _).ext hx)
                have B7 := Lib.hid ((Blk.new' (g := w.heap.size + 1) (by simp) 31 _).ext hx)
                have XW := Lib.hid (((ext_alloc w _).alloc _).trans hx)
                clear hx
                go_wp2_with fail
                refine (hn _).mono ?_
                rintro e w' ⟨rfl, rfl⟩
                go_wp2_with fail
                refine (ha _ (H'.out.ext (by decide) XW.out)).mono ?_
                rintro e w2 ⟨rfl, hx⟩
                replace B6 := Lib.hid (B6.out.ext hx)
                replace B7 := Lib.hid (B7.out.ext hx)
                replace XW := Lib.hid (XW.out.trans hx)
                clear hx
                go_wp2_with fail
                refine (ht _ (H.out.ext (by decide) XW.out)).mono ?_
                rintro e w2 ⟨v2, rfl, htr, hx⟩
                replace B6 := Lib.hid (B6.out.ext hx)
                replace B7 := Lib.hid (B7.out.ext hx)
                replace XW := Lib.hid (XW.out.trans hx)
                have HT := Lib.hid htr
                clear hx htr
                go_wp2_with fail
                refine (treeKey_any T HTO.out _ _ HT.out).mono ?_
                rintro e w3 ⟨rfl, hx⟩
                replace B6 := Lib.hid (B6.out.ext hx)
                replace B7 := Lib.hid (B7.out.ext hx)
                replace XW := Lib.hid (XW.out.trans hx)
                clear hx HT
                go_wp2_with fail
                refine (hk _ (H'.out.ext (by decide) XW.out)).mono ?_
                rintro e w2 ⟨rfl, hx⟩
                replace B6 := Lib.hid (B6.out.ext hx)
                replace B7 := Lib.hid (B7.out.ext hx)
                replace XW := Lib.hid (XW.out.trans hx)
                clear hx
                go_wp2_with fail
                refine (hg _ (H.out.ext (by decide) XW.out)).mono ?_
                rintro e w2 ⟨rfl, hx⟩
                replace B6 := Lib.hid (B6.out.ext hx)
                replace B7 := Lib.hid (B7.out.ext hx)
                replace XW := Lib.hid (XW.out.trans hx)
                clear hx
                go_wp2_with (first
                  | (refine wpl_buildN rfl rfl built_zero ?_)
                  | (refine wpl_storeB B6.out aggNodeI HZ.out rfl rfl _ _ rfl rfl rfl rfl ?_)
                  | (refine wpl_storeB (B7.out.row_far hne' _) aggNodeI HZ.out rfl rfl _ _ rfl rfl rfl rfl ?_))
                refine bodyPost_ret (results_bbt rfl _ rfl rfl aggNodeI HZ.out.size HZ.out.size ((B6.out.setRow _).row_far hne _) ((B7.out.row_far hne' _).setRow _) rfl) rfl ?_
                exact ⟨rfl, (XW.out.setRow (Nat.le_refl _) _).setRow (Nat.le_succ _) _⟩
              | false =>
                simp only [if_true, Bool.false_eq_true, if_false] at hg
                go_enter Try.func17, Try.ntmps17
                go_wp2_with fail
                refine (hc _ (H.out.ext (by decide) ((ext_alloc _ _).alloc _))).mono ?_
                rintro e w1 ⟨rfl, hx⟩
                have B6 := Lib.hid (((Blk.new w 31 _).alloc _).ext hx)
                have B7 := Lib.hid ((Blk.new' (g := w.heap.size + 1) (by simp) 31 _).ext hx)
                have XW := Lib.hid (((ext_alloc w _).alloc _).trans hx)
                clear hx
                go_wp2_with fail
                refine (hn _).mono ?_
                rintro e w' ⟨rfl, rfl⟩
                go_wp2_with fail
                refine (ha _ (H'.out.ext (by decide) XW.out)).mono ?_
                rintro e w2 ⟨rfl, hx⟩
                replace B6 := Lib.hid (B6.out.ext hx)
                replace B7 := Lib.hid (B7.out.ext hx)
                replace XW := Lib.hid (XW.out.trans hx)
                clear hx
                go_wp2_with fail
                refine (ht _ (H.out.ext (by decide) XW.out)).mono ?_
                rintro e w2 ⟨v2, rfl, htr, hx⟩
                replace B6 := Lib.hid (B6.out.ext hx)
                replace B7 := Lib.hid (B7.out.ext hx)
                replace XW := Lib.hid (XW.out.trans hx)
                have HT := Lib.hid htr
                clear hx htr
                go_wp2_with fail
                refine (treeKey_any T HTO.out _ _ HT.out).mono ?_
                rintro e w3 ⟨rfl, hx⟩
                replace B6 := Lib.hid (B6.out.ext hx)
                replace B7 := Lib.hid (B7.out.ext hx)
                replace XW := Lib.hid (XW.out.trans hx)
                clear hx HT
                go_wp2_with fail
                refine (hk _ (H'.out.ext (by decide) XW.out)).mono ?_
                rintro e w2 ⟨rfl, hx⟩
                replace B6 := Lib.hid (B6.out.ext hx)
                replace B7 := Lib.hid (B7.out.ext hx)
                replace XW := Lib.hid (XW.out.trans hx)
                clear hx
                go_wp2_with fail
                refine (hg _ (H.out.ext (by decide) XW.out)).mono ?_
                rintro e w2 ⟨rfl, hx⟩
                replace B6 := Lib.hid (B6.out.ext hx)
                replace B7 := Lib.hid (B7.out.ext hx)
                replace XW := Lib.hid (XW.out.trans hx)
                clear hx
                go_wp2_with (first
                  | (refine wpl_buildN rfl rfl built_zero ?_)
                  | (refine wpl_storeB B6.out aggNodeI HZ.out rfl rfl _ _ rfl rfl rfl rfl ?_)
                  | (refine wpl_storeB (B7.out.row_far hne' _) aggNodeI HZ.out rfl rfl _ _ rfl rfl rfl rfl ?_))
                refine bodyPost_ret (results_bbt rfl _ rfl rfl aggNodeI HZ.out.size HZ.out.size ((B6.out.setRow _).row_far hne _) ((B7.out.row_far hne' _).setRow _) rfl) rfl ?_
                exact ⟨rfl, (XW.out.setRow (Nat.le_refl _) _).setRow (Nat.le_succ _) _⟩
            · have hno : ¬ ((chkR (trF L.length L).key s P).1 = hasE L s ∧ (chkR (trF L.length L).key s P).2.1 = valE L s) := fun h => h4 (by have := h.2; rw [hck, hve] at this; exact this)
              have q1 : (c2.toList == ve.toList) = false := by rw [beq_eq_false_iff_ne]; exact fun e => h4 (toList_inj e)
              have HNE := chk_ne hb hb2 hb3 h0 hno
              have HCL := clR_hit hall h0 hno
              have FO := Lib.hid (way_full (good_of hb hokL) s)
              have FP := Lib.hid (okNs_full hb3)
              have hp2 := provR_ok hb hb2
              rw [hp2] at hp
              simp only [hck] at hk h0
              simp only [hve, hhe] at hg
              subst h0
              obtain ⟨X, Y, c, hR⟩ : ∃ X Y c, clR L s P = (X, Y, c) := ⟨_, _, _, rfl⟩
              rw [hR]
              have HR := Lib.hid hR
              obtain ⟨O, hO⟩ : ∃ O, (trF L.length L).way s = O := ⟨_, rfl⟩
              have HOO := Lib.hid (show ∀ x ∈ O, tNd.ok x from fun x hx => Tr.sel_ok (fun o => ltB s o) (fun o => ltB o s) (trF L.length L) HTO.out x (by rw [← hO] at hx; exact hx))
              rw [hO] at HCL hp HNE FO
              have NE := Lib.hid HNE
              replace HCL := Lib.hid HCL
              obtain ⟨T, hT⟩ : ∃ T, trF L.length L = T := ⟨_, rfl⟩
              simp only [hT] at ht HTO hk
              clear hck hve hhe hb hb2 hb3 hokL hall hT hO hp2 HNE hR hno
              subst h3
              clear h4
              cases c1 with
              | true =>
                simp only [if_true, Bool.false_eq_true, if_false] at hg
                go_enter Try.func17, Try.ntmps17
                go_wp2_with fail
                refine (hc _ (H.out.ext (by decide) ((ext_alloc _ _).alloc _))).mono ?_
                rintro e w1 ⟨rfl, hx⟩
                have B6 := Lib.hid (((Blk.new w 31 _).alloc _).ext hx)
                have B7 := Lib.hid ((Blk.new' (g := w.heap.size + 1) (by simp) 31 _).ext hx)
                have XW := Lib.hid (((ext_alloc w _).alloc _).trans hx)
                clear hx
                go_wp2_with fail
                refine (hn _).mono ?_
                rintro e w' ⟨rfl, rfl⟩
                go_wp2_with fail
                refine (ha _ (H'.out.ext (by decide) XW.out)).mono ?_
                rintro e w2 ⟨rfl, hx⟩
                replace B6 := Lib.hid (B6.out.ext hx)
                replace B7 := Lib.hid (B7.out.ext hx)
                replace XW := Lib.hid (XW.out.trans hx)
                clear hx
                go_wp2_with fail
                refine (ht _ (H.out.ext (by decide) XW.out)).mono ?_
                rintro e w2 ⟨v2, rfl, htr, hx⟩
                replace B6 := Lib.hid (B6.out.ext hx)
                replace B7 := Lib.hid (B7.out.ext hx)
                replace XW := Lib.hid (XW.out.trans hx)
                have HT := Lib.hid htr
                clear hx htr
                go_wp2_with fail
                refine (treeKey_any T HTO.out _ _ HT.out).mono ?_
                rintro e w3 ⟨rfl, hx⟩
                replace B6 := Lib.hid (B6.out.ext hx)
                replace B7 := Lib.hid (B7.out.ext hx)
                replace XW := Lib.hid (XW.out.trans hx)
                clear hx HT
                go_wp2_with fail
                refine (hk _ (H'.out.ext (by decide) XW.out)).mono ?_
                rintro e w2 ⟨rfl, hx⟩
                replace B6 := Lib.hid (B6.out.ext hx)
                replace B7 := Lib.hid (B7.out.ext hx)
                replace XW := Lib.hid (XW.out.trans hx)
                clear hx
                go_wp2_with fail
                refine (hg _ (H.out.ext (by decide) XW.out)).mono ?_
                rintro e w2 ⟨rfl, hx⟩
                replace B6 := Lib.hid (B6.out.ext hx)
                replace B7 := Lib.hid (B7.out.ext hx)
                replace XW := Lib.hid (XW.out.trans hx)
                clear hx
                go_wp2_with fail
                refine (hp _ (H.out.ext (by decide) XW.out)).mono ?_
                rintro e w2 ⟨v6, rfl, ho, hx⟩
                replace B6 := Lib.hid (B6.out.ext hx)
                replace B7 := Lib.hid (B7.out.ext hx)
                replace XW := Lib.hid (XW.out.trans hx)
                have HO := Lib.hid ho
                obtain ⟨A6, q6, rfl⟩ := ho.shape
                clear ho hx
                go_wp2_with fail
                go_loopw [17] (fun i wr => ∃ k : Nat, k ≤ O.length ∧ k ≤ P.length ∧ i = .int .i64 k ∧ (∀ p, p < k → O.getD p zeroN = P.getD p zeroN) ∧ Ext w2 wr) (fun i _ => P.length - (intOf i).toNat)
                case atStart => exact ⟨0, by omega, by omega, rfl, fun p hp => by omega, Ext.refl _⟩
                case round =>
                  obtain ⟨k, hk1, hk2, rfl, hm, hx⟩ := hrel
                  have HX := Lib.hid hx
                  have HM := Lib.hid hm
                  clear hx hm
                  have hat1 := fun W S1 (hW : RdL tNd W S1 (.slice A6 O.length q6) O) => clashAt_any (.slice A6 O.length q6) O k W S1 hW
                  have hat2 := fun W hW => clashAt_any (.slice A' P.length cap') P k W S' hW
                  have HXO := Lib.hid (getD_ok HOO.out k)
                  have HYO := Lib.hid (getD_ok hokP.out k)
                  by_cases he : O.getD k zeroN = P.getD k zeroN
                  · obtain ⟨l1, l2⟩ := both FO.out FP.out NE.out k hk1 hk2 HM.out he
                    have HE := Lib.hid he
                    have hmx : (k : Int) < max (O.length : Int) (P.length : Int) := by omega
                    have heq : ∀ W, (binOp .eql 31 (.agg (O.getD k zeroN).enc.toArray) (.agg (P.getD k zeroN).enc.toArray)).run Try.prog W = .ok (.bool true) W := fun W => by rw [run_eqNd _ _ HXO.out HYO.out W, decide_eq_true he]
                    clear he
                    generalize hxx : O.getD k zeroN = x at hat1 heq HXO HE
                    generalize hyy : P.getD k zeroN = y at hat2 heq HYO HE
                    have HXX := Lib.hid hxx
                    have HYY := Lib.hid hyy
                    clear hxx hyy
                    go_wp2_with fail
                    refine (hat1 _ _ ((HO.out.ext HX.out).rd)).mono ?_
                    rintro e w3 ⟨rfl, hx⟩
                    replace HX := Lib.hid (HX.out.trans hx)
                    clear hx
                    go_wp2_with fail
                    refine (hat2 _ (H'.out.ext (by decide) (XW.out.trans HX.out))).mono ?_
                    rintro e w4 ⟨rfl, hx⟩
                    replace HX := Lib.hid (HX.out.trans hx)
                    clear hx
                    go_wp2
                    go_roundw
                    case rel => exact ⟨k + 1, by omega, by omega, by go_num, fun p hp => by
                      by_cases e : p = k
                      · subst e; rw [HXX.out, HYY.out]; exact HE.out
                      · exact HM.out p (by omega), HX.out⟩
                    case measure => simp [intOf]; omega
                  · have heq : ∀ W, (binOp .eql 31 (.agg (O.getD k zeroN).enc.toArray) (.agg (P.getD k zeroN).enc.toArray)).run Try.prog W = .ok (.bool false) W := fun W => by rw [run_eqNd _ _ HXO.out HYO.out W, decide_eq_false he]
                    have HE := Lib.hid (show X = O.getD k zeroN ∧ Y = P.getD k zeroN ∧ c = 0 by
                      have h1 := HR.out.symm.trans HCL.out
                      rw [partN_eq O P k hk1 hk2 HM.out (.inr (.inr he))] at h1
                      injection h1 with h1 h2
                      injection h2 with h2 h3
                      exact ⟨h1, h2, h3⟩)
                    clear he
                    generalize O.getD k zeroN = x at hat1 heq HXO HE
                    generalize P.getD k zeroN = y at hat2 heq HYO HE
                    have HSX := Lib.hid (Nd.st HXO.out)
                    have HSY := Lib.hid (Nd.st HYO.out)
                    go_wp2_with fail
                    refine (hat1 _ _ ((HO.out.ext HX.out).rd)).mono ?_
                    rintro e w3 ⟨rfl, hx⟩
                    replace HX := Lib.hid (HX.out.trans hx)
                    clear hx
                    go_wp2_with fail
                    refine (hat2 _ (H'.out.ext (by decide) (XW.out.trans HX.out))).mono ?_
                    rintro e w4 ⟨rfl, hx⟩
                    replace HX := Lib.hid (HX.out.trans hx)
                    clear hx
                    go_wp2_with fail
                    go_wp2_with fail
                    refine (hat1 _ _ ((HO.out.ext HX.out).rd)).mono ?_
                    rintro e w3 ⟨rfl, hx⟩
                    replace HX := Lib.hid (HX.out.trans hx)
                    clear hx
                    go_wp2_with fail
                    refine (hat2 _ (H'.out.ext (by decide) (XW.out.trans HX.out))).mono ?_
                    rintro e w4 ⟨rfl, hx⟩
                    replace HX := Lib.hid (HX.out.trans hx)
                    clear hx
                    have C6 := Lib.hid (B6.out.ext HX.out)
                    have C7 := Lib.hid (B7.out.ext HX.out)
                    have CW := Lib.hid (XW.out.trans HX.out)
                    go_wp2_with (first
                      | (refine wpl_storeB C6.out aggNodeI HSX.out rfl rfl _ _ rfl rfl rfl rfl ?_)
                      | (refine wpl_storeB (C7.out.row_far hne' _) aggNodeI HSY.out rfl rfl _ _ rfl rfl rfl rfl ?_))
                    refine bodyPost_ret (results_bbt rfl _ rfl rfl aggNodeI HSX.out.size HSY.out.size ((C6.out.setRow _).row_far hne _) ((C7.out.row_far hne' _).setRow _) rfl) rfl ?_
                    exact ⟨by rw [HE.out.1, HE.out.2.1, HE.out.2.2]; rfl, (CW.out.setRow (Nat.le_refl _) _).setRow (Nat.le_succ _) _⟩
              | false =>
                simp only [if_true, Bool.false_eq_true, if_false] at hg
                go_enter Try.func17, Try.ntmps17
                go_wp2_with fail
                refine (hc _ (H.out.ext (by decide) ((ext_alloc _ _).alloc _))).mono ?_
                rintro e w1 ⟨rfl, hx⟩
                have B6 := Lib.hid (((Blk.new w 31 _).alloc _).ext hx)
                have B7 := Lib.hid ((Blk.new' (g := w.heap.size + 1) (by simp) 31 _).ext hx)
                have XW := Lib.hid (((ext_alloc w _).alloc _).trans hx)
                clear hx
                go_wp2_with fail
                refine (hn _).mono ?_
                rintro e w' ⟨rfl, rfl⟩
                go_wp2_with fail
                refine (ha _ (H'.out.ext (by decide) XW.out)).mono ?_
                rintro e w2 ⟨rfl, hx⟩
                replace B6 := Lib.hid (B6.out.ext hx)
                replace B7 := Lib.hid (B7.out.ext hx)
                replace XW := Lib.hid (XW.out.trans hx)
                clear hx
                go_wp2_with fail
                refine (ht _ (H.out.ext (by decide) XW.out)).mono ?_
                rintro e w2 ⟨v2, rfl, htr, hx⟩
                replace B6 := Lib.hid (B6.out.ext hx)
                replace B7 := Lib.hid (B7.out.ext hx)
                replace XW := Lib.hid (XW.out.trans hx)
                have HT := Lib.hid htr
                clear hx htr
                go_wp2_with fail
                refine (treeKey_any T HTO.out _ _ HT.out).mono ?_
                rintro e w3 ⟨rfl, hx⟩
                replace B6 := Lib.hid (B6.out.ext hx)
                replace B7 := Lib.hid (B7.out.ext hx)
                replace XW := Lib.hid (XW.out.trans hx)
                clear hx HT
                go_wp2_with fail
                refine (hk _ (H'.out.ext (by decide) XW.out)).mono ?_
                rintro e w2 ⟨rfl, hx⟩
                replace B6 := Lib.hid (B6.out.ext hx)
                replace B7 := Lib.hid (B7.out.ext hx)
                replace XW := Lib.hid (XW.out.trans hx)
                clear hx
                go_wp2_with fail
                refine (hg _ (H.out.ext (by decide) XW.out)).mono ?_
                rintro e w2 ⟨rfl, hx⟩
                replace B6 := Lib.hid (B6.out.ext hx)
                replace B7 := Lib.hid (B7.out.ext hx)
                replace XW := Lib.hid (XW.out.trans hx)
                clear hx
                go_wp2_with fail
                refine (hp _ (H.out.ext (by decide) XW.out)).mono ?_
                rintro e w2 ⟨v6, rfl, ho, hx⟩
                replace B6 := Lib.hid (B6.out.ext hx)
                replace B7 := Lib.hid (B7.out.ext hx)
                replace XW := Lib.hid (XW.out.trans hx)
                have HO := Lib.hid ho
                obtain ⟨A6, q6, rfl⟩ := ho.shape
                clear ho hx
                go_wp2_with fail
                go_loopw [17] (fun i wr => ∃ k : Nat, k ≤ O.length ∧ k ≤ P.length ∧ i = .int .i64 k ∧ (∀ p, p < k → O.getD p zeroN = P.getD p zeroN) ∧ Ext w2 wr) (fun i _ => P.length - (intOf i).toNat)
                case atStart => exact ⟨0, by omega, by omega, rfl, fun p hp => by omega, Ext.refl _⟩
                case round =>
                  obtain ⟨k, hk1, hk2, rfl, hm, hx⟩ := hrel
                  have HX := Lib.hid hx
                  have HM := Lib.hid hm
                  clear hx hm
                  have hat1 := fun W S1 (hW : RdL tNd W S1 (.slice A6 O.length q6) O) => clashAt_any (.slice A6 O.length q6) O k W S1 hW
                  have hat2 := fun W hW => clashAt_any (.slice A' P.length cap') P k W S' hW
                  have HXO := Lib.hid (getD_ok HOO.out k)
                  have HYO := Lib.hid (getD_ok hokP.out k)
                  by_cases he : O.getD k zeroN = P.getD k zeroN
                  · obtain ⟨l1, l2⟩ := both FO.out FP.out NE.out k hk1 hk2 HM.out he
                    have HE := Lib.hid he
                    have hmx : (k : Int) < max (O.length : Int) (P.length : Int) := by omega
                    have heq : ∀ W, (binOp .eql 31 (.agg (O.getD k zeroN).enc.toArray) (.agg (P.getD k zeroN).enc.toArray)).run Try.prog W = .ok (.bool true) W := fun W => by rw [run_eqNd _ _ HXO.out HYO.out W, decide_eq_true he]
                    clear he
                    generalize hxx : O.getD k zeroN = x at hat1 heq HXO HE
                    generalize hyy : P.getD k zeroN = y at hat2 heq HYO HE
                    have HXX := Lib.hid hxx
                    have HYY := Lib.hid hyy
                    clear hxx hyy
                    go_wp2_with fail
                    refine (hat1 _ _ ((HO.out.ext HX.out).rd)).mono ?_
                    rintro e w3 ⟨rfl, hx⟩
                    replace HX := Lib.hid (HX.out.trans hx)
                    clear hx
                    go_wp2_with fail
                    refine (hat2 _ (H'.out.ext (by decide) (XW.out.trans HX.out))).mono ?_
                    rintro e w4 ⟨rfl, hx⟩
                    replace HX := Lib.hid (HX.out.trans hx)
                    clear hx
                    go_wp2
                    go_roundw
                    case rel => exact ⟨k + 1, by omega, by omega, by go_num, fun p hp => by
                      by_cases e : p = k
                      · subst e; rw [HXX.out, HYY.out]; exact HE.out
                      · exact HM.out p (by omega), HX.out⟩
                    case measure => simp [intOf]; omega
                  · have heq : ∀ W, (binOp .eql 31 (.agg (O.getD k zeroN).enc.toArray) (.agg (P.getD k zeroN).enc.toArray)).run Try.prog W = .ok (.bool false) W := fun W => by rw [run_eqNd _ _ HXO.out HYO.out W, decide_eq_false he]
                    have HE := Lib.hid (show X = O.getD k zeroN ∧ Y = P.getD k zeroN ∧ c = 0 by
                      have h1 := HR.out.symm.trans HCL.out
                      rw [partN_eq O P k hk1 hk2 HM.out (.inr (.inr he))] at h1
                      injection h1 with h1 h2
                      injection h2 with h2 h3
                      exact ⟨h1, h2, h3⟩)
                    clear he
                    generalize O.getD k zeroN = x at hat1 heq HXO HE
                    generalize P.getD k zeroN = y at hat2 heq HYO HE
                    have HSX := Lib.hid (Nd.st HXO.out)
                    have HSY := Lib.hid (Nd.st HYO.out)
                    go_wp2_with fail
                    refine (hat1 _ _ ((HO.out.ext HX.out).rd)).mono ?_
                    rintro e w3 ⟨rfl, hx⟩
                    replace HX := Lib.hid (HX.out.trans hx)
                    clear hx
                    go_wp2_with fail
                    refine (hat2 _ (H'.out.ext (by decide) (XW.out.trans HX.out))).mono ?_
                    rintro e w4 ⟨rfl, hx⟩
                    replace HX := Lib.hid (HX.out.trans hx)
                    clear hx
                    go_wp2_with fail
                    go_wp2_with fail
                    refine (hat1 _ _ ((HO.out.ext HX.out).rd)).mono ?_
                    rintro e w3 ⟨rfl, hx⟩
                    replace HX := Lib.hid (HX.out.trans hx)
                    clear hx
                    go_wp2_with fail
                    refine (hat2 _ (H'.out.ext (by decide) (XW.out.trans HX.out))).mono ?_
                    rintro e w4 ⟨rfl, hx⟩
                    replace HX := Lib.hid (HX.out.trans hx)
                    clear hx
                    have C6 := Lib.hid (B6.out.ext HX.out)
                    have C7 := Lib.hid (B7.out.ext HX.out)
                    have CW := Lib.hid (XW.out.trans HX.out)
                    go_wp2_with (first
                      | (refine wpl_storeB C6.out aggNodeI HSX.out rfl rfl _ _ rfl rfl rfl rfl ?_)
                      | (refine wpl_storeB (C7.out.row_far hne' _) aggNodeI HSY.out rfl rfl _ _ rfl rfl rfl rfl ?_))
                    refine bodyPost_ret (results_bbt rfl _ rfl rfl aggNodeI HSX.out.size HSY.out.size ((C6.out.setRow _).row_far hne _) ((C7.out.row_far hne' _).setRow _) rfl) rfl ?_
                    exact ⟨by rw [HE.out.1, HE.out.2.1, HE.out.2.2]; rfl, (CW.out.setRow (Nat.le_refl _) _).setRow (Nat.le_succ _) _⟩
          · have hno : ¬ ((chkR (trF L.length L).key s P).1 = hasE L s ∧ (chkR (trF L.length L).key s P).2.1 = valE L s) := fun h => h3 (by have := h.1; rw [hck, hhe] at this; exact this)
            have HNE := chk_ne hb hb2 hb3 h0 hno
            have HCL := clR_hit hall h0 hno
            have FO := Lib.hid (way_full (good_of hb hokL) s)
            have FP := Lib.hid (okNs_full hb3)
            have hp2 := provR_ok hb hb2
            rw [hp2] at hp
            simp only [hck] at hk h0
            simp only [hve, hhe] at hg
            subst h0
            obtain ⟨X, Y, c, hR⟩ : ∃ X Y c, clR L s P = (X, Y, c) := ⟨_, _, _, rfl⟩
            rw [hR]
            have HR := Lib.hid hR
            obtain ⟨O, hO⟩ : ∃ O, (trF L.length L).way s = O := ⟨_, rfl⟩
            have HOO := Lib.hid (show ∀ x ∈ O, tNd.ok x from fun x hx => Tr.sel_ok (fun o => ltB s o) (fun o => ltB o s) (trF L.length L) HTO.out x (by rw [← hO] at hx; exact hx))
            rw [hO] at HCL hp HNE FO
            have NE := Lib.hid HNE
            replace HCL := Lib.hid HCL
            obtain ⟨T, hT⟩ : ∃ T, trF L.length L = T := ⟨_, rfl⟩
            simp only [hT] at ht HTO hk
            clear hck hve hhe hb hb2 hb3 hokL hall hT hO hp2 HNE hR hno
            cases c1 with
            | true =>
              obtain rfl : he = false := by cases he with
                | true => exact absurd rfl h3
                | false => rfl
              clear h3
              simp only [if_true, Bool.false_eq_true, if_false] at hg
              go_enter Try.func17, Try.ntmps17
              go_wp2_with fail
              refine (hc _ (H.out.ext (by decide) ((ext_alloc _ _).alloc _))).mono ?_
              rintro e w1 ⟨rfl, hx⟩
              have B6 := Lib.hid (((Blk.new w 31 _).alloc _).ext hx)
              have B7 := Lib.hid ((Blk.new' (g := w.heap.size + 1) (by simp) 31 _).ext hx)
              have XW := Lib.hid (((ext_alloc w _).alloc _).trans hx)
              clear hx
              go_wp2_with fail
              refine (hn _).mono ?_
              rintro e w' ⟨rfl, rfl⟩
              go_wp2_with fail
              refine (ha _ (H'.out.ext (by decide) XW.out)).mono ?_
              rintro e w2 ⟨rfl, hx⟩
              replace B6 := Lib.hid (B6.out.ext hx)
              replace B7 := Lib.hid (B7.out.ext hx)
              replace XW := Lib.hid (XW.out.trans hx)
              clear hx
              go_wp2_with fail
              refine (ht _ (H.out.ext (by decide) XW.out)).mono ?_
              rintro e w2 ⟨v2, rfl, htr, hx⟩
              replace B6 := Lib.hid (B6.out.ext hx)
              replace B7 := Lib.hid (B7.out.ext hx)
              replace XW := Lib.hid (XW.out.trans hx)
              have HT := Lib.hid htr
              clear hx htr
              go_wp2_with fail
              refine (treeKey_any T HTO.out _ _ HT.out).mono ?_
              rintro e w3 ⟨rfl, hx⟩
              replace B6 := Lib.hid (B6.out.ext hx)
              replace B7 := Lib.hid (B7.out.ext hx)
              replace XW := Lib.hid (XW.out.trans hx)
              clear hx HT
              go_wp2_with fail
              refine (hk _ (H'.out.ext (by decide) XW.out)).mono ?_
              rintro e w2 ⟨rfl, hx⟩
              replace B6 := Lib.hid (B6.out.ext hx)
              replace B7 := Lib.hid (B7.out.ext hx)
              replace XW := Lib.hid (XW.out.trans hx)
              clear hx
              go_wp2_with fail
              refine (hg _ (H.out.ext (by decide) XW.out)).mono ?_
              rintro e w2 ⟨rfl, hx⟩
              replace B6 := Lib.hid (B6.out.ext hx)
              replace B7 := Lib.hid (B7.out.ext hx)
              replace XW := Lib.hid (XW.out.trans hx)
              clear hx
              go_wp2_with fail
              refine (hp _ (H.out.ext (by decide) XW.out)).mono ?_
              rintro e w2 ⟨v6, rfl, ho, hx⟩
              replace B6 := Lib.hid (B6.out.ext hx)
              replace B7 := Lib.hid (B7.out.ext hx)
              replace XW := Lib.hid (XW.out.trans hx)
              have HO := Lib.hid ho
              obtain ⟨A6, q6, rfl⟩ := ho.shape
              clear ho hx
              go_wp2_with fail
              go_loopw [17] (fun i wr => ∃ k : Nat, k ≤ O.length ∧ k ≤ P.length ∧ i = .int .i64 k ∧ (∀ p, p < k → O.getD p zeroN = P.getD p zeroN) ∧ Ext w2 wr) (fun i _ => P.length - (intOf i).toNat)
              case atStart => exact ⟨0, by omega, by omega, rfl, fun p hp => by omega, Ext.refl _⟩
              case round =>
                obtain ⟨k, hk1, hk2, rfl, hm, hx⟩ := hrel
                have HX := Lib.hid hx
                have HM := Lib.hid hm
                clear hx hm
                have hat1 := fun W S1 (hW : RdL tNd W S1 (.slice A6 O.length q6) O) => clashAt_any (.slice A6 O.length q6) O k W S1 hW
                have hat2 := fun W hW => clashAt_any (.slice A' P.length cap') P k W S' hW
                have HXO := Lib.hid (getD_ok HOO.out k)
                have HYO := Lib.hid (getD_ok hokP.out k)
                by_cases he : O.getD k zeroN = P.getD k zeroN
                · obtain ⟨l1, l2⟩ := both FO.out FP.out NE.out k hk1 hk2 HM.out he
                  have HE := Lib.hid he
                  have hmx : (k : Int) < max (O.length : Int) (P.length : Int) := by omega
                  have heq : ∀ W, (binOp .eql 31 (.agg (O.getD k zeroN).enc.toArray) (.agg (P.getD k zeroN).enc.toArray)).run Try.prog W = .ok (.bool true) W := fun W => by rw [run_eqNd _ _ HXO.out HYO.out W, decide_eq_true he]
                  clear he
                  generalize hxx : O.getD k zeroN = x at hat1 heq HXO HE
                  generalize hyy : P.getD k zeroN = y at hat2 heq HYO HE
                  have HXX := Lib.hid hxx
                  have HYY := Lib.hid hyy
                  clear hxx hyy
                  go_wp2_with fail
                  refine (hat1 _ _ ((HO.out.ext HX.out).rd)).mono ?_
                  rintro e w3 ⟨rfl, hx⟩
                  replace HX := Lib.hid (HX.out.trans hx)
                  clear hx
                  go_wp2_with fail
                  refine (hat2 _ (H'.out.ext (by decide) (XW.out.trans HX.out))).mono ?_
                  rintro e w4 ⟨rfl, hx⟩
                  replace HX := Lib.hid (HX.out.trans hx)
                  clear hx
                  go_wp2
                  go_roundw
                  case rel => exact ⟨k + 1, by omega, by omega, by go_num, fun p hp => by
                    by_cases e : p = k
                    · subst e; rw [HXX.out, HYY.out]; exact HE.out
                    · exact HM.out p (by omega), HX.out⟩
                  case measure => simp [intOf]; omega
                · have heq : ∀ W, (binOp .eql 31 (.agg (O.getD k zeroN).enc.toArray) (.agg (P.getD k zeroN).enc.toArray)).run Try.prog W = .ok (.bool false) W := fun W => by rw [run_eqNd _ _ HXO.out HYO.out W, decide_eq_false he]
                  have HE := Lib.hid (show X = O.getD k zeroN ∧ Y = P.getD k zeroN ∧ c = 0 by
                    have h1 := HR.out.symm.trans HCL.out
                    rw [partN_eq O P k hk1 hk2 HM.out (.inr (.inr he))] at h1
                    injection h1 with h1 h2
                    injection h2 with h2 h3
                    exact ⟨h1, h2, h3⟩)
                  clear he
                  generalize O.getD k zeroN = x at hat1 heq HXO HE
                  generalize P.getD k zeroN = y at hat2 heq HYO HE
                  have HSX := Lib.hid (Nd.st HXO.out)
                  have HSY := Lib.hid (Nd.st HYO.out)
                  go_wp2_with fail
                  refine (hat1 _ _ ((HO.out.ext HX.out).rd)).mono ?_
                  rintro e w3 ⟨rfl, hx⟩
                  replace HX := Lib.hid (HX.out.trans hx)
                  clear hx
                  go_wp2_with fail
                  refine (hat2 _ (H'.out.ext (by decide) (XW.out.trans HX.out))).mono ?_
                  rintro e w4 ⟨rfl, hx⟩
                  replace HX := Lib.hid (HX.out.trans hx)
                  clear hx
                  go_wp2_with fail
                  go_wp2_with fail
                  refine (hat1 _ _ ((HO.out.ext HX.out).rd)).mono ?_
                  rintro e w3 ⟨rfl, hx⟩
                  replace HX := Lib.hid (HX.out.trans hx)
                  clear hx
                  go_wp2_with fail
                  refine (hat2 _ (H'.out.ext (by decide) (XW.out.trans HX.out))).mono ?_
                  rintro e w4 ⟨rfl, hx⟩
                  replace HX := Lib.hid (HX.out.trans hx)
                  clear hx
                  have C6 := Lib.hid (B6.out.ext HX.out)
                  have C7 := Lib.hid (B7.out.ext HX.out)
                  have CW := Lib.hid (XW.out.trans HX.out)
                  go_wp2_with (first
                    | (refine wpl_storeB C6.out aggNodeI HSX.out rfl rfl _ _ rfl rfl rfl rfl ?_)
                    | (refine wpl_storeB (C7.out.row_far hne' _) aggNodeI HSY.out rfl rfl _ _ rfl rfl rfl rfl ?_))
                  refine bodyPost_ret (results_bbt rfl _ rfl rfl aggNodeI HSX.out.size HSY.out.size ((C6.out.setRow _).row_far hne _) ((C7.out.row_far hne' _).setRow _) rfl) rfl ?_
                  exact ⟨by rw [HE.out.1, HE.out.2.1, HE.out.2.2]; rfl, (CW.out.setRow (Nat.le_refl _) _).setRow (Nat.le_succ _) _⟩
            | false =>
              obtain rfl : he = true := by cases he with
                | true => rfl
                | false => exact absurd rfl h3
              clear h3
              simp only [if_true, Bool.false_eq_true, if_false] at hg
              go_enter Try.func17, Try.ntmps17
              go_wp2_with fail
              refine (hc _ (H.out.ext (by decide) ((ext_alloc _ _).alloc _))).mono ?_
              rintro e w1 ⟨rfl, hx⟩
              have B6 := Lib.hid (((Blk.new w 31 _).alloc _).ext hx)
              have B7 := Lib.hid ((Blk.new' (g := w.heap.size + 1) (by simp) 31 _).ext hx)
              have XW := Lib.hid (((ext_alloc w _).alloc _).trans hx)
              clear hx
              go_wp2_with fail
              refine (hn _).mono ?_
              rintro e w' ⟨rfl, rfl⟩
              go_wp2_with fail
              refine (ha _ (H'.out.ext (by decide) XW.out)).mono ?_
              rintro e w2 ⟨rfl, hx⟩
              replace B6 := Lib.hid (B6.out.ext hx)
              replace B7 := Lib.hid (B7.out.ext hx)
              replace XW := Lib.hid (XW.out.trans hx)
              clear hx
              go_wp2_with fail
              refine (ht _ (H.out.ext (by decide) XW.out)).mono ?_
              rintro e w2 ⟨v2, rfl, htr, hx⟩
              replace B6 := Lib.hid (B6.out.ext hx)
              replace B7 := Lib.hid (B7.out.ext hx)
              replace XW := Lib.hid (XW.out.trans hx)
              have HT := Lib.hid htr
              clear hx htr
              go_wp2_with fail
              refine (treeKey_any T HTO.out _ _ HT.out).mono ?_
              rintro e w3 ⟨rfl, hx⟩
              replace B6 := Lib.hid (B6.out.ext hx)
              replace B7 := Lib.hid (B7.out.ext hx)
              replace XW := Lib.hid (XW.out.trans hx)
              clear hx HT
              go_wp2_with fail
              refine (hk _ (H'.out.ext (by decide) XW.out)).mono ?_
              rintro e w2 ⟨rfl, hx⟩
              replace B6 := Lib.hid (B6.out.ext hx)
              replace B7 := Lib.hid (B7.out.ext hx)
              replace XW := Lib.hid (XW.out.trans hx)
              clear hx
              go_wp2_with fail
              refine (hg _ (H.out.ext (by decide) XW.out)).mono ?_
              rintro e w2 ⟨rfl, hx⟩
              replace B6 := Lib.hid (B6.out.ext hx)
              replace B7 := Lib.hid (B7.out.ext hx)
              replace XW := Lib.hid (XW.out.trans hx)
              clear hx
              go_wp2_with fail
              refine (hp _ (H.out.ext (by decide) XW.out)).mono ?_
              rintro e w2 ⟨v6, rfl, ho, hx⟩
              replace B6 := Lib.hid (B6.out.ext hx)
              replace B7 := Lib.hid (B7.out.ext hx)
              replace XW := Lib.hid (XW.out.trans hx)
              have HO := Lib.hid ho
              obtain ⟨A6, q6, rfl⟩ := ho.shape
              clear ho hx
              go_wp2_with fail
              go_loopw [17] (fun i wr => ∃ k : Nat, k ≤ O.length ∧ k ≤ P.length ∧ i = .int .i64 k ∧ (∀ p, p < k → O.getD p zeroN = P.getD p zeroN) ∧ Ext w2 wr) (fun i _ => P.length - (intOf i).toNat)
              case atStart => exact ⟨0, by omega, by omega, rfl, fun p hp => by omega, Ext.refl _⟩
              case round =>
                obtain ⟨k, hk1, hk2, rfl, hm, hx⟩ := hrel
                have HX := Lib.hid hx
                have HM := Lib.hid hm
                clear hx hm
                have hat1 := fun W S1 (hW : RdL tNd W S1 (.slice A6 O.length q6) O) => clashAt_any (.slice A6 O.length q6) O k W S1 hW
                have hat2 := fun W hW => clashAt_any (.slice A' P.length cap') P k W S' hW
                have HXO := Lib.hid (getD_ok HOO.out k)
                have HYO := Lib.hid (getD_ok hokP.out k)
                by_cases he : O.getD k zeroN = P.getD k zeroN
                · obtain ⟨l1, l2⟩ := both FO.out FP.out NE.out k hk1 hk2 HM.out he
                  have HE := Lib.hid he
                  have hmx : (k : Int) < max (O.length : Int) (P.length : Int) := by omega
                  have heq : ∀ W, (binOp .eql 31 (.agg (O.getD k zeroN).enc.toArray) (.agg (P.getD k zeroN).enc.toArray)).run Try.prog W = .ok (.bool true) W := fun W => by rw [run_eqNd _ _ HXO.out HYO.out W, decide_eq_true he]
                  clear he
                  generalize hxx : O.getD k zeroN = x at hat1 heq HXO HE
                  generalize hyy : P.getD k zeroN = y at hat2 heq HYO HE
                  have HXX := Lib.hid hxx
                  have HYY := Lib.hid hyy
                  clear hxx hyy
                  go_wp2_with fail
                  refine (hat1 _ _ ((HO.out.ext HX.out).rd)).mono ?_
                  rintro e w3 ⟨rfl, hx⟩
                  replace HX := Lib.hid (HX.out.trans hx)
                  clear hx
                  go_wp2_with fail
                  refine (hat2 _ (H'.out.ext (by decide) (XW.out.trans HX.out))).mono ?_
                  rintro e w4 ⟨rfl, hx⟩
                  replace HX := Lib.hid (HX.out.trans hx)
                  clear hx
                  go_wp2
                  go_roundw
                  case rel => exact ⟨k + 1, by omega, by omega, by go_num, fun p hp => by
                    by_cases e : p = k
                    · subst e; rw [HXX.out, HYY.out]; exact HE.out
                    · exact HM.out p (by omega), HX.out⟩
                  case measure => simp [intOf]; omega
                · have heq : ∀ W, (binOp .eql 31 (.agg (O.getD k zeroN).enc.toArray) (.agg (P.getD k zeroN).enc.toArray)).run Try.prog W = .ok (.bool false) W := fun W => by rw [run_eqNd _ _ HXO.out HYO.out W, decide_eq_false he]
                  have HE := Lib.hid (show X = O.getD k zeroN ∧ Y = P.getD k zeroN ∧ c = 0 by
                    have h1 := HR.out.symm.trans HCL.out
                    rw [partN_eq O P k hk1 hk2 HM.out (.inr (.inr he))] at h1
                    injection h1 with h1 h2
                    injection h2 with h2 h3
                    exact ⟨h1, h2, h3⟩)
                  clear he
                  generalize O.getD k zeroN = x at hat1 heq HXO HE
                  generalize P.getD k zeroN = y at hat2 heq HYO HE
                  have HSX := Lib.hid (Nd.st HXO.out)
                  have HSY := Lib.hid (Nd.st HYO.out)
                  go_wp2_with fail
                  refine (hat1 _ _ ((HO.out.ext HX.out).rd)).mono ?_
                  rintro e w3 ⟨rfl, hx⟩
                  replace HX := Lib.hid (HX.out.trans hx)
                  clear hx
                  go_wp2_with fail
                  refine (hat2 _ (H'.out.ext (by decide) (XW.out.trans HX.out))).mono ?_
                  rintro e w4 ⟨rfl, hx⟩
                  replace HX := Lib.hid (HX.out.trans hx)
                  clear hx
                  go_wp2_with fail
                  go_wp2_with fail
                  refine (hat1 _ _ ((HO.out.ext HX.out).rd)).mono ?_
                  rintro e w3 ⟨rfl, hx⟩
                  replace HX := Lib.hid (HX.out.trans hx)
                  clear hx
                  go_wp2_with fail
                  refine (hat2 _ (H'.out.ext (by decide) (XW.out.trans HX.out))).mono ?_
                  rintro e w4 ⟨rfl, hx⟩
                  replace HX := Lib.hid (HX.out.trans hx)
                  clear hx
                  have C6 := Lib.hid (B6.out.ext HX.out)
                  have C7 := Lib.hid (B7.out.ext HX.out)
                  have CW := Lib.hid (XW.out.trans HX.out)
                  go_wp2_with (first
                    | (refine wpl_storeB C6.out aggNodeI HSX.out rfl rfl _ _ rfl rfl rfl rfl ?_)
                    | (refine wpl_storeB (C7.out.row_far hne' _) aggNodeI HSY.out rfl rfl _ _ rfl rfl rfl rfl ?_))
                  refine bodyPost_ret (results_bbt rfl _ rfl rfl aggNodeI HSX.out.size HSY.out.size ((C6.out.setRow _).row_far hne _) ((C7.out.row_far hne' _).setRow _) rfl) rfl ?_
                  exact ⟨by rw [HE.out.1, HE.out.2.1, HE.out.2.2]; rfl, (CW.out.setRow (Nat.le_refl _) _).setRow (Nat.le_succ _) _⟩
        · have e0 : clR L s P = (zeroN, zeroN, 4) := clR_off hall h0
          simp only [e0]
          obtain ⟨c1, c2, c3, hck⟩ : ∃ c1 c2 c3, chkR (trF L.length L).key s P = (c1, c2, c3) := ⟨_, _, _, rfl⟩
          simp only [hck] at hk h0
          have q3 : (c3 != 0) = true := by rw [bne_iff_ne]; exact h0
          obtain ⟨T, hT⟩ : ∃ T, trF L.length L = T := ⟨_, rfl⟩
          simp only [hT] at ht HTO hk
          clear e0 hck hb hb2 hb3 hokL hp hall hT hg h0
          go_enter Try.func17, Try.ntmps17
          go_wp2_with fail
          refine (hc _ (H.out.ext (by decide) ((ext_alloc _ _).alloc _))).mono ?_
          rintro e w1 ⟨rfl, hx⟩
          have B6 := Lib.hid (((Blk.new w 31 _).alloc _).ext hx)
          have B7 := Lib.hid ((Blk.new' (g := w.heap.size + 1) (by simp) 31 _).ext hx)
          have XW := Lib.hid (((ext_alloc w _).alloc _).trans hx)
          clear hx
          go_wp2_with fail
          refine (hn _).mono ?_
          rintro e w' ⟨rfl, rfl⟩
          go_wp2_with fail
          refine (ha _ (H'.out.ext (by decide) XW.out)).mono ?_
          rintro e w2 ⟨rfl, hx⟩
          replace B6 := Lib.hid (B6.out.ext hx)
          replace B7 := Lib.hid (B7.out.ext hx)
          replace XW := Lib.hid (XW.out.trans hx)
          clear hx
          go_wp2_with fail
          refine (ht _ (H.out.ext (by decide) XW.out)).mono ?_
          rintro e w2 ⟨v2, rfl, htr, hx⟩
          replace B6 := Lib.hid (B6.out.ext hx)
          replace B7 := Lib.hid (B7.out.ext hx)
          replace XW := Lib.hid (XW.out.trans hx)
          have HT := Lib.hid htr
          clear hx htr
          go_wp2_with fail
          refine (treeKey_any T HTO.out _ _ HT.out).mono ?_
          rintro e w3 ⟨rfl, hx⟩
          replace B6 := Lib.hid (B6.out.ext hx)
          replace B7 := Lib.hid (B7.out.ext hx)
          replace XW := Lib.hid (XW.out.trans hx)
          clear hx HT
          go_wp2_with fail
          refine (hk _ (H'.out.ext (by decide) XW.out)).mono ?_
          rintro e w2 ⟨rfl, hx⟩
          replace B6 := Lib.hid (B6.out.ext hx)
          replace B7 := Lib.hid (B7.out.ext hx)
          replace XW := Lib.hid (XW.out.trans hx)
          clear hx
          go_wp2_with (first
            | (refine wpl_buildN rfl rfl built_zero ?_)
            | (refine wpl_storeB B6.out aggNodeI HZ.out rfl rfl _ _ rfl rfl rfl rfl ?_)
            | (refine wpl_storeB (B7.out.row_far hne' _) aggNodeI HZ.out rfl rfl _ _ rfl rfl rfl rfl ?_))
          refine bodyPost_ret (results_bbt rfl _ rfl rfl aggNodeI HZ.out.size HZ.out.size ((B6.out.setRow _).row_far hne _) ((B7.out.row_far hne' _).setRow _) rfl) rfl ?_
          exact ⟨rfl, (XW.out.setRow (Nat.le_refl _) _).setRow (Nat.le_succ _) _⟩
end Go.Proofs.Ytmndkbheehcoaaa
/- A path that is looked at: the reference. No condition. -/
namespace Go.Proofs.Ytmndkbheehcoaaa
open Go.RowKit
set_option linter.unusedVariables false
set_option linter.unusedSimpArgs false

set_option maxHeartbeats 1000000 in
set_option maxRecDepth 100000 in
theorem l04Check_any (root : List Int) (hroot : K32 root) (s : ByteArray) (v : Value) (L : List Nd) (hN : okNs L = true) (w : World) (S : Nat → Prop) (h : RdL tNd w S v L) :
    Calls Try.prog 80 #[.agg (numsA .u8 root), .string s, v] w fun e w' => e = .returned (.tuple #[.bool (ckF s root L).1, .string (ckF s root L).2.1, .bool (ckF s root L).2.2]) ∧ Ext w w' := by
  obtain ⟨A, cap, rfl, hcap, hlen, hrd, hok⟩ := h
  have Hrd := Lib.hid hrd
  have Hok := Lib.hid hok
  have HEN := Lib.hid (fun k (hk : k < L.length) => okNs_at hN hk)
  have hr1 := hroot.1
  obtain ⟨R, hR⟩ : ∃ R, ckF s root L = R := ⟨_, rfl⟩
  rw [hR]
  have HR := Lib.hid hR
  clear hrd hok hN hR
  go_enter Try.func80, Try.ntmps80
  go_wp2_with (first
    | (refine wpl_loadN (Blk.new w 27 (numsA .u8 root)) aggKey hr1 rfl _ rfl rfl ?_)
    | (refine wpl_storeN (Blk.new' (g := w.heap.size + 1) (w := w.alloc _) (by simp) 27 _) aggKey hr1 rfl rfl _ _ rfl rfl rfl rfl ?_))
  go_loopw [10] (fun i wr => ∃ (k : Nat) (due : List Int), k ≤ L.length ∧ i = .int .i64 k ∧ K32 due ∧ ckF s due (L.drop k) = R ∧ Blk wr (w.heap.size + 1) 27 (numsA .u8 due) ∧ Ext w wr) (fun i _ => L.length - (intOf i).toNat)
  case atStart => exact ⟨0, root, by omega, rfl, hroot, by rw [List.drop_zero]; exact HR.out, (Blk.new' (g := w.heap.size + 1) (w := w.alloc _) (by simp) 27 _).setRow _, ((ext_alloc _ _).alloc _).setRow (by omega) _⟩
  case round =>
    obtain ⟨k, due, hk, rfl, hK, hF, hB, hx⟩ := hrel
    have HX := Lib.hid hx
    have HK := Lib.hid hK
    have HF := Lib.hid hF
    have HB := Lib.hid hB
    clear hx hK hF hB HR hroot
    by_cases hlt : k < L.length
    · obtain ⟨g, o, rfl, hs0, hc⟩ := Hrd.out.elem Hok.out k hlt
      have HD := Lib.hid (List.drop_eq_getElem_cons hlt)
      have hxo : L[k].ok := Hok.out _ (List.getElem_mem hlt)
      have hxe := HEN.out k hlt
      have hn : ∀ W, Ext wr W → ∀ j u, L[k].enc.toArray[j]? = some u → W.cell? ⟨g, o + k * 66 + j, none⟩ = some u := fun W hW j u hu => hW.cell (HX.out.cell (hc j u (by rwa [List.getElem?_toArray] at hu)))
      generalize L[k] = x at HD hxo hxe hn hc
      rw [HD.out, ckF_cons] at HF
      have HXO := Lib.hid hxo
      have HXE := Lib.hid hxe
      have HN := Lib.hid hn
      have HXL := Lib.hid hxo.1
      have HXR := Lib.hid hxo.2.1
      have HKN := Lib.hid (hashL_ok 5 (nodeL x))
      have hi : (0 : Int) ≤ (k : Int) := by omega
      have hi2 : (k : Int) < (L.length : Int) := by omega
      clear hc hxo hxe hn
      by_cases hkey : hashL 5 (nodeL x) = due
      · have hneq : ∀ W, (binOp .neq 27 (.agg (numsA .u8 (hashL 5 (nodeL x)))) (.agg (numsA .u8 due))).run Try.prog W = .ok (.bool false) W := fun W => by
          have := run_neqKey _ due HKN.out HK.out W
          rw [decide_eq_true hkey] at this
          exact this
        have HKEY := Lib.hid hkey
        clear hkey
        go_wp2_with fail
        refine wp_region_held_drew (S := fun W => Ext wr W) (by kernel_rfl) (Ext.refl _).drew (fun hHeld => ?_)
        refine wpAnyH_take (i := 0) (oi := ?oiz1) (v := ?vz1) ?hiz1 (by kernel_rfl) (by kernel_rfl) (by kernel_rfl) ?hQz1 ?hyz1 (by assumption) ?restz1
        case hiz1 => simp only [List.getElem?_toArray, List.getElem?_cons_zero, List.getElem?_cons_succ]; rfl
        case hQz1 => exact fun _ _ _ h => h
        case hyz1 => exact Or.inl ⟨by rfl, by intro w hSw; (try dsimp only at hSw); go_simp; with_reducible rfl⟩
        try simp only [Act.put, List.setIfInBounds_toArray, List.set_cons_zero, List.set_cons_succ]
        refine wpAnyH_take (i := 2) (oi := ?oiz2) (v := (.agg (numsA .u8 due))) ?hiz2 (by kernel_rfl) (by kernel_rfl) (by kernel_rfl) ?hQz2 ?hyz2 (by assumption) ?restz2
        case hiz2 => simp only [List.getElem?_toArray, List.getElem?_cons_zero, List.getElem?_cons_succ]; rfl
        case hQz2 => exact fun _ _ _ h => h
        case hyz2 => refine yields_loadB HB.out aggKey (sizeN HK.out.1) ?_ _ rfl rfl; rfl
        try simp only [Act.put, List.setIfInBounds_toArray, List.set_cons_zero, List.set_cons_succ]
        refine wpAnyH_ready (rs := [1]) (by kernel_rfl) (by simp) (AllReadyH.cons (o := ?oy31) ?hy31 (fun K hK => ?sy31) AllReadyH.nil)
        case hy31 => simp only [List.getElem?_toArray, List.getElem?_cons_zero, List.getElem?_cons_succ]; rfl
        go_simp
        refine (l04NodeKeyAt_any x HXO.out HXE.out g (o + k * 66) _ (fun W hW => HN.out W (hHeld.trans hW))).mono ?_
        rintro e w1 ⟨rfl, hx⟩
        have hH2 := hHeld.trans hx
        refine hK.out _ _ hH2 (fun _ => ?_)
        clear hHeld hK K
        have hHeld := hH2
        clear hH2
        try simp only [Act.put, List.setIfInBounds_toArray, List.set_cons_zero, List.set_cons_succ]
        refine wpAnyH_take (i := 3) (oi := ?oiz4) (v := ?vz4) ?hiz4 (by kernel_rfl) (by kernel_rfl) (by kernel_rfl) ?hQz4 ?hyz4 (by assumption) ?restz4
        case hiz4 => simp only [List.getElem?_toArray, List.getElem?_cons_zero, List.getElem?_cons_succ]; rfl
        case hQz4 => exact fun _ _ _ h => h
        case hyz4 => exact Or.inl ⟨by rfl, by intro w hSw; (try dsimp only at hSw); go_simp; with_reducible rfl⟩
        try simp only [Act.put, List.setIfInBounds_toArray, List.set_cons_zero, List.set_cons_succ]
        refine wpAnyH_done (by kernel_rfl) ?_ _
        have HX1 := Lib.hid (HX.out.trans hHeld)
        have HB1 := Lib.hid (HB.out.ext hHeld)
        have c64 := HN.out w1 hHeld 64 _ (Nd.at64 HXO.out)
        have c65 := HN.out w1 hHeld 65 _ (Nd.at65 HXO.out)
        have c65b : w1.cell? ⟨g, o + k * 66 + 64 + 1, none⟩ = some (.string x.v) := c65
        have HN1 := Lib.hid (fun W hW => HN.out W (hHeld.trans hW))
        clear hHeld HB
        have hlast : ((L.drop (k + 1)).isEmpty = true ∧ ((k : Int) == (L.length : Int) - 1) = true) ∨ ((L.drop (k + 1)).isEmpty = false ∧ ((k : Int) == (L.length : Int) - 1) = false) := by
          by_cases e : k + 1 = L.length
          · exact .inl ⟨by rw [List.isEmpty_iff, List.drop_eq_nil_of_le (by omega)], by rw [beq_iff_eq]; omega⟩
          · refine .inr ⟨?_, by rw [beq_eq_false_iff_ne]; omega⟩
            rw [List.isEmpty_eq_false_iff]
            intro e2
            have := congrArg List.length e2
            rw [List.length_drop, List.length_nil] at this
            omega
        by_cases hname : x.n = s
        · have hn2 : (x.n.toList == s.toList) = true := by rw [hname, beq_self_eq_true]
          have HQ := Lib.hid (show ((L.drop (k + 1)).isEmpty, x.v, (L.drop (k + 1)).isEmpty) = R by rw [← HF.out, ckS_hit _ _ HKEY.out hname])
          have m1 : IntKind.i64.wrap ((L.length : Int) - 1) = (L.length : Int) - 1 := by rw [IntKind.wrap_i64]; omega
          clear hname
          rcases hlast with ⟨e1, e2⟩ | ⟨e1, e2⟩
          all_goals
            rw [e1] at HQ
            clear e1
            go_wp2
            go_quiet (fail)
            go_wp2
            go_ret3
            exact ⟨by rw [← HQ.out]; rfl, HX1.out.drewN _⟩
        · have hn2 : (x.n.toList == s.toList) = false := by rw [beq_eq_false_iff_ne]; exact fun e => hname (toList_inj e)
          have HQ := Lib.hid (show ckF s (if ltB s x.n then x.l else x.r) (L.drop (k + 1)) = R by rw [← HF.out, ckS_on _ _ HKEY.out hname])
          have hlt2 := ltB_eq s x.n
          clear hname hlast
          cases hl : ltB s x.n with
          | true =>
            rw [hl] at hlt2 HQ
            go_wp2_with (first
              | (refine wpl_load ⟨g, o + k * 66, none⟩ (nums .u8 x.l) (by rw [nums_length, HXL.out.1]; exact aggKey) rfl _ rfl rfl (fun j u hu => by rw [Addr.add_lit]; have := HN1.out _ (Ext.refl _) (0 + j) u (Nd.left HXO.out j u (by rwa [numsA, List.getElem?_toArray])); rwa [Nat.zero_add] at this) ?_)
              | (refine wpl_storeN HB1.out aggKey HXL.out.1 (sizeN HK.out.1) rfl _ _ rfl rfl rfl rfl ?_))
            go_roundw
            case rel => exact ⟨k + 1, x.l, by omega, by go_num, HXL.out, HQ.out, HB1.out.setRow _, HX1.out.setRow (by omega) _⟩
            case measure => simp [intOf]; omega
          | false =>
            rw [hl] at hlt2 HQ
            go_wp2_with (first
              | (refine wpl_load ⟨g, o + k * 66 + 32, none⟩ (nums .u8 x.r) (by rw [nums_length, HXR.out.1]; exact aggKey) rfl _ rfl rfl (fun j u hu => by rw [Addr.add_lit, Nat.add_assoc]; exact HN1.out _ (Ext.refl _) (32 + j) u (Nd.right HXO.out j u (by rwa [numsA, List.getElem?_toArray]))) ?_)
              | (refine wpl_storeN HB1.out aggKey HXR.out.1 (sizeN HK.out.1) rfl _ _ rfl rfl rfl rfl ?_))
            go_roundw
            case rel => exact ⟨k + 1, x.r, by omega, by go_num, HXR.out, HQ.out, HB1.out.setRow _, HX1.out.setRow (by omega) _⟩
            case measure => simp [intOf]; omega
      · have hneq : ∀ W, (binOp .neq 27 (.agg (numsA .u8 (hashL 5 (nodeL x)))) (.agg (numsA .u8 due))).run Try.prog W = .ok (.bool true) W := fun W => by
          have := run_neqKey _ due HKN.out HK.out W
          rw [decide_eq_false hkey] at this
          exact this
        have HQ := Lib.hid (show (false, (⟨#[]⟩ : ByteArray), false) = R by rw [← HF.out, ckS_bad _ _ hkey])
        clear hkey
        go_wp2_with fail
        refine wp_region_held_drew (S := fun W => Ext wr W) (by kernel_rfl) (Ext.refl _).drew (fun hHeld => ?_)
        refine wpAnyH_take (i := 0) (oi := ?oiz5) (v := ?vz5) ?hiz5 (by kernel_rfl) (by kernel_rfl) (by kernel_rfl) ?hQz5 ?hyz5 (by assumption) ?restz5
        case hiz5 => simp only [List.getElem?_toArray, List.getElem?_cons_zero, List.getElem?_cons_succ]; rfl
        case hQz5 => exact fun _ _ _ h => h
        case hyz5 => exact Or.inl ⟨by rfl, by intro w hSw; (try dsimp only at hSw); go_simp; with_reducible rfl⟩
        try simp only [Act.put, List.setIfInBounds_toArray, List.set_cons_zero, List.set_cons_succ]
        refine wpAnyH_take (i := 2) (oi := ?oiz6) (v := (.agg (numsA .u8 due))) ?hiz6 (by kernel_rfl) (by kernel_rfl) (by kernel_rfl) ?hQz6 ?hyz6 (by assumption) ?restz6
        case hiz6 => simp only [List.getElem?_toArray, List.getElem?_cons_zero, List.getElem?_cons_succ]; rfl
        case hQz6 => exact fun _ _ _ h => h
        case hyz6 => refine yields_loadB HB.out aggKey (sizeN HK.out.1) ?_ _ rfl rfl; rfl
        try simp only [Act.put, List.setIfInBounds_toArray, List.set_cons_zero, List.set_cons_succ]
        refine wpAnyH_ready (rs := [1]) (by kernel_rfl) (by simp) (AllReadyH.cons (o := ?oy71) ?hy71 (fun K hK => ?sy71) AllReadyH.nil)
        case hy71 => simp only [List.getElem?_toArray, List.getElem?_cons_zero, List.getElem?_cons_succ]; rfl
        go_simp
        refine (l04NodeKeyAt_any x HXO.out HXE.out g (o + k * 66) _ (fun W hW => HN.out W (hHeld.trans hW))).mono ?_
        rintro e w1 ⟨rfl, hx⟩
        have hH2 := hHeld.trans hx
        refine hK.out _ _ hH2 (fun _ => ?_)
        clear hHeld hK K
        have hHeld := hH2
        clear hH2
        try simp only [Act.put, List.setIfInBounds_toArray, List.set_cons_zero, List.set_cons_succ]
        refine wpAnyH_take (i := 3) (oi := ?oiz8) (v := ?vz8) ?hiz8 (by kernel_rfl) (by kernel_rfl) (by kernel_rfl) ?hQz8 ?hyz8 (by assumption) ?restz8
        case hiz8 => simp only [List.getElem?_toArray, List.getElem?_cons_zero, List.getElem?_cons_succ]; rfl
        case hQz8 => exact fun _ _ _ h => h
        case hyz8 => exact Or.inl ⟨by rfl, by intro w hSw; (try dsimp only at hSw); go_simp; with_reducible rfl⟩
        try simp only [Act.put, List.setIfInBounds_toArray, List.set_cons_zero, List.set_cons_succ]
        refine wpAnyH_done (by kernel_rfl) ?_ _
        have HX1 := Lib.hid (HX.out.trans hHeld)
        have HB1 := Lib.hid (HB.out.ext hHeld)
        have c64 := HN.out w1 hHeld 64 _ (Nd.at64 HXO.out)
        have c65 := HN.out w1 hHeld 65 _ (Nd.at65 HXO.out)
        have c65b : w1.cell? ⟨g, o + k * 66 + 64 + 1, none⟩ = some (.string x.v) := c65
        have HN1 := Lib.hid (fun W hW => HN.out W (hHeld.trans hW))
        clear hHeld HB
        go_wp2
        go_ret3
        exact ⟨by rw [← HQ.out]; rfl, HX1.out⟩
    · obtain rfl : k = L.length := by omega
      rw [List.drop_eq_nil_of_le (Nat.le_refl _), ckF_nil] at HF
      by_cases hd : due = emptyL
      · have heql : ∀ W, (binOp .eql 27 (.agg (numsA .u8 due)) (.agg (numsA .u8 emptyL))).run Try.prog W = .ok (.bool true) W := fun W => by
          have := run_eqKey due emptyL HK.out emptyL_ok W
          rw [decide_eq_true hd] at this
          exact this
        rw [decide_eq_true hd] at HF
        clear hd
        go_wp2_with fail
        refine wp_region_held_drew (S := fun W => Ext wr W) (by kernel_rfl) (Ext.refl _).drew (fun hHeld => ?_)
        refine wpAnyH_take (i := 0) (oi := ?oiz9) (v := (.agg (numsA .u8 due))) ?hiz9 (by kernel_rfl) (by kernel_rfl) (by kernel_rfl) ?hQz9 ?hyz9 (by assumption) ?restz9
        case hiz9 => simp only [List.getElem?_toArray, List.getElem?_cons_zero, List.getElem?_cons_succ]; rfl
        case hQz9 => exact fun _ _ _ h => h
        case hyz9 => refine yields_loadB HB.out aggKey (sizeN HK.out.1) ?_ _ rfl rfl; rfl
        try simp only [Act.put, List.setIfInBounds_toArray, List.set_cons_zero, List.set_cons_succ]
        refine wpAnyH_ready (rs := [1]) (by kernel_rfl) (by simp) (AllReadyH.cons (o := ?oy101) ?hy101 (fun K hK => ?sy101) AllReadyH.nil)
        case hy101 => simp only [List.getElem?_toArray, List.getElem?_cons_zero, List.getElem?_cons_succ]; rfl
        go_simp
        refine (l04Empty_any _).mono ?_
        rintro e w1 ⟨rfl, hx⟩
        have hH2 := hHeld.trans hx
        refine hK.out _ _ hH2 (fun _ => ?_)
        clear hHeld hK K
        have hHeld := hH2
        clear hH2
        try simp only [Act.put, List.setIfInBounds_toArray, List.set_cons_zero, List.set_cons_succ]
        refine wpAnyH_take (i := 2) (oi := ?oiz11) (v := ?vz11) ?hiz11 (by kernel_rfl) (by kernel_rfl) (by kernel_rfl) ?hQz11 ?hyz11 (by assumption) ?restz11
        case hiz11 => simp only [List.getElem?_toArray, List.getElem?_cons_zero, List.getElem?_cons_succ]; rfl
        case hQz11 => exact fun _ _ _ h => h
        case hyz11 => exact Or.inl ⟨by rfl, by intro w hSw; (try dsimp only at hSw); go_simp; with_reducible rfl⟩
        try simp only [Act.put, List.setIfInBounds_toArray, List.set_cons_zero, List.set_cons_succ]
        refine wpAnyH_take (i := 3) (oi := ?oiz12) (v := ?vz12) ?hiz12 (by kernel_rfl) (by kernel_rfl) (by kernel_rfl) ?hQz12 ?hyz12 (by assumption) ?restz12
        case hiz12 => simp only [List.getElem?_toArray, List.getElem?_cons_zero, List.getElem?_cons_succ]; rfl
        case hQz12 => exact fun _ _ _ h => h
        case hyz12 => exact Or.inl ⟨by rfl, by intro w hSw; (try dsimp only at hSw); go_simp; with_reducible rfl⟩
        try simp only [Act.put, List.setIfInBounds_toArray, List.set_cons_zero, List.set_cons_succ]
        refine wpAnyH_take (i := 4) (oi := ?oiz13) (v := ?vz13) ?hiz13 (by kernel_rfl) (by kernel_rfl) (by kernel_rfl) ?hQz13 ?hyz13 (by assumption) ?restz13
        case hiz13 => simp only [List.getElem?_toArray, List.getElem?_cons_zero, List.getElem?_cons_succ]; rfl
        case hQz13 => exact fun _ _ _ h => h
        case hyz13 => exact Or.inl ⟨by rfl, by intro w hSw; (try dsimp only at hSw); go_simp; with_reducible rfl⟩
        try simp only [Act.put, List.setIfInBounds_toArray, List.set_cons_zero, List.set_cons_succ]
        refine wpAnyH_take (i := 5) (oi := ?oiz14) (v := ?vz14) ?hiz14 (by kernel_rfl) (by kernel_rfl) (by kernel_rfl) ?hQz14 ?hyz14 (by assumption) ?restz14
        case hiz14 => simp only [List.getElem?_toArray, List.getElem?_cons_zero, List.getElem?_cons_succ]; rfl
        case hQz14 => exact fun _ _ _ h => h
        case hyz14 => exact Or.inl ⟨by rfl, by intro w hSw; (try dsimp only at hSw); go_simp; with_reducible rfl⟩
        try simp only [Act.put, List.setIfInBounds_toArray, List.set_cons_zero, List.set_cons_succ]
        refine wpAnyH_done (by kernel_rfl) ?_ _
        have HX1 := Lib.hid (HX.out.trans hHeld)
        clear hHeld
        go_wp2
        go_ret3
        exact ⟨by rw [← HF.out]; rfl, HX1.out⟩
      · have heql : ∀ W, (binOp .eql 27 (.agg (numsA .u8 due)) (.agg (numsA .u8 emptyL))).run Try.prog W = .ok (.bool false) W := fun W => by
          have := run_eqKey due emptyL HK.out emptyL_ok W
          rw [decide_eq_false hd] at this
          exact this
        rw [decide_eq_false hd] at HF
        clear hd
        go_wp2_with fail
        refine wp_region_held_drew (S := fun W => Ext wr W) (by kernel_rfl) (Ext.refl _).drew (fun hHeld => ?_)
        refine wpAnyH_take (i := 0) (oi := ?oiz15) (v := (.agg (numsA .u8 due))) ?hiz15 (by kernel_rfl) (by kernel_rfl) (by kernel_rfl) ?hQz15 ?hyz15 (by assumption) ?restz15
        case hiz15 => simp only [List.getElem?_toArray, List.getElem?_cons_zero, List.getElem?_cons_succ]; rfl
        case hQz15 => exact fun _ _ _ h => h
        case hyz15 => refine yields_loadB HB.out aggKey (sizeN HK.out.1) ?_ _ rfl rfl; rfl
        try simp only [Act.put, List.setIfInBounds_toArray, List.set_cons_zero, List.set_cons_succ]
        refine wpAnyH_ready (rs := [1]) (by kernel_rfl) (by simp) (AllReadyH.cons (o := ?oy161) ?hy161 (fun K hK => ?sy161) AllReadyH.nil)
        case hy161 => simp only [List.getElem?_toArray, List.getElem?_cons_zero, List.getElem?_cons_succ]; rfl
        go_simp
        refine (l04Empty_any _).mono ?_
        rintro e w1 ⟨rfl, hx⟩
        have hH2 := hHeld.trans hx
        refine hK.out _ _ hH2 (fun _ => ?_)
        clear hHeld hK K
        have hHeld := hH2
        clear hH2
        try simp only [Act.put, List.setIfInBounds_toArray, List.set_cons_zero, List.set_cons_succ]
        refine wpAnyH_take (i := 2) (oi := ?oiz17) (v := ?vz17) ?hiz17 (by kernel_rfl) (by kernel_rfl) (by kernel_rfl) ?hQz17 ?hyz17 (by assumption) ?restz17
        case hiz17 => simp only [List.getElem?_toArray, List.getElem?_cons_zero, List.getElem?_cons_succ]; rfl
        case hQz17 => exact fun _ _ _ h => h
        case hyz17 => exact Or.inl ⟨by rfl, by intro w hSw; (try dsimp only at hSw); go_simp; with_reducible rfl⟩
        try simp only [Act.put, List.setIfInBounds_toArray, List.set_cons_zero, List.set_cons_succ]
        refine wpAnyH_take (i := 3) (oi := ?oiz18) (v := ?vz18) ?hiz18 (by kernel_rfl) (by kernel_rfl) (by kernel_rfl) ?hQz18 ?hyz18 (by assumption) ?restz18
        case hiz18 => simp only [List.getElem?_toArray, List.getElem?_cons_zero, List.getElem?_cons_succ]; rfl
        case hQz18 => exact fun _ _ _ h => h
        case hyz18 => exact Or.inl ⟨by rfl, by intro w hSw; (try dsimp only at hSw); go_simp; with_reducible rfl⟩
        try simp only [Act.put, List.setIfInBounds_toArray, List.set_cons_zero, List.set_cons_succ]
        refine wpAnyH_take (i := 4) (oi := ?oiz19) (v := ?vz19) ?hiz19 (by kernel_rfl) (by kernel_rfl) (by kernel_rfl) ?hQz19 ?hyz19 (by assumption) ?restz19
        case hiz19 => simp only [List.getElem?_toArray, List.getElem?_cons_zero, List.getElem?_cons_succ]; rfl
        case hQz19 => exact fun _ _ _ h => h
        case hyz19 => exact Or.inl ⟨by rfl, by intro w hSw; (try dsimp only at hSw); go_simp; with_reducible rfl⟩
        try simp only [Act.put, List.setIfInBounds_toArray, List.set_cons_zero, List.set_cons_succ]
        refine wpAnyH_take (i := 5) (oi := ?oiz20) (v := ?vz20) ?hiz20 (by kernel_rfl) (by kernel_rfl) (by kernel_rfl) ?hQz20 ?hyz20 (by assumption) ?restz20
        case hiz20 => simp only [List.getElem?_toArray, List.getElem?_cons_zero, List.getElem?_cons_succ]; rfl
        case hQz20 => exact fun _ _ _ h => h
        case hyz20 => exact Or.inl ⟨by rfl, by intro w hSw; (try dsimp only at hSw); go_simp; with_reducible rfl⟩
        try simp only [Act.put, List.setIfInBounds_toArray, List.set_cons_zero, List.set_cons_succ]
        refine wpAnyH_done (by kernel_rfl) ?_ _
        have HX1 := Lib.hid (HX.out.trans hHeld)
        clear hHeld
        go_wp2
        go_ret3
        exact ⟨by rw [← HF.out]; rfl, HX1.out⟩
end Go.Proofs.Ytmndkbheehcoaaa
