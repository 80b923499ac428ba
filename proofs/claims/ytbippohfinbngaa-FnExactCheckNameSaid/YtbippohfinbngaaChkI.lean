/- A path that is looked at: the program. No condition. -/
import Derived.Test.YtbippohfinbngaaChkP
import Derived.Test.YtbippohfinbngaaNodeU
namespace Go.Proofs.Ytbippohfinbngaa
open Go.RowKit
set_option linter.unusedVariables false
set_option linter.unusedSimpArgs false

set_option maxHeartbeats 1000000 in
set_option maxRecDepth 100000 in
theorem nodeNext_any (x : Nd) (hok : x.ok) (s : ByteArray) (w : World) :
    Calls Try.prog 101 #[.agg x.enc.toArray, .string s] w fun e w' => e = .returned (.agg (numsA .u8 (if ltB s x.n then x.l else x.r))) ∧ Ext w w' := by
  have hl := hok.1.1
  have hr := hok.2.1.1
  have c64 : ∀ o, (((w.alloc (.cells x.enc.toArray 140)).alloc o)).cell? ⟨w.heap.size, 64, none⟩ = some (.string x.n) := fun o => ((Blk.new w _ _).alloc o).at_ 64 (Nd.at64 hok)
  have hlt := ltB_eq s x.n
  cases hb : ltB s x.n with
  | true =>
    rw [hb] at hlt
    simp only [if_true]
    clear hb
    go_enter Try.func101, Try.ntmps101
    go_wp2_with (first
      | (refine wpl_loadP (off := 0) (sub := numsA .u8 x.l) ((Blk.new w 140 x.enc.toArray).alloc _) aggKey (sizeN hl) (Nd.left hok) rfl _ rfl rfl ?_)
      | (refine wpl_storeN (Blk.new' (g := w.heap.size + 1) (w := w.alloc _) (by simp) 71 _) aggKey hl rfl rfl _ _ rfl rfl rfl rfl ?_))
    refine bodyPost_ret (results_blk rfl _ rfl aggKey hl ((Blk.new' (g := w.heap.size + 1) (w := w.alloc _) (by simp) 71 _).setRow _)) rfl ?_
    exact ⟨rfl, ((ext_alloc _ _).alloc _).setRow (by omega) _⟩
  | false =>
    rw [hb] at hlt
    simp only [Bool.false_eq_true, if_false]
    clear hb
    go_enter Try.func101, Try.ntmps101
    go_wp2_with (first
      | (refine wpl_loadP (off := 32) (sub := numsA .u8 x.r) ((Blk.new w 140 x.enc.toArray).alloc _) aggKey (sizeN hr) (Nd.right hok) rfl _ rfl rfl ?_)
      | (refine wpl_storeN (Blk.new' (g := w.heap.size + 1) (w := w.alloc _) (by simp) 71 _) aggKey hr rfl rfl _ _ rfl rfl rfl rfl ?_))
    refine bodyPost_ret (results_blk rfl _ rfl aggKey hr ((Blk.new' (g := w.heap.size + 1) (w := w.alloc _) (by simp) 71 _).setRow _)) rfl ?_
    exact ⟨rfl, ((ext_alloc _ _).alloc _).setRow (by omega) _⟩
set_option maxHeartbeats 1000000 in
set_option maxRecDepth 100000 in
theorem areFn_any (x : Nd) (hok : x.ok) (w : World) :
    Calls Try.prog 130 #[.agg x.enc.toArray] w fun e w' => e = .returned (.bool (!entB x.n x.v)) ∧ Ext w w' := by
  have hv := fun W => validEntry_any x.n x.v hok.2.2.1 hok.2.2.2 W
  go_enter Try.func130, Try.ntmps130
  go_wp2_with (refine wpl_loadP (off := 64) (sub := #[.string x.n, .string x.v]) (Blk.new w 140 x.enc.toArray) aggEntryI rfl (Nd.ent hok) rfl _ rfl rfl ?_)
  refine (hv _).mono ?_
  rintro e w1 ⟨rfl, hx⟩
  have XW := Lib.hid ((ext_alloc w _).trans hx)
  clear hx hv
  go_wp2
  go_ret
  exact ⟨rfl, XW.out⟩
set_option maxHeartbeats 1000000 in
set_option maxRecDepth 100000 in
theorem areIdx_any (v : Value) (L : List Nd) (w : World) (S : Nat → Prop) (h : RdL tNd w S v L) :
    Calls Try.prog 146 #[v, .func (.func 130) #[] #[]] w fun q w' => (∃ r : Int, q = .returned (.int .i64 r) ∧ decide (0 ≤ r) = !okNs L) ∧ Ext w w' := by
  obtain ⟨A, cap, rfl, hcap, hlen, hrd, hok⟩ := h
  have Hrd := Lib.hid hrd
  have Hok := Lib.hid hok
  clear hrd hok
  go_enter Try.func146, Try.ntmps146
  go_wp2
  go_loopw [8] (fun i wr => ∃ k : Nat, k ≤ L.length ∧ i = .int .i64 k ∧ (∀ p (hp : p < L.length), p < k → entB L[p].n L[p].v = true) ∧ Ext w wr) (fun i _ => L.length - (intOf i).toNat)
  case atStart => exact ⟨0, by omega, rfl, fun j hj h => by omega, Ext.refl _⟩
  case round =>
    obtain ⟨k, hk, rfl, hm, hx⟩ := hrel
    have HX := Lib.hid hx
    have HM := Lib.hid hm
    clear hx hm
    by_cases hlt : k < L.length
    · obtain ⟨g, o, rfl, hs0, hc⟩ := Hrd.out.elem Hok.out k hlt
      have HD0 := Lib.hid (show ∀ j u, L[k].enc[j]? = some u → wr.cell? ⟨g, o + k * 66 + j, none⟩ = some u from fun j u hu => HX.out.cell (hc j u hu))
      have HXO := Lib.hid (show L[k].ok from Hok.out _ (List.getElem_mem hlt))
      have hf := fun W => areFn_any L[k] HXO.out W
      have hk0 : (0 : Int) ≤ (k : Int) := by omega
      have hk2 : (k : Int) < (L.length : Int) := by omega
      clear hc
      cases hq : entB L[k].n L[k].v with
      | true =>
        simp only [hq] at hf
        go_wp2_with (refine wpl_load ⟨g, o + k * 66, none⟩ L[k].enc (by rw [Nd.enc_length HXO.out]; exact aggNodeI) rfl _ rfl rfl (fun j u hu => by rw [Addr.add_lit]; exact HD0.out j u hu) ?_)
        refine (hf _).mono ?_
        rintro e w1 ⟨rfl, hx⟩
        have HX1 := Lib.hid (HX.out.trans hx)
        clear hx hf
        go_wp2
        go_roundw
        case rel => exact ⟨k + 1, by omega, by go_num, fun p hp h => by
          by_cases e : p = k
          · subst e; exact hq
          · exact HM.out p hp (by omega), HX1.out⟩
        case measure => simp [intOf]; omega
      | false =>
        simp only [hq] at hf
        have HQ := Lib.hid (okNs_bad hlt hq)
        go_wp2_with (refine wpl_load ⟨g, o + k * 66, none⟩ L[k].enc (by rw [Nd.enc_length HXO.out]; exact aggNodeI) rfl _ rfl rfl (fun j u hu => by rw [Addr.add_lit]; exact HD0.out j u hu) ?_)
        refine (hf _).mono ?_
        rintro e w1 ⟨rfl, hx⟩
        have HX1 := Lib.hid (HX.out.trans hx)
        clear hx hf
        go_wp2
        go_ret
        exact ⟨⟨k, rfl, by rw [HQ.out]; simp⟩, HX1.out⟩
    · obtain rfl : k = L.length := by omega
      have HQ := Lib.hid (okNs_good fun p hp => HM.out p hp hp)
      go_wp2
      go_ret
      exact ⟨⟨-1, rfl, by rw [HQ.out]; rfl⟩, HX.out⟩
set_option maxHeartbeats 1000000 in
set_option maxRecDepth 100000 in
theorem areNodes_any (v : Value) (L : List Nd) (w : World) (S : Nat → Prop) (h : RdL tNd w S v L) :
    Calls Try.prog 99 #[v] w fun q w' => q = .returned (.bool (okNs L)) ∧ Ext w w' := by
  have hi := areIdx_any v L w S h
  have hc : Calls Try.prog 129 #[v, .func (.func 130) #[] #[]] w fun q w' => q = .returned (.bool (!okNs L)) ∧ Ext w w' := by
    obtain ⟨A, cap, rfl, _⟩ := h
    go_enter Try.func129, Try.ntmps129
    go_wp2_with fail
    refine hi.mono ?_
    rintro e w1 ⟨⟨r, rfl, hr⟩, hx⟩
    have HX := Lib.hid hx
    have HR := Lib.hid hr
    clear hx hr hi
    go_wp2
    go_ret
    exact ⟨by rw [← HR.out]; rfl, HX.out⟩
  obtain ⟨A, cap, rfl, _⟩ := h
  go_enter Try.func99, Try.ntmps99
  go_wp2_with fail
  refine hc.mono ?_
  rintro e w1 ⟨rfl, hx⟩
  have HX := Lib.hid hx
  clear hx hc hi
  go_wp2
  go_ret
  exact ⟨by simp, HX.out⟩
/-- the loop's answer -/
def ckR (R : Bool × ByteArray × Bool) : Bool × ByteArray × Int := if R.2.2 then (R.1, R.2.1, 0) else (false, ⟨#[]⟩, 8)
set_option maxHeartbeats 1000000 in
set_option maxRecDepth 100000 in
theorem implCheckName_any (root : List Int) (hroot : K32 root) (s : ByteArray) (hs : s.size ≤ 140737488351232) (v : Value) (L : List Nd) (w : World) (S : Nat → Prop) (h : RdL tNd w S v L) :
    Calls Try.prog 50 #[.agg (numsA .u8 root), .string s, v] w fun e w' => e = .returned (.tuple #[.bool (chkR root s L).1, .string (chkR root s L).2.1, .int .i64 (chkR root s L).2.2]) ∧ Ext w w' := by
  have H := Lib.hid h
  have hr1 := hroot.1
  have hn := isName_any s hs
  have hg := fun W hW => areNodes_any v L W S hW
  obtain ⟨A, cap, rfl, hcap, hlen, hrd, hok⟩ := h
  have Hrd := Lib.hid hrd
  have Hok := Lib.hid hok
  clear hrd hok
  cases h1 : nameB s with
  | false =>
    simp only [chkR, h1, Bool.false_and, Bool.false_eq_true, if_false]
    simp only [h1] at hn
    clear h1 hg
    go_enter Try.func50, Try.ntmps50
    go_wp2_with fail
    refine (hn _).mono ?_
    rintro e w' ⟨rfl, rfl⟩
    go_wp2
    go_ret3
    exact ⟨rfl, ext_alloc _ _⟩
  | true =>
    simp only [h1] at hn
    cases h2 : okNs L with
    | false =>
      simp only [chkR, h1, h2, Bool.and_false, Bool.false_eq_true, if_false]
      simp only [h2] at hg
      clear h1 h2
      go_enter Try.func50, Try.ntmps50
      go_wp2_with fail
      refine (hn _).mono ?_
      rintro e w' ⟨rfl, rfl⟩
      go_wp2_with fail
      refine (hg _ (H.out.ext (by decide) (ext_alloc _ _))).mono ?_
      rintro e w1 ⟨rfl, hx⟩
      have XW := Lib.hid ((ext_alloc w _).trans hx)
      clear hx
      go_wp2
      go_ret3
      exact ⟨rfl, XW.out⟩
    | true =>
      have HEN := Lib.hid (fun k (hk : k < L.length) => okNs_at h2 hk)
      by_cases h3 : 64 < L.length
      · simp only [chkR, h1, h2, Bool.and_true, if_true, if_pos h3]
        simp only [h2] at hg
        have h3' : (64 : Int) < (L.length : Int) := by omega
        clear h1 h2 h3
        go_enter Try.func50, Try.ntmps50
        go_wp2_with fail
        refine (hn _).mono ?_
        rintro e w' ⟨rfl, rfl⟩
        go_wp2_with fail
        refine (hg _ (H.out.ext (by decide) (ext_alloc _ _))).mono ?_
        rintro e w1 ⟨rfl, hx⟩
        have XW := Lib.hid ((ext_alloc w _).trans hx)
        clear hx
        go_wp2
        go_ret3
        exact ⟨rfl, XW.out⟩
      · have e0 : chkR root s L = ckR (ckF s root L) := by simp only [chkR, h1, h2, Bool.and_true, if_true, if_neg h3]; rfl
        rw [e0]
        simp only [h2] at hg
        have h3' : ¬ (64 : Int) < (L.length : Int) := by omega
        obtain ⟨R, hR⟩ : ∃ R, ckF s root L = R := ⟨_, rfl⟩
        rw [hR]
        have HR := Lib.hid hR
        obtain ⟨Q1, Q2, Q3, hQ⟩ : ∃ Q1 Q2 Q3, ckR R = (Q1, Q2, Q3) := ⟨_, _, _, rfl⟩
        simp only [hQ]
        have HQ := Lib.hid hQ
        clear h1 h2 h3 e0 hR hQ
        go_enter Try.func50, Try.ntmps50
        go_wp2_with fail
        refine (hn _).mono ?_
        rintro e w' ⟨rfl, rfl⟩
        go_wp2_with fail
        refine (hg _ (H.out.ext (by decide) (ext_alloc _ _))).mono ?_
        rintro e w1 ⟨rfl, hx⟩
        have XW := Lib.hid ((ext_alloc w _).trans hx)
        have BR := Lib.hid ((Blk.new w 71 (numsA .u8 root)).ext hx)
        clear hx hg hn
        go_wp2_with fail
        go_loopw [26] (fun i wr => ∃ (k : Nat) (due : List Int), k ≤ L.length ∧ i = .int .i64 k ∧ K32 due ∧ ckF s due (L.drop k) = R ∧ Blk wr w.heap.size 71 (numsA .u8 due) ∧ Ext w wr) (fun i _ => L.length - (intOf i).toNat)
        case atStart => exact ⟨0, root, by omega, rfl, hroot, by rw [List.drop_zero]; exact HR.out, BR.out, XW.out⟩
        case round =>
          obtain ⟨k, due, hk, rfl, hK, hF, hB, hx⟩ := hrel
          have HX := Lib.hid hx
          have HK := Lib.hid hK
          have HF := Lib.hid hF
          have HB := Lib.hid hB
          clear hx hK hF hB HR hroot BR XW
          by_cases hlt : k < L.length
          · obtain ⟨g, o, rfl, hs0, hc⟩ := Hrd.out.elem Hok.out k hlt
            have HD := Lib.hid (List.drop_eq_getElem_cons hlt)
            have hxo : L[k].ok := Hok.out _ (List.getElem_mem hlt)
            have hxe := HEN.out k hlt
            have hn : ∀ j u, L[k].enc[j]? = some u → wr.cell? ⟨g, o + k * 66 + j, none⟩ = some u := fun j u hu => HX.out.cell (hc j u hu)
            generalize L[k] = x at HD hxo hxe hn hc
            rw [HD.out, ckF_cons] at HF
            have HXO := Lib.hid hxo
            have HXE := Lib.hid hxe
            have HN := Lib.hid hn
            have hsz := (Nd.st hxo).size
            have HST := Lib.hid (Nd.st hxo)
            have HKN := Lib.hid (hashL_ok 5 (nodeL x))
            have HNK := Lib.hid (show K32 (if ltB s x.n then x.l else x.r) by split; exact hxo.1; exact hxo.2.1)
            have B10 := Lib.hid (Blk.new wr 140 x.enc.toArray)
            have HBa := Lib.hid (HB.out.alloc (.cells x.enc.toArray 140))
            have hi : (0 : Int) ≤ (k : Int) := by omega
            have hi2 : (k : Int) < (L.length : Int) := by omega
            clear hc hxo hxe hn
            by_cases hkey : hashL 5 (nodeL x) = due
            · have hneq : ∀ W, (binOp .neq 71 (.agg (numsA .u8 (hashL 5 (nodeL x)))) (.agg (numsA .u8 due))).run Try.prog W = .ok (.bool false) W := fun W => by
                have := run_neqKey _ due HKN.out HK.out W
                rw [decide_eq_true hkey] at this
                exact this
              have HKEY := Lib.hid hkey
              clear hkey
              go_wp2_with (first
                | (refine wpl_load ⟨g, o + k * 66, none⟩ x.enc (by rw [Nd.enc_length HXO.out]; exact aggNodeI) rfl _ rfl rfl (fun j u hu => by rw [Addr.add_lit]; exact HN.out j u hu) ?_)
                | (refine wpl_storeNewB aggNodeI HST.out rfl rfl _ _ rfl rfl rfl rfl ?_))
              refine wp_region_held_drew (S := fun W => Ext (wr.alloc (.cells x.enc.toArray 140)) W) (by kernel_rfl) (Ext.refl _).drew (fun hHeld => ?_)
              refine wpAnyH_take (i := 0) (oi := ?oiz21) (v := (.agg x.enc.toArray)) ?hiz21 (by kernel_rfl) (by kernel_rfl) (by kernel_rfl) ?hQz21 ?hyz21 (by assumption) ?restz21
              case hiz21 => simp only [List.getElem?_toArray, List.getElem?_cons_zero, List.getElem?_cons_succ]; rfl
              case hQz21 => exact fun _ _ _ h => h
              case hyz21 => refine yields_loadB B10.out aggNodeI hsz ?_ _ rfl rfl; rfl
              try simp only [Act.put, List.setIfInBounds_toArray, List.set_cons_zero, List.set_cons_succ]
              refine wpAnyH_take (i := 2) (oi := ?oiz22) (v := (.agg (numsA .u8 due))) ?hiz22 (by kernel_rfl) (by kernel_rfl) (by kernel_rfl) ?hQz22 ?hyz22 (by assumption) ?restz22
              case hiz22 => simp only [List.getElem?_toArray, List.getElem?_cons_zero, List.getElem?_cons_succ]; rfl
              case hQz22 => exact fun _ _ _ h => h
              case hyz22 => refine yields_loadB HBa.out aggKey (sizeN HK.out.1) ?_ _ rfl rfl; rfl
              try simp only [Act.put, List.setIfInBounds_toArray, List.set_cons_zero, List.set_cons_succ]
              refine wpAnyH_ready (rs := [1]) (by kernel_rfl) (by simp) (AllReadyH.cons (o := ?oy231) ?hy231 (fun K hK => ?sy231) AllReadyH.nil)
              case hy231 => simp only [List.getElem?_toArray, List.getElem?_cons_zero, List.getElem?_cons_succ]; rfl
              go_simp
              refine (nodeKey_any x HXO.out HXE.out _).mono ?_
              rintro e w1 ⟨rfl, hx⟩
              have hH2 := hHeld.trans hx
              refine hK.out _ _ hH2 (fun _ => ?_)
              clear hHeld hK K
              have hHeld := hH2
              clear hH2
              try simp only [Act.put, List.setIfInBounds_toArray, List.set_cons_zero, List.set_cons_succ]
              refine wpAnyH_take (i := 3) (oi := ?oiz24) (v := ?vz24) ?hiz24 (by kernel_rfl) (by kernel_rfl) (by kernel_rfl) ?hQz24 ?hyz24 (by assumption) ?restz24
              case hiz24 => simp only [List.getElem?_toArray, List.getElem?_cons_zero, List.getElem?_cons_succ]; rfl
              case hQz24 => exact fun _ _ _ h => h
              case hyz24 => exact Or.inl ⟨by rfl, by intro w hSw; (try dsimp only at hSw); go_simp; with_reducible rfl⟩
              try simp only [Act.put, List.setIfInBounds_toArray, List.set_cons_zero, List.set_cons_succ]
              refine wpAnyH_done (by kernel_rfl) ?_ _
              have HX1 := Lib.hid ((HX.out.alloc (.cells x.enc.toArray 140)).trans hHeld)
              have HB1 := Lib.hid (HBa.out.ext hHeld)
              have B11 := Lib.hid (B10.out.ext hHeld)
              have c64 := B11.out.at_ 64 (Nd.at64 HXO.out)
              have c65 := B11.out.at_ 65 (Nd.at65 HXO.out)
              clear hHeld HB HBa B10
              by_cases hname : x.n = s
              · have hn2 : (x.n.toList == s.toList) = true := by rw [hname, beq_self_eq_true]
                have hrv : ckR ((L.drop (k + 1)).isEmpty, x.v, (L.drop (k + 1)).isEmpty) = (Q1, Q2, Q3) := by rw [← HQ.out, ← HF.out, ckS_hit _ _ HKEY.out hname]
                have m1 : IntKind.i64.wrap ((L.length : Int) - 1) = (L.length : Int) - 1 := by rw [IntKind.wrap_i64]; omega
                clear hname
                by_cases e : k + 1 = L.length
                · have m2 : ¬ (k : Int) < (L.length : Int) - 1 := by omega
                  rw [List.isEmpty_iff.2 (List.drop_eq_nil_of_le (by omega : L.length ≤ k + 1))] at hrv
                  have HRV := Lib.hid hrv
                  clear hrv e
                  go_wp2
                  go_quiet (fail)
                  go_wp2
                  go_ret3
                  exact ⟨by have := HRV.out; simp only [ckR, if_true, Prod.mk.injEq] at this; obtain ⟨rfl, rfl, rfl⟩ := this; rfl, HX1.out.drewN _⟩
                · have m2 : (k : Int) < (L.length : Int) - 1 := by omega
                  rw [show (L.drop (k + 1)).isEmpty = false by
                    rw [List.isEmpty_eq_false_iff]
                    intro e2
                    have := congrArg List.length e2
                    rw [List.length_drop, List.length_nil] at this
                    omega] at hrv
                  have HRV := Lib.hid hrv
                  clear hrv e
                  go_wp2
                  go_ret3
                  exact ⟨by have := HRV.out; simp only [ckR, Bool.false_eq_true, if_false, Prod.mk.injEq] at this; obtain ⟨rfl, rfl, rfl⟩ := this; rfl, HX1.out⟩
              · have hn2 : (x.n.toList == s.toList) = false := by rw [beq_eq_false_iff_ne]; exact fun e => hname (toList_inj e)
                have HRN := Lib.hid (show ckF s (if ltB s x.n then x.l else x.r) (L.drop (k + 1)) = R by rw [← HF.out, ckS_on _ _ HKEY.out hname])
                clear hname
                go_wp2_with (refine wpl_loadB B11.out aggNodeI hsz rfl _ rfl rfl ?_)
                refine (nodeNext_any x HXO.out s _).mono ?_
                rintro e w2 ⟨rfl, hx⟩
                have HX2 := Lib.hid (HX1.out.trans hx)
                have HB2 := Lib.hid (HB1.out.ext hx)
                clear hx
                generalize (if ltB s x.n then x.l else x.r) = nxt at HNK HRN ⊢
                go_wp2_with (refine wpl_storeN HB2.out aggKey HNK.out.1 (sizeN HK.out.1) rfl _ _ rfl rfl rfl rfl ?_)
                go_roundw
                case rel => exact ⟨k + 1, nxt, by omega, by go_num, HNK.out, HRN.out, HB2.out.setRow _, HX2.out.setRow (Nat.le_refl _) _⟩
                case measure => simp [intOf]; omega
            · have hneq : ∀ W, (binOp .neq 71 (.agg (numsA .u8 (hashL 5 (nodeL x)))) (.agg (numsA .u8 due))).run Try.prog W = .ok (.bool true) W := fun W => by
                have := run_neqKey _ due HKN.out HK.out W
                rw [decide_eq_false hkey] at this
                exact this
              have HRV := Lib.hid (show ckR (false, (⟨#[]⟩ : ByteArray), false) = (Q1, Q2, Q3) by rw [← HQ.out, ← HF.out, ckS_bad _ _ hkey])
              clear hkey
              go_wp2_with (first
                | (refine wpl_load ⟨g, o + k * 66, none⟩ x.enc (by rw [Nd.enc_length HXO.out]; exact aggNodeI) rfl _ rfl rfl (fun j u hu => by rw [Addr.add_lit]; exact HN.out j u hu) ?_)
                | (refine wpl_storeNewB aggNodeI HST.out rfl rfl _ _ rfl rfl rfl rfl ?_))
              refine wp_region_held_drew (S := fun W => Ext (wr.alloc (.cells x.enc.toArray 140)) W) (by kernel_rfl) (Ext.refl _).drew (fun hHeld => ?_)
              refine wpAnyH_take (i := 0) (oi := ?oiz25) (v := (.agg x.enc.toArray)) ?hiz25 (by kernel_rfl) (by kernel_rfl) (by kernel_rfl) ?hQz25 ?hyz25 (by assumption) ?restz25
              case hiz25 => simp only [List.getElem?_toArray, List.getElem?_cons_zero, List.getElem?_cons_succ]; rfl
              case hQz25 => exact fun _ _ _ h => h
              case hyz25 => refine yields_loadB B10.out aggNodeI hsz ?_ _ rfl rfl; rfl
              try simp only [Act.put, List.setIfInBounds_toArray, List.set_cons_zero, List.set_cons_succ]
              refine wpAnyH_take (i := 2) (oi := ?oiz26) (v := (.agg (numsA .u8 due))) ?hiz26 (by kernel_rfl) (by kernel_rfl) (by kernel_rfl) ?hQz26 ?hyz26 (by assumption) ?restz26
              case hiz26 => simp only [List.getElem?_toArray, List.getElem?_cons_zero, List.getElem?_cons_succ]; rfl
              case hQz26 => exact fun _ _ _ h => h
              case hyz26 => refine yields_loadB HBa.out aggKey (sizeN HK.out.1) ?_ _ rfl rfl; rfl
              try simp only [Act.put, List.setIfInBounds_toArray, List.set_cons_zero, List.set_cons_succ]
              refine wpAnyH_ready (rs := [1]) (by kernel_rfl) (by simp) (AllReadyH.cons (o := ?oy271) ?hy271 (fun K hK => ?sy271) AllReadyH.nil)
              case hy271 => simp only [List.getElem?_toArray, List.getElem?_cons_zero, List.getElem?_cons_succ]; rfl
              go_simp
              refine (nodeKey_any x HXO.out HXE.out _).mono ?_
              rintro e w1 ⟨rfl, hx⟩
              have hH2 := hHeld.trans hx
              refine hK.out _ _ hH2 (fun _ => ?_)
              clear hHeld hK K
              have hHeld := hH2
              clear hH2
              try simp only [Act.put, List.setIfInBounds_toArray, List.set_cons_zero, List.set_cons_succ]
              refine wpAnyH_take (i := 3) (oi := ?oiz28) (v := ?vz28) ?hiz28 (by kernel_rfl) (by kernel_rfl) (by kernel_rfl) ?hQz28 ?hyz28 (by assumption) ?restz28
              case hiz28 => simp only [List.getElem?_toArray, List.getElem?_cons_zero, List.getElem?_cons_succ]; rfl
              case hQz28 => exact fun _ _ _ h => h
              case hyz28 => exact Or.inl ⟨by rfl, by intro w hSw; (try dsimp only at hSw); go_simp; with_reducible rfl⟩
              try simp only [Act.put, List.setIfInBounds_toArray, List.set_cons_zero, List.set_cons_succ]
              refine wpAnyH_done (by kernel_rfl) ?_ _
              have HX1 := Lib.hid ((HX.out.alloc (.cells x.enc.toArray 140)).trans hHeld)
              have HB1 := Lib.hid (HBa.out.ext hHeld)
              have B11 := Lib.hid (B10.out.ext hHeld)
              have c64 := B11.out.at_ 64 (Nd.at64 HXO.out)
              have c65 := B11.out.at_ 65 (Nd.at65 HXO.out)
              clear hHeld HB HBa B10
              go_wp2
              go_ret3
              exact ⟨by have := HRV.out; simp only [ckR, Bool.false_eq_true, if_false, Prod.mk.injEq] at this; obtain ⟨rfl, rfl, rfl⟩ := this; rfl, HX1.out⟩
          · obtain rfl : k = L.length := by omega
            rw [List.drop_eq_nil_of_le (Nat.le_refl _), ckF_nil] at HF
            by_cases hd : due = emptyL
            · have heql : ∀ W, (binOp .neq 71 (.agg (numsA .u8 due)) (.agg (numsA .u8 emptyL))).run Try.prog W = .ok (.bool false) W := fun W => by
                have := run_neqKey due emptyL HK.out emptyL_ok W
                rw [decide_eq_true hd] at this
                exact this
              have HRV := Lib.hid (show ckR (false, (⟨#[]⟩ : ByteArray), true) = (Q1, Q2, Q3) by rw [← HQ.out, ← HF.out, decide_eq_true hd])
              clear hd
              go_wp2_with fail
              refine wp_region_held_drew (S := fun W => Ext wr W) (by kernel_rfl) (Ext.refl _).drew (fun hHeld => ?_)
              refine wpAnyH_take (i := 0) (oi := ?oiz29) (v := (.agg (numsA .u8 due))) ?hiz29 (by kernel_rfl) (by kernel_rfl) (by kernel_rfl) ?hQz29 ?hyz29 (by assumption) ?restz29
              case hiz29 => simp only [List.getElem?_toArray, List.getElem?_cons_zero, List.getElem?_cons_succ]; rfl
              case hQz29 => exact fun _ _ _ h => h
              case hyz29 => refine yields_loadB HB.out aggKey (sizeN HK.out.1) ?_ _ rfl rfl; rfl
              try simp only [Act.put, List.setIfInBounds_toArray, List.set_cons_zero, List.set_cons_succ]
              refine wpAnyH_ready (rs := [1]) (by kernel_rfl) (by simp) (AllReadyH.cons (o := ?oy301) ?hy301 (fun K hK => ?sy301) AllReadyH.nil)
              case hy301 => simp only [List.getElem?_toArray, List.getElem?_cons_zero, List.getElem?_cons_succ]; rfl
              go_simp
              refine (implEmptyMapKey_any _).mono ?_
              rintro e w1 ⟨rfl, hx⟩
              have hH2 := hHeld.trans hx
              refine hK.out _ _ hH2 (fun _ => ?_)
              clear hHeld hK K
              have hHeld := hH2
              clear hH2
              try simp only [Act.put, List.setIfInBounds_toArray, List.set_cons_zero, List.set_cons_succ]
              refine wpAnyH_take (i := 2) (oi := ?oiz31) (v := ?vz31) ?hiz31 (by kernel_rfl) (by kernel_rfl) (by kernel_rfl) ?hQz31 ?hyz31 (by assumption) ?restz31
              case hiz31 => simp only [List.getElem?_toArray, List.getElem?_cons_zero, List.getElem?_cons_succ]; rfl
              case hQz31 => exact fun _ _ _ h => h
              case hyz31 => exact Or.inl ⟨by rfl, by intro w hSw; (try dsimp only at hSw); go_simp; with_reducible rfl⟩
              try simp only [Act.put, List.setIfInBounds_toArray, List.set_cons_zero, List.set_cons_succ]
              refine wpAnyH_done (by kernel_rfl) ?_ _
              have HX1 := Lib.hid (HX.out.trans hHeld)
              clear hHeld
              go_wp2
              go_ret3
              exact ⟨by have := HRV.out; simp only [ckR, if_true, Prod.mk.injEq] at this; obtain ⟨rfl, rfl, rfl⟩ := this; rfl, HX1.out⟩
            · have heql : ∀ W, (binOp .neq 71 (.agg (numsA .u8 due)) (.agg (numsA .u8 emptyL))).run Try.prog W = .ok (.bool true) W := fun W => by
                have := run_neqKey due emptyL HK.out emptyL_ok W
                rw [decide_eq_false hd] at this
                exact this
              have HRV := Lib.hid (show ckR (false, (⟨#[]⟩ : ByteArray), false) = (Q1, Q2, Q3) by rw [← HQ.out, ← HF.out, decide_eq_false hd])
              clear hd
              go_wp2_with fail
              refine wp_region_held_drew (S := fun W => Ext wr W) (by kernel_rfl) (Ext.refl _).drew (fun hHeld => ?_)
              refine wpAnyH_take (i := 0) (oi := ?oiz32) (v := (.agg (numsA .u8 due))) ?hiz32 (by kernel_rfl) (by kernel_rfl) (by kernel_rfl) ?hQz32 ?hyz32 (by assumption) ?restz32
              case hiz32 => simp only [List.getElem?_toArray, List.getElem?_cons_zero, List.getElem?_cons_succ]; rfl
              case hQz32 => exact fun _ _ _ h => h
              case hyz32 => refine yields_loadB HB.out aggKey (sizeN HK.out.1) ?_ _ rfl rfl; rfl
              try simp only [Act.put, List.setIfInBounds_toArray, List.set_cons_zero, List.set_cons_succ]
              refine wpAnyH_ready (rs := [1]) (by kernel_rfl) (by simp) (AllReadyH.cons (o := ?oy331) ?hy331 (fun K hK => ?sy331) AllReadyH.nil)
              case hy331 => simp only [List.getElem?_toArray, List.getElem?_cons_zero, List.getElem?_cons_succ]; rfl
              go_simp
              refine (implEmptyMapKey_any _).mono ?_
              rintro e w1 ⟨rfl, hx⟩
              have hH2 := hHeld.trans hx
              refine hK.out _ _ hH2 (fun _ => ?_)
              clear hHeld hK K
              have hHeld := hH2
              clear hH2
              try simp only [Act.put, List.setIfInBounds_toArray, List.set_cons_zero, List.set_cons_succ]
              refine wpAnyH_take (i := 2) (oi := ?oiz34) (v := ?vz34) ?hiz34 (by kernel_rfl) (by kernel_rfl) (by kernel_rfl) ?hQz34 ?hyz34 (by assumption) ?restz34
              case hiz34 => simp only [List.getElem?_toArray, List.getElem?_cons_zero, List.getElem?_cons_succ]; rfl
              case hQz34 => exact fun _ _ _ h => h
              case hyz34 => exact Or.inl ⟨by rfl, by intro w hSw; (try dsimp only at hSw); go_simp; with_reducible rfl⟩
              try simp only [Act.put, List.setIfInBounds_toArray, List.set_cons_zero, List.set_cons_succ]
              refine wpAnyH_done (by kernel_rfl) ?_ _
              have HX1 := Lib.hid (HX.out.trans hHeld)
              clear hHeld
              go_wp2
              go_ret3
              exact ⟨by have := HRV.out; simp only [ckR, Bool.false_eq_true, if_false, Prod.mk.injEq] at this; obtain ⟨rfl, rfl, rfl⟩ := this; rfl, HX1.out⟩
end Go.Proofs.Ytbippohfinbngaa
