/- What the walk of the law FnExactKeysOfStore needs, part 3 of 5. No condition. -/
import Derived.Deep.RegionWith
import Derived.OrdersHeld
import Derived.Deep.RegionHeld
import Derived.Great.BuildSlice
import Derived.Sort.Grow
import Derived.Test.YtnklgkmpcochfaaPFnExactKeysOfStore2
/- Lists of blobs, and stores: copied, counted, held against each other. No condition. -/
namespace Go.Proofs.Ytnklgkmpcochfaa
open Go.RowKit
set_option linter.unusedVariables false
set_option linter.unusedSimpArgs false

abbrev Bl := Int × List Int
def nrBlob : NR Bl where
  sz := 2
  R := RBlob
  pos := by decide
  keep := by
    rintro w w' S cs x ⟨v, h1, h2, h3⟩ hk
    exact ⟨v, h1, h2.keep hk, h3⟩
  ext := fun h e => h.ext e
  mono := by
    rintro w S S' cs x ⟨v, h1, h2, h3⟩ hk
    exact ⟨v, h1, h2.mono hk, h3⟩
  st := fun h => h.st
/-- how much a blob takes -/
def wBlob (x : Bl) : Nat := x.2.length
theorem szBlob_w (cs : Array Value) (x : Bl) (l : Int) (w : World) (S : Nat → Prop) (h : nrBlob.R w S cs x) (h0 : -1 ≤ l) (h1 : l ≤ 1048576) :
    Calls Try.prog 55 #[.agg cs, .int .i64 l] w fun e w' => e = .returned (.int .i64 (if l - (wBlob x : Nat) < 0 then -1 else l - (wBlob x : Nat))) ∧ Ext w w' := szBlob_u cs x l w S h h0 h1
theorem toBlob_w (cs : Array Value) (x : Bl) (w : World) (S : Nat → Prop) (h : nrBlob.R w S cs x) (hy : True) :
    Calls Try.prog 59 #[.agg cs] w fun e w' => ∃ cs', e = .returned (.agg cs') ∧ nrBlob.R w' (fun g => w.heap.size ≤ g ∧ g < w'.heap.size) cs' x ∧ Ext w w' := toBlob_u cs x w S h
theorem eqBlob_w (cs cs' : Array Value) (x : Bl) (w : World) (S S' : Nat → Prop) (h : nrBlob.R w S cs x) (h' : nrBlob.R w S' cs' x) :
    Calls Try.prog 66 #[.agg cs, .agg cs'] w fun e w' => e = .returned (.bool true) ∧ Ext w w' := eqBlob_u cs cs' x w S S' h h'
set_option maxHeartbeats 1000000 in
set_option maxRecDepth 100000 in
theorem toBlobS_u (v : Value) (xs : List Bl) (w : World) (S : Nat → Prop) (h : RdN nrBlob w S v xs) (hln : xs.length ≤ 1048576) (hel : ∀ x ∈ xs, True) :
    Calls Try.prog 31 #[v] w fun e w' => ∃ v', e = .returned v' ∧ RdN nrBlob w' (fun q => w.heap.size ≤ q) v' xs ∧ Ext w w' := by
  obtain ⟨A, cap, rfl, hcap, hlen⟩ := h.shape
  have H := Lib.hid h
  have HEL := Lib.hid hel
  clear h hel
  obtain ⟨Z, hms, hm⟩ := make_rowN 27 68 2 32 Try.underlying27 (by kernel_rfl) .i64 .i64 xs.length (by omega) (by omega)
  have HMS := Lib.hid hms
  clear hms
  go_enter Try.func31, Try.ntmps31
  go_wp2
  go_loopw [4] (fun i wr => ∃ (k : Nat) (CS : List (List Value)), k ≤ xs.length ∧ i = .int .i64 k ∧ CS.length = k ∧ FillN nrBlob wr w.heap.size 68 (fun q => w.heap.size < q) xs CS ((xs.length - k) * 2) ∧ Ext w wr ∧ w.heap.size < wr.heap.size)
    (fun i _ => xs.length - (intOf i).toNat)
  case atStart => exact ⟨0, [], by omega, rfl, rfl, ⟨Fill.start' (Blk.new w _ _) (by rw [HMS.out, Nat.sub_zero]), fun i es x h => by simp at h, fun es h => by simp at h⟩, ext_alloc _ _, by simp⟩
  case round =>
    obtain ⟨k, CS, hk, rfl, hcl, hF, hx, hgs⟩ := hrel
    have HFl := Lib.hid hF
    have HX := Lib.hid hx
    have HCL := Lib.hid hcl
    have HGS := Lib.hid hgs
    clear hm hF hx hcl hgs
    by_cases hlt : k < xs.length
    · obtain ⟨g, o, rfl, hs, es, hes, hc, hR⟩ := H.out.elem k hlt
      have HD := Lib.hid (show ∀ j u, es[j]? = some u → wr.cell? ⟨g, o + k * 2 + j, none⟩ = some u from fun j u hu => HX.out.cell (hc j u hu))
      have HR := Lib.hid ((nrBlob).ext hR HX.out)
      have HES := Lib.hid (show es.length = 2 from hes)
      have HXM := Lib.hid (HEL.out xs[k] (List.getElem_mem hlt))
      have HXK := Lib.hid (show xs[k]? = some xs[k] from List.getElem?_eq_getElem hlt)
      have HL := Lib.hid (show CS.flatten.length = k * 2 by rw [flatN_length CS HFl.out.lens, HCL.out]; rfl)
      have HMU := Lib.hid (show (xs.length - k) * 2 = 2 + (xs.length - (k + 1)) * 2 by omega)
      clear hc hR hes
      have hi : (0 : Int) ≤ (k : Int) := by omega
      go_wp2_with (refine wpl_load ⟨g, o + k * 2, none⟩ es (by rw [HES.out]; exact aggBlobL) rfl _ rfl rfl (fun j u hu => by rw [Addr.add_lit]; exact HD.out j u hu) ?_)
      refine (toBlob_w es.toArray xs[k] _ S HR.out HXM.out).mono ?_
      rintro e w1 ⟨cs', rfl, hR', hx⟩
      have HF2 := Lib.hid (HFl.out.ext hx)
      have HR2 := Lib.hid (show (nrBlob).R w1 (fun q => w.heap.size < q) cs' xs[k] from (nrBlob).mono hR' (fun q hq => by have h1 := HGS.out; have h2 := hq.1; omega))
      have HST := Lib.hid (show St 2 cs' from (nrBlob).st hR')
      have HX2 := Lib.hid (HX.out.trans hx)
      have HGS2 := Lib.hid (Nat.lt_of_lt_of_le HGS.out hx.size)
      clear hx HX HFl HD HR hR'
      go_wp2_with (refine wpl_fill (n := 2) (m := (xs.length - (k + 1)) * 2) (by rw [← HMU.out]; exact HF2.out.fill) (by rw [HL.out]) aggBlobI HST.out rfl _ _ rfl rfl rfl rfl ?_; intro row hF; have HF3 := Lib.hid (HF2.out.next (by rw [HCL.out]; exact HXK.out) HR2.out (fun q hq => by omega) row hF); clear hF)
      go_roundw
      case rel => exact ⟨k + 1, _, by omega, by go_num, by rw [List.length_append, HCL.out]; rfl, HF3.out, HX2.out.setRow (Nat.le_refl _) _, by simpa using HGS2.out⟩
      case measure => simp [intOf]; omega
    · obtain rfl : k = xs.length := by omega
      have hb := HFl.out
      rw [Nat.sub_self, Nat.zero_mul] at hb
      have HB := Lib.hid hb
      clear hb
      go_wp2
      go_ret
      exact ⟨_, rfl, HB.out.done HCL.out hlen _ (fun q hq => Nat.le_of_lt hq) (Nat.le_refl _), HX.out⟩

set_option maxHeartbeats 1000000 in
set_option maxRecDepth 100000 in
theorem eqBlobS_u (v u : Value) (xs : List Bl) (w : World) (S S' : Nat → Prop) (h : RdN nrBlob w S v xs) (h' : RdN nrBlob w S' u xs) :
    Calls Try.prog 39 #[v, u] w fun e w' => e = .returned (.bool true) ∧ Ext w w' := by
  obtain ⟨A, cap, rfl, hcap, hlen⟩ := h.shape
  obtain ⟨A', cap', rfl, hcap', hlen'⟩ := h'.shape
  have H := Lib.hid h
  have H' := Lib.hid h'
  clear h h'
  have hl1 : ((xs.length : Int) != (xs.length : Int)) = false := by simp
  go_enter Try.func39, Try.ntmps39
  go_wp2
  go_loopw [5] (fun i wr => ∃ k : Nat, k ≤ xs.length ∧ i = .int .i64 k ∧ Ext w wr) (fun i _ => xs.length - (intOf i).toNat)
  case atStart => exact ⟨0, by omega, rfl, Ext.refl _⟩
  case round =>
    obtain ⟨k, hk, rfl, hx⟩ := hrel
    have HX := Lib.hid hx
    clear hx hl1
    by_cases hlt : k < xs.length
    · obtain ⟨g, o, rfl, hs, es, hes, hc, hR⟩ := H.out.elem k hlt
      obtain ⟨g2, o2, rfl, hs2, es2, hes2, hc2, hR2⟩ := H'.out.elem k hlt
      have HD := Lib.hid (show ∀ j u, es[j]? = some u → wr.cell? ⟨g, o + k * 2 + j, none⟩ = some u from fun j u hu => HX.out.cell (hc j u hu))
      have HD2 := Lib.hid (show ∀ j u, es2[j]? = some u → wr.cell? ⟨g2, o2 + k * 2 + j, none⟩ = some u from fun j u hu => HX.out.cell (hc2 j u hu))
      have HR := Lib.hid ((nrBlob).ext hR HX.out)
      have HR2 := Lib.hid ((nrBlob).ext hR2 HX.out)
      have HES := Lib.hid (show es.length = 2 from hes)
      have HES2 := Lib.hid (show es2.length = 2 from hes2)
      clear hc hc2 hR hR2 hes hes2
      have hi : (0 : Int) ≤ (k : Int) := by omega
      have hi2 : (k : Int) < (xs.length : Int) := by omega
      go_wp2_with fail
      refine wp_region_held_drew (S := fun W => Ext wr W) (by kernel_rfl) (Ext.refl _).drew (fun hHeld => ?_)
      refine wpAnyH_take (i := 0) (oi := ?oiq0) (v := ?vq0) ?hiq0 (by kernel_rfl) (by kernel_rfl) (by kernel_rfl) ?hQq0 ?hyq0 (by assumption) ?restq0
      case hiq0 => simp only [List.getElem?_toArray, List.getElem?_cons_zero, List.getElem?_cons_succ]; rfl
      case hQq0 => exact fun _ _ _ h => h
      case hyq0 => exact Or.inl ⟨by rfl, by intro w hSw; go_simp; with_reducible rfl⟩
      try simp only [Act.put, List.setIfInBounds_toArray, List.set_cons_zero, List.set_cons_succ]
      refine wpAnyH_take (i := 1) (oi := ?oiq1) (v := ?vq1) ?hiq1 (by kernel_rfl) (by kernel_rfl) (by kernel_rfl) ?hQq1 ?hyq1 (by assumption) ?restq1
      case hiq1 => simp only [List.getElem?_toArray, List.getElem?_cons_zero, List.getElem?_cons_succ]; rfl
      case hQq1 => exact fun _ _ _ h => h
      case hyq1 => exact Or.inl ⟨by rfl, by intro w hSw; go_simp; with_reducible rfl⟩
      try simp only [Act.put, List.setIfInBounds_toArray, List.set_cons_zero, List.set_cons_succ]
      refine wpAnyH_take (i := 2) (oi := ?oiq2) (v := ?vq2) ?hiq2 (by kernel_rfl) (by kernel_rfl) (by kernel_rfl) ?hQq2 ?hyq2 (by assumption) ?restq2
      case hiq2 => simp only [List.getElem?_toArray, List.getElem?_cons_zero, List.getElem?_cons_succ]; rfl
      case hQq2 => exact fun _ _ _ h => h
      case hyq2 => exact Or.inl ⟨by rfl, by intro w hSw; go_simp; with_reducible rfl⟩
      try simp only [Act.put, List.setIfInBounds_toArray, List.set_cons_zero, List.set_cons_succ]
      refine wpAnyH_take (i := 3) (oi := ?oiq3) (v := (.agg es.toArray)) ?hiq3 (by kernel_rfl) (by kernel_rfl) (by kernel_rfl) ?hQq3 ?hyq3 (by assumption) ?restq3
      case hiq3 => simp only [List.getElem?_toArray, List.getElem?_cons_zero, List.getElem?_cons_succ]; rfl
      case hQq3 => exact fun _ _ _ h => h
      case hyq3 => refine yields_loadR g (o + k * 2) es (by rw [HES.out]; exact aggBlobI) HD.out ?_ _ rfl rfl; rfl
      try simp only [Act.put, List.setIfInBounds_toArray, List.set_cons_zero, List.set_cons_succ]
      refine wpAnyH_take (i := 4) (oi := ?oiq4) (v := ?vq4) ?hiq4 (by kernel_rfl) (by kernel_rfl) (by kernel_rfl) ?hQq4 ?hyq4 (by assumption) ?restq4
      case hiq4 => simp only [List.getElem?_toArray, List.getElem?_cons_zero, List.getElem?_cons_succ]; rfl
      case hQq4 => exact fun _ _ _ h => h
      case hyq4 => exact Or.inl ⟨by rfl, by intro w hSw; go_simp; with_reducible rfl⟩
      try simp only [Act.put, List.setIfInBounds_toArray, List.set_cons_zero, List.set_cons_succ]
      refine wpAnyH_take (i := 5) (oi := ?oiq5) (v := ?vq5) ?hiq5 (by kernel_rfl) (by kernel_rfl) (by kernel_rfl) ?hQq5 ?hyq5 (by assumption) ?restq5
      case hiq5 => simp only [List.getElem?_toArray, List.getElem?_cons_zero, List.getElem?_cons_succ]; rfl
      case hQq5 => exact fun _ _ _ h => h
      case hyq5 => exact Or.inl ⟨by rfl, by intro w hSw; go_simp; with_reducible rfl⟩
      try simp only [Act.put, List.setIfInBounds_toArray, List.set_cons_zero, List.set_cons_succ]
      refine wpAnyH_take (i := 6) (oi := ?oiq6) (v := ?vq6) ?hiq6 (by kernel_rfl) (by kernel_rfl) (by kernel_rfl) ?hQq6 ?hyq6 (by assumption) ?restq6
      case hiq6 => simp only [List.getElem?_toArray, List.getElem?_cons_zero, List.getElem?_cons_succ]; rfl
      case hQq6 => exact fun _ _ _ h => h
      case hyq6 => exact Or.inl ⟨by rfl, by intro w hSw; go_simp; with_reducible rfl⟩
      try simp only [Act.put, List.setIfInBounds_toArray, List.set_cons_zero, List.set_cons_succ]
      refine wpAnyH_take (i := 7) (oi := ?oiq7) (v := (.agg es2.toArray)) ?hiq7 (by kernel_rfl) (by kernel_rfl) (by kernel_rfl) ?hQq7 ?hyq7 (by assumption) ?restq7
      case hiq7 => simp only [List.getElem?_toArray, List.getElem?_cons_zero, List.getElem?_cons_succ]; rfl
      case hQq7 => exact fun _ _ _ h => h
      case hyq7 => refine yields_loadR g2 (o2 + k * 2) es2 (by rw [HES2.out]; exact aggBlobI) HD2.out ?_ _ rfl rfl; rfl
      try simp only [Act.put, List.setIfInBounds_toArray, List.set_cons_zero, List.set_cons_succ]
      refine wpAnyH_ready (rs := [8]) (by kernel_rfl) (by simp) (AllReadyH.cons (o := ?o8) ?h8 (fun K hK => ?s8) AllReadyH.nil)
      case h8 => simp only [List.getElem?_toArray, List.getElem?_cons_zero, List.getElem?_cons_succ]; rfl
      go_simp
      refine (eqBlob_w es.toArray es2.toArray xs[k] _ S S' ((nrBlob).ext HR.out hHeld) ((nrBlob).ext HR2.out hHeld)).mono ?_
      rintro e w1 ⟨rfl, hx⟩
      have hH2 := hHeld.trans hx
      refine hK.out _ _ hH2 (fun _ => ?_)
      clear hHeld hK K
      have hHeld := hH2
      clear hH2 hx
      try simp only [Act.put, List.setIfInBounds_toArray, List.set_cons_zero, List.set_cons_succ]
      refine wpAnyH_take (i := 9) (oi := ?oiq9) (v := ?vq9) ?hiq9 (by kernel_rfl) (by kernel_rfl) (by kernel_rfl) ?hQq9 ?hyq9 (by assumption) ?restq9
      case hiq9 => simp only [List.getElem?_toArray, List.getElem?_cons_zero, List.getElem?_cons_succ]; rfl
      case hQq9 => exact fun _ _ _ h => h
      case hyq9 => exact Or.inl ⟨by rfl, by intro w hSw; go_simp; with_reducible rfl⟩
      try simp only [Act.put, List.setIfInBounds_toArray, List.set_cons_zero, List.set_cons_succ]
      refine wpAnyH_done (by kernel_rfl) ?_ _
      have HX2 := Lib.hid (HX.out.trans hHeld)
      clear hHeld
      go_wp2
      go_roundw
      case rel => exact ⟨k + 1, by omega, by go_num, HX2.out⟩
      case measure => simp [intOf]; omega
    · go_wp2
      go_ret
      exact ⟨rfl, HX.out⟩

set_option maxHeartbeats 1000000 in
set_option maxRecDepth 100000 in
theorem szBlobS_u (v : Value) (xs : List Bl) (l : Int) (w : World) (S : Nat → Prop) (h : RdN nrBlob w S v xs) (h0 : -1 ≤ l) (h1 : l ≤ 1048576) :
    Calls Try.prog 29 #[v, .int .i64 l] w fun e w' => e = .returned (.int .i64 (if l - (szW wBlob xs : Nat) < 0 then -1 else l - (szW wBlob xs : Nat))) ∧ Ext w w' := by
  rw [szW_eq]
  obtain ⟨A, cap, rfl, hcap, hlen⟩ := h.shape
  have H := Lib.hid h
  obtain ⟨T, hT⟩ : ∃ T, (xs.map wBlob).sum = T := ⟨_, rfl⟩
  have hle := fun k => sumW_le wBlob xs k
  rw [hT] at hle ⊢
  have HT := Lib.hid hT
  have HLE := Lib.hid hle
  clear h hT hle
  by_cases h2 : l - (xs.length : Int) < 0
  · rw [if_pos (by omega)]
    go_enter Try.func29, Try.ntmps29
    go_wp2
    go_ret
    exact ⟨rfl, Ext.refl _⟩
  · obtain ⟨z, hz⟩ : ∃ z : Int, (if l - ((xs.length + T : Nat) : Int) < 0 then -1 else l - ((xs.length + T : Nat) : Int)) = z := ⟨_, rfl⟩
    rw [hz]
    have HZ := Lib.hid hz
    clear hz
    go_enter Try.func29, Try.ntmps29
    go_wp2
    go_loopw [1, 5] (fun q i wr => ∃ k : Nat, k ≤ xs.length ∧ i = .int .i64 k ∧ q = .int .i64 (l - xs.length - (sumW wBlob xs k : Nat)) ∧ 0 ≤ l - (xs.length : Int) - (sumW wBlob xs k : Nat) ∧ Ext w wr) (fun _ i _ => xs.length - (intOf i).toNat)
    case atStart => exact ⟨0, by omega, rfl, by rw [sumW_zero]; simp, by rw [sumW_zero]; omega, Ext.refl _⟩
    case round =>
      obtain ⟨k, hk, rfl, rfl, hs, hx⟩ := hrel
      have HX := Lib.hid hx
      clear hx
      by_cases hlt : k < xs.length
      · obtain ⟨g, o, rfl, hs0, es, hes, hc, hR⟩ := H.out.elem k hlt
        have HD0 := Lib.hid (show ∀ j u, es[j]? = some u → wr.cell? ⟨g, o + k * 2 + j, none⟩ = some u from fun j u hu => HX.out.cell (hc j u hu))
        have HES := Lib.hid (show es.length = 2 from hes)
        have HSS := Lib.hid (sumW_succ wBlob xs k hlt)
        have hq := HLE.out (k + 1)
        rw [HSS.out] at hq
        have hcz := szBlob_w es.toArray xs[k] (l - xs.length - (sumW wBlob xs k : Nat)) wr S ((nrBlob).ext hR HX.out) (by omega) (by omega)
        clear hc hR hes
        have hi : (0 : Int) ≤ (k : Int) := by omega
        have hi2 : (k : Int) < (xs.length : Int) := by omega
        by_cases h3 : l - (xs.length : Int) - (sumW wBlob xs k : Nat) - (wBlob xs[k] : Nat) < 0
        · rw [if_pos h3] at hcz
          have HP := Lib.hid (show l - ((xs.length + T : Nat) : Int) < 0 by omega)
          have HCZ := Lib.hid hcz
          clear hcz
          go_wp2_with (refine wpl_load ⟨g, o + k * 2, none⟩ es (by rw [HES.out]; exact aggBlobL) rfl _ rfl rfl (fun j u hu => by rw [Addr.add_lit]; exact HD0.out j u hu) ?_)
          refine HCZ.out.mono ?_
          rintro e w1 ⟨rfl, hx⟩
          have HX2 := Lib.hid (HX.out.trans hx)
          clear hx
          go_wp2
          go_ret
          exact ⟨by rw [← HZ.out, if_pos HP.out]; rfl, HX2.out⟩
        · rw [if_neg h3] at hcz
          have HCZ := Lib.hid hcz
          clear hcz
          go_wp2_with (refine wpl_load ⟨g, o + k * 2, none⟩ es (by rw [HES.out]; exact aggBlobL) rfl _ rfl rfl (fun j u hu => by rw [Addr.add_lit]; exact HD0.out j u hu) ?_)
          refine HCZ.out.mono ?_
          rintro e w1 ⟨rfl, hx⟩
          have HX2 := Lib.hid (HX.out.trans hx)
          clear hx
          go_wp2
          go_roundw
          case rel => exact ⟨k + 1, by omega, by go_num, by rw [HSS.out]; go_num, by rw [HSS.out]; omega, HX2.out⟩
          case measure => simp [intOf]; omega
      · obtain rfl : k = xs.length := by omega
        have e : sumW wBlob xs xs.length = T := by rw [sumW, List.take_length]; exact HT.out
        have HE := Lib.hid e
        rw [e] at hs
        clear e
        have HP := Lib.hid (show ¬ l - ((xs.length + T : Nat) : Int) < 0 by omega)
        go_wp2
        go_ret
        exact ⟨by rw [← HZ.out, if_neg (Int.not_lt.2 HP.out), HE.out]; exact ret_int (by omega), HX.out⟩

/-- the cells of a store -/
def RStore (w : World) (S : Nat → Prop) (cs : Array Value) (x : List Bl) : Prop := ∃ v, cs = #[v] ∧ RdN nrBlob w S v x
section
variable {w w' : World} {S : Nat → Prop} {cs : Array Value} {x : List Bl}
theorem RStore.ext (h : RStore w S cs x) (e : Ext w w') : RStore w' S cs x := by
  obtain ⟨v, h1, h2⟩ := h
  exact ⟨v, h1, h2.ext e⟩
theorem RStore.st (h : RStore w S cs x) : St 1 cs := by
  obtain ⟨v, rfl, h2⟩ := h
  obtain ⟨A, cap, rfl, _⟩ := h2.shape
  exact ⟨rfl, fun u hu => by simp at hu; subst hu; rfl⟩
end
theorem aggStoreL : Agg Try.prog 24 1 := Agg.mkS (fs := _) Try.underlying24 (by kernel_rfl)
theorem aggStoreI : Agg Try.prog 29 1 := Agg.mkS (fs := _) Try.underlying29 (by kernel_rfl)
set_option maxHeartbeats 1000000 in
set_option maxRecDepth 100000 in
theorem szStore_u (cs : Array Value) (x : List Bl) (l : Int) (w : World) (S : Nat → Prop) (h : RStore w S cs x) (h0 : -1 ≤ l) (h1 : l ≤ 1048576) :
    Calls Try.prog 8 #[.agg cs, .int .i64 l] w fun e w' => e = .returned (.int .i64 (if l - (szW wBlob x : Nat) < 0 then -1 else l - (szW wBlob x : Nat))) ∧ Ext w w' := by
  obtain ⟨v, rfl, hr⟩ := h
  have hc := fun W hW => szBlobS_u v x l W S (hr.ext hW) h0 h1
  obtain ⟨A, cap, rfl, _⟩ := hr.shape
  clear hr
  by_cases h2 : l - (szW wBlob x : Nat) < 0
  · rw [if_pos h2]
    simp only [if_pos h2] at hc
    go_enter Try.func8, Try.ntmps8
    go_wp2_with fail
    refine (hc _ (ext_alloc _ _)).mono ?_
    rintro e w1 ⟨rfl, hx⟩
    have HX := Lib.hid ((ext_alloc _ _).trans hx)
    clear hx hc
    go_wp2
    go_ret
    exact ⟨rfl, HX.out⟩
  · rw [if_neg h2]
    simp only [if_neg h2] at hc
    go_enter Try.func8, Try.ntmps8
    go_wp2_with fail
    refine (hc _ (ext_alloc _ _)).mono ?_
    rintro e w1 ⟨rfl, hx⟩
    have HX := Lib.hid ((ext_alloc _ _).trans hx)
    clear hx hc
    go_wp2
    go_ret
    exact ⟨rfl, HX.out⟩
set_option maxHeartbeats 1000000 in
set_option maxRecDepth 100000 in
theorem toStore_u (cs : Array Value) (x : List Bl) (w : World) (S : Nat → Prop) (h : RStore w S cs x) (hln : x.length ≤ 1048576) :
    Calls Try.prog 10 #[.agg cs] w fun e w' => ∃ cs', e = .returned (.agg cs') ∧ RStore w' (fun g => w.heap.size ≤ g) cs' x ∧ Ext w w' := by
  obtain ⟨v, rfl, hr⟩ := h
  have hc := fun W hW => toBlobS_u v x W S (hr.ext hW) hln (fun _ _ => trivial)
  obtain ⟨A, cap, rfl, _⟩ := hr.shape
  clear hr
  go_enter Try.func10, Try.ntmps10
  go_wp2_with fail
  refine (hc _ (((ext_alloc _ _).alloc _).alloc _)).mono ?_
  rintro e w1 ⟨v', rfl, hr, hx⟩
  obtain ⟨B, bc, rfl, _⟩ := hr.shape
  have HR := Lib.hid (hr.mono (S' := fun q => w.heap.size + 3 ≤ q) (fun q hq => by simpa using hq))
  have XW := Lib.hid ((((ext_alloc w _).alloc _).alloc _).trans hx)
  have B1 := Lib.hid (((Blk.new' (g := w.heap.size + 1) (w := w.alloc (.cells #[.slice A x.length cap] 24)) (by simp) 29 #[.slice none 0 0]).alloc (.cells #[.slice none 0 0] 29)).ext hx)
  have B2 := Lib.hid ((Blk.new' (g := w.heap.size + 2) (w := (w.alloc (.cells #[.slice A x.length cap] 24)).alloc (.cells #[.slice none 0 0] 29)) (by simp) 29 #[.slice none 0 0]).ext hx)
  clear hr hx hc
  have d1 := B1.out.at_ 0 rfl
  have d2 := B2.out.at_ 0 rfl
  have f1 := B1.out.free 0
  have f2 := B2.out.free 0
  go_wp2_with fail
  have HB := Lib.hid ((B1.out.far (p := ⟨w.heap.size + 1 + 1, 0, none⟩) (by show w.heap.size + 1 ≠ w.heap.size + 1 + 1; omega) (.slice B x.length bc)).set 0 (.slice B x.length bc))
  refine bodyPost_ret (results_blkB rfl _ rfl aggStoreI rfl HB.out) rfl ?_
  refine ⟨_, rfl, ⟨_, rfl, ?_⟩, (XW.out.set (by simp <;> omega) _).set (by simp <;> omega) _⟩
  exact (((HR.out.far (p := ⟨w.heap.size + 1 + 1, 0, none⟩) (fun g hg => by have h2 : w.heap.size + 3 ≤ g := hg; show g ≠ w.heap.size + 1 + 1; omega) (.slice B x.length bc)).far (p := ⟨w.heap.size + 1, 0, none⟩) (fun g hg => by have h2 : w.heap.size + 3 ≤ g := hg; show g ≠ w.heap.size + 1; omega) (.slice B x.length bc)).mono (fun g hg => by have h2 : w.heap.size + 3 ≤ g := hg; show w.heap.size ≤ g; omega))
set_option maxHeartbeats 1000000 in
set_option maxRecDepth 100000 in
theorem eqStore_u (cs cs' : Array Value) (x : List Bl) (w : World) (S S' : Nat → Prop) (h : RStore w S cs x) (h' : RStore w S' cs' x) :
    Calls Try.prog 12 #[.agg cs, .agg cs'] w fun e w' => e = .returned (.bool true) ∧ Ext w w' := by
  obtain ⟨v, rfl, hr⟩ := h
  obtain ⟨v', rfl, hr'⟩ := h'
  have hc := fun W hW => eqBlobS_u v v' x W S S' (hr.ext hW) (hr'.ext hW)
  obtain ⟨A, cap, rfl, _⟩ := hr.shape
  obtain ⟨A', cap', rfl, _⟩ := hr'.shape
  clear hr hr'
  go_enter Try.func12, Try.ntmps12
  go_wp2_with fail
  refine (hc _ ((ext_alloc _ _).alloc _)).mono ?_
  rintro e w1 ⟨rfl, hx⟩
  have XW := Lib.hid (((ext_alloc w _).alloc _).trans hx)
  clear hx hc
  go_wp2_with fail
  go_ret
  exact ⟨rfl, XW.out⟩
end Go.Proofs.Ytnklgkmpcochfaa
/- Whether two blobs are equal: the reference and the program. No condition. -/
namespace Go.Proofs.Ytnklgkmpcochfaa
open Go.RowKit
set_option linter.unusedVariables false
set_option linter.unusedSimpArgs false

theorem strOf_eq {xs ys : List Int} (hx : B8 xs) (hy : B8 ys) : ((strOfNums xs).toList == (strOfNums ys).toList) = (xs == ys) := by
  rw [ByteArray.toList_eq, ByteArray.toList_eq, Bool.eq_iff_iff, beq_iff_eq, beq_iff_eq]
  constructor
  · intro h
    have h1 : xs.map (fun n => UInt8.ofNat n.toNat) = ys.map (fun n => UInt8.ofNat n.toNat) := h
    clear h
    induction xs generalizing ys with
    | nil => cases ys with
      | nil => rfl
      | cons y r => simp at h1
    | cons x r ih =>
      cases ys with
      | nil => simp at h1
      | cons y q =>
        simp only [List.map_cons, List.cons.injEq] at h1
        have a := hx x (by simp)
        have b := hy y (by simp)
        have e := congrArg UInt8.toNat h1.1
        simp only [UInt8.toNat_ofNat'] at e
        have : x = y := by omega
        rw [this, ih (fun z hz => hx z (by simp [hz])) (fun z hz => hy z (by simp [hz])) h1.2]
  · rintro rfl
    rfl
theorem conv_str {v : Value} {xs : List Int} {w : World} {S : Nat → Prop} (h : RdL tByte w S v xs) : (convert 66 9 v).run Try.prog w = .ok (.string (strOfNums xs)) w := by
  obtain ⟨A, cap, rfl, hcap, hlen, hrd, hok⟩ := h
  rw [flat_bytes] at hrd
  rcases Nat.eq_zero_or_pos xs.length with h0 | h0
  · obtain rfl : xs = [] := List.eq_nil_of_length_eq_zero h0
    rw [run_convert_bytes_string w _ _ _ A _ cap Try.underlying66 Try.underlying5 Try.underlying9]
    cases A <;> simp [Conv.bytesToString, loadCells] <;> rfl
  · obtain ⟨g, o, rfl, _, hc⟩ := hrd.2 h0
    exact run_convert_bytes_arg w _ _ Try.underlying66 Try.underlying5 g o xs.length cap xs rfl (fun i hi => hc i _ (nums_at _ _ _ hi)) _ Try.underlying9

end Go.Proofs.Ytnklgkmpcochfaa
/- Equal lists of blobs: the reference and the program. No condition. -/
namespace Go.Proofs.Ytnklgkmpcochfaa
open Go.RowKit
set_option linter.unusedVariables false
set_option linter.unusedSimpArgs false

def sameBl (x y : Bl) : Bool := x.1 == y.1 && x.2 == y.2
end Go.Proofs.Ytnklgkmpcochfaa
/- Equal stores: the reference and the program. No condition. -/
namespace Go.Proofs.Ytnklgkmpcochfaa
open Go.RowKit
set_option linter.unusedVariables false
set_option linter.unusedSimpArgs false

end Go.Proofs.Ytnklgkmpcochfaa
/- Regions that draw their order and end in one store (number f), which waits for all others: behind it the region's condition is not asked. No condition. -/
namespace Go.Proofs.Ytnklgkmpcochfaa
open Go.RowKit
set_option linter.unusedVariables false
set_option linter.unusedSimpArgs false

section
variable {P : Program} {ops : Array Oper} {Q : Exit → Act → World → Prop} {md : Region.Mode} {S : World → Prop} {f : Nat}
/-- j waits for i, directly or by others, so many steps -/
def needB (md : Region.Mode) (ops : Array Oper) : Nat → Nat → Nat → Bool
  | 0, _, _ => false
  | k + 1, i, j => match ops[j]? with
    | none => false
    | some o => o.after.toList.any fun e => Region.binds md e && (e.on == i || needB md ops k i e.on)
/-- whatever has come up, all that it waits for has come up -/
def closedB (md : Region.Mode) (ops : Array Oper) (l : Array Bool) : Bool :=
  (List.range ops.size).all fun j => match ops[j]? with
    | none => true
    | some o => !(l.getD j false) || o.after.toList.all fun e => !(Region.binds md e) || l.getD e.on false
theorem closed_dep {l : Array Bool} (h : closedB md ops l = true) {j : Nat} {o : Oper} (ho : ops[j]? = some o) (hj : l.getD j false = true) : ∀ e ∈ o.after, Region.binds md e = true → l.getD e.on false = true := by
  intro e he hb
  have hlt : j < ops.size := (Array.getElem?_eq_some_iff.1 ho).1
  have h1 := List.all_eq_true.1 h j (List.mem_range.2 hlt)
  rw [ho] at h1
  simp only [hj, Bool.not_true, Bool.false_or, List.all_eq_true] at h1
  have h2 := h1 e (Array.mem_toList_iff.2 he)
  rw [hb] at h2
  simpa using h2
theorem need_listed {l : Array Bool} (h : closedB md ops l = true) : ∀ (k i j : Nat) (o : Oper), ops[j]? = some o → (∀ e ∈ o.after, Region.binds md e = true → l.getD e.on false = true) → needB md ops k i j = true → l.getD i false = true
  | 0, _, _, _, _, _, hn => by cases hn
  | k + 1, i, j, o, ho, hd, hn => by
    rw [needB, ho] at hn
    obtain ⟨e, he0, hbe⟩ := List.any_eq_true.1 hn
    have he := Array.mem_toList_iff.1 he0
    rw [Bool.and_eq_true, Bool.or_eq_true] at hbe
    have hl := hd e he hbe.1
    rcases hbe.2 with h1 | h1
    · rw [beq_iff_eq] at h1
      rw [← h1]
      exact hl
    · cases h3 : ops[e.on]? with
      | none =>
        cases k with
        | zero => cases h1
        | succ k => rw [needB, h3] at h1; cases h1
      | some o' => exact need_listed h k i e.on o' h3 (closed_dep h h3 hl) h1
theorem closed_set {l : Array Bool} (h : closedB md ops l = true) {j : Nat} (hj : j ∈ Region.ready md ops l) : closedB md ops (l.setIfInBounds j true) = true := by
  refine List.all_eq_true.2 fun q hq => ?_
  cases ho : ops[q]? with
  | none => rfl
  | some o =>
    simp only [Bool.or_eq_true, Bool.not_eq_true', List.all_eq_true]
    by_cases e : q = j
    · subst e
      obtain ⟨_, o', ho', hall⟩ := mem_ready.1 hj
      rw [ho] at ho'
      injection ho' with ho'
      subst ho'
      refine .inr fun e he0 => ?_
      have he := Array.mem_toList_iff.1 he0
      cases hb : Region.binds md e
      · exact .inl rfl
      · exact .inr (getD_set_true (hall e he hb))
    · cases hl : (l.setIfInBounds j true).getD q false with
      | false => exact .inl rfl
      | true =>
        rw [getD_set_ne false (Ne.symm e)] at hl
        refine .inr fun e he0 => ?_
        have he := Array.mem_toList_iff.1 he0
        cases hb : Region.binds md e
        · exact .inl rfl
        · exact .inr (getD_set_true (closed_dep h ho hl e he hb))
theorem need_not_ready {l : Array Bool} (h : closedB md ops l = true) {k i : Nat} (hn : needB md ops k i f = true) (hi : i ∈ Region.ready md ops l) : ¬ f ∈ Region.ready md ops l := fun hf => by
  obtain ⟨_, o, ho, hall⟩ := mem_ready.1 hf
  have h1 := need_listed h k i f o ho hall hn
  have h0 := (mem_ready.1 hi).1
  rcases Nat.lt_or_ge i l.size with h' | h'
  · simp [h'] at h0 h1; rw [h0] at h1; cases h1
  · simp [Array.getElem?_eq_none h'] at h1
/-- behind every operation but f the condition holds -/
def wpF (P : Program) (md : Region.Mode) (ops : Array Oper) (Q : Exit → Act → World → Prop) (S : World → Prop) (f : Nat) : Nat → Array Bool → Act → World → Prop
  | 0, l, a, w => Region.ready md ops l = [] ∧ Q .normal a w
  | n + 1, l, a, w => (Region.ready md ops l = [] → Q .normal a w) ∧ ∀ i ∈ Region.ready md ops l, wpOp P ops Q i (fun a' w' => (i ≠ f → S w') ∧ wpF P md ops Q S f n (l.setIfInBounds i true) a' w') a w
theorem wpF_any : ∀ (n : Nat) (l : Array Bool) (a : Act) (w : World), wpF P md ops Q S f n l a w → wpAny P md ops Q n l a w
  | 0, _, _, _, h => h
  | n + 1, l, a, w, h => ⟨h.1, fun i hi => wpOp_mono (fun a' w' k => wpF_any n _ a' w' k.2) (h.2 i hi)⟩
theorem wpF_first {i k : Nat} {oi : Oper} {v : Value} (hi : ops[i]? = some oi) (hsel : ∀ (j : Nat) (o : Oper) cs b, ops[j]? = some o → o.op ≠ .select cs b) (hQ : ∀ c a w, Q (.panic c) (a.put oi.dst v) w → Q (.panic c) a w) (hif : needB md ops k i f = true) :
    ∀ (n : Nat) (l : Array Bool) (a : Act) (w : World), closedB md ops l = true → (∀ j oj, ops[j]? = some oj → j ≠ i → l.getD j true = false → (∀ e ∈ oj.after, Region.binds md e = true → e.on ≠ i) → oi.apart ops oj = true) → i ∈ Region.ready md ops l → YieldsIf P ops S oi v a → S w →
      wpF P md ops Q S f n (l.setIfInBounds i true) (a.put oi.dst v) w → wpF P md ops Q S f (n + 1) l a w := by
  intro n
  induction n with
  | zero =>
    intro l a w hcl _ hr hy hS H
    refine ⟨fun h => (by rw [h] at hr; cases hr), fun j hj => ?_⟩
    by_cases e : j = i
    · subst e; exact hy.wpOp hi hS ⟨fun _ => hS, H⟩
    · have := ready_mono hj e
      rw [H.1] at this
      cases this
  | succ n ih =>
    intro l a w hcl hfree hr hy hS H
    refine ⟨fun h => (by rw [h] at hr; cases hr), fun j hj => ?_⟩
    by_cases e : j = i
    · subst e; exact hy.wpOp hi hS ⟨fun _ => hS, H⟩
    · have hjf : j ≠ f := fun h => need_not_ready hcl hif hr (h ▸ hj)
      have h1 := H.2 j (ready_mono hj e)
      obtain ⟨hjun, oj, hoj, hall⟩ := mem_ready.1 hj
      have hnot : ∀ e ∈ oj.after, Region.binds md e = true → e.on ≠ i := fun e he hb heq => by
        have h1 := hall e he hb
        have h0 := (mem_ready.1 hr).1
        rw [heq] at h1
        rcases Nat.lt_or_ge i l.size with h' | h'
        · simp [h'] at h0 h1; rw [h0] at h1; cases h1
        · simp [Array.getElem?_eq_none h'] at h1
      have h2 := wpOp_putIf hoj (hfree j oj hoj e hjun hnot) (fun cs b => hsel i oi cs b hi) (fun cs b => hsel j oj cs b hoj) hQ hy h1
      have hfree' : ∀ k ok, ops[k]? = some ok → k ≠ i → (l.setIfInBounds j true).getD k true = false → (∀ e ∈ ok.after, Region.binds md e = true → e.on ≠ i) → oi.apart ops ok = true := fun k ok hk hki hun hno => by
        refine hfree k ok hk hki ?_ hno
        by_cases hjk : j = k
        · subst hjk; exact hjun
        · rw [getD_set_ne true hjk] at hun; exact hun
      refine wpOp_mono (fun a' w' h3 => ⟨fun _ => h3.2.1 hjf, ih (l.setIfInBounds j true) a' w' (closed_set hcl hj) hfree' (ready_mono hr (Ne.symm e)) h3.1 (h3.2.1 hjf) ?_⟩) h2
      rw [Array.setIfInBounds_comm _ _ e]
      exact h3.2.2
/-- operation i is taken first -/
theorem wpF_take {i : Nat} {oi : Oper} {v : Value} {n : Nat} {l : Array Bool} {a : Act} {w : World} (hi : ops[i]? = some oi) (hs : Region.noSelect ops = true) (hf : Region.free md ops l i = true) (hr : (Region.ready md ops l).contains i = true) (hc : (needB md ops ops.size i f && closedB md ops l) = true)
    (hQ : ∀ c a w, Q (.panic c) (a.put oi.dst v) w → Q (.panic c) a w) (hy : YieldsIf P ops S oi v a) (hS : S w) (h : wpF P md ops Q S f n (l.setIfInBounds i true) (a.put oi.dst v) w) : wpF P md ops Q S f (n + 1) l a w := by
  rw [Bool.and_eq_true] at hc
  exact wpF_first hi (Region.noSelect_spec hs) hQ hc.1 n l a w hc.2 (Region.free_spec hi hf) (by simpa using hr) hy hS h
def AllF (P : Program) (md : Region.Mode) (ops : Array Oper) (Q : Exit → Act → World → Prop) (S : World → Prop) (f n : Nat) (l : Array Bool) (a : Act) (w : World) (rs : List Nat) : Prop :=
  ∀ i ∈ rs, wpOp P ops Q i (fun a' w' => (i ≠ f → S w') ∧ wpF P md ops Q S f n (l.setIfInBounds i true) a' w') a w
theorem AllF.nil {n : Nat} {l : Array Bool} {a : Act} {w : World} : AllF P md ops Q S f n l a w [] := fun _ h => by cases h
theorem AllF.cons {n : Nat} {l : Array Bool} {a : Act} {w : World} {i : Nat} {o : Oper} {rs : List Nat} (ho : ops[i]? = some o)
    (h : ∀ K' : Act → World → Prop, Shut (∀ a w, (i ≠ f → S w) → wpF P md ops Q S f n (l.setIfInBounds i true) a w → K' a w) → if Region.wanted o (yielded ops a.tmps) = true then Oper.wp P o a w K' Q else K' (a.put o.dst undef) w)
    (hs : AllF P md ops Q S f n l a w rs) : AllF P md ops Q S f n l a w (i :: rs) := fun j hj => by
  rcases List.mem_cons.1 hj with rfl | hj
  · exact wpOp_step ho (fun K' hK => h K' (fun a w hS hW => hK a w ⟨hS, hW⟩))
  · exact hs j hj
theorem wpF_ready {rs : List Nat} {n : Nat} {l : Array Bool} {a : Act} {w : World} (hr : Region.ready md ops l = rs) (hne : rs ≠ []) (h : AllF P md ops Q S f n l a w rs) : wpF P md ops Q S f (n + 1) l a w := ⟨fun h0 => absurd (hr ▸ h0) hne, hr ▸ h⟩
theorem wpF_done {l : Array Bool} {a : Act} {w : World} (hr : Region.ready md ops l = []) (h : Q .normal a w) : ∀ n, wpF P md ops Q S f n l a w
  | 0 => ⟨hr, h⟩
  | _ + 1 => ⟨fun _ => h, by rw [hr]; simp⟩
/-- the beginning -/
theorem wp_region_f (f : Nat) {id : Nat} {a : Act} {w : World} (hm : P.follows .mixedOrders = true) (hS : S w.drew) (h : S w.drew → wpF P .any ops Q S f ops.size (Array.replicate ops.size false) a w.drew) : (Code.region id ops true).wp P Q a w :=
  wp_region_any hm (wpF_any _ _ _ _ (h hS))
end
/-- a slice literal of one element, a struct or an array: one step of a region -/
theorem run_one {α : Type} {P : Program} {T : Ty α} {t e : TypeId} {bytes : Nat} (R : Row P T t e bytes) (hb : T.sz ≤ 16777216) (x : α) (hx : T.ok x) (w : World) :
    (Instr.buildSlice t 1 #[(0, .agg (T.enc x).toArray)]).run P w = .ok (.slice (some ⟨w.heap.size, 0, none⟩) 1 1) (w.alloc (.cells (T.enc x).toArray e)) := by
  obtain ⟨i, z, hi, hz, hs, hby, hzs⟩ := R.info
  have hp := R.sz
  refine run_buildSlice w t e 1 _ _ i z R.ht hi hz (by rw [hs]; omega) (by rw [hs]; omega) ?_
  have h := Great.fill_whole (s := i.size) (by rw [hs]; exact hp) [.agg (T.enc x).toArray] ((Array.range (1 * i.size)).map (z.cells[· % z.cells.size]!)) (fun v hv => by rw [List.mem_singleton.1 hv]; simp [Value.cells, T.len x hx, hs]) (by simp)
  simpa [Value.cells] using h
theorem stp_one {α : Type} {P : Program} {T : Ty α} {t e : TypeId} {bytes : Nat} (R : Row P T t e bytes) (hb : T.sz ≤ 16777216) (x : α) (hx : T.ok x) {ops : Array Oper} {o : Oper} {a : Act} {w : World} {K : Act → World → Prop} {Q : Exit → Act → World → Prop} {E : Prop} (hgd : o.guard = none) (y : Operand)
    (ho : o.op = .buildSlice t 1 #[(0, y)]) (hy : a.eval y = .agg (T.enc x).toArray) (h : K (a.put o.dst (.slice (some ⟨w.heap.size, 0, none⟩) 1 1)) (w.alloc (.cells (T.enc x).toArray e))) :
    if Region.wanted o (yielded ops a.tmps) = true then Oper.wp P o a w K Q else E := by
  have hw : Region.wanted o (yielded ops a.tmps) = true := by simp [Region.wanted, hgd]
  rw [if_pos hw]
  have hrun := run_one R hb x hx w
  unfold Oper.wp execOp
  simp only [ho, Sem.run_bind, List.map_toArray, List.map_cons, List.map_nil, hy, hrun, Result.andThen_ok]
  exact h
theorem wpl_one {α : Type} {P : Program} {T : Ty α} {t e : TypeId} {bytes : Nat} (R : Row P T t e bytes) (hb : T.sz ≤ 16777216) (x : α) (hx : T.ok x) {ops : Array Oper} {rest : List Oper} {o : Oper} {a : Act} {w : World} {Q : Exit → Act → World → Prop} (hgd : o.guard = none) (y : Operand)
    (ho : o.op = .buildSlice t 1 #[(0, y)]) (hy : a.eval y = .agg (T.enc x).toArray) (h : wpList P ops Q rest (a.put o.dst (.slice (some ⟨w.heap.size, 0, none⟩) 1 1)) (w.alloc (.cells (T.enc x).toArray e))) : wpList P ops Q (o :: rest) a w := by
  refine wpList_plain hgd fun K hK => ?_
  have hrun := run_one R hb x hx w
  unfold Oper.wp execOp
  simp only [ho, Sem.run_bind, List.map_toArray, List.map_cons, List.map_nil, hy, hrun, Result.andThen_ok]
  exact hK _ _ h
end Go.Proofs.Ytnklgkmpcochfaa
/- Stores: which are valid; their blobs as cells; a blob among others. No condition. -/
namespace Go.Proofs.Ytnklgkmpcochfaa
open Go.RowKit
set_option linter.unusedVariables false
set_option linter.unusedSimpArgs false

def keyB (b : Bl) : List Int := hashL b.1 b.2
theorem keyB_ok (b : Bl) : K32 (keyB b) := hashL_ok _ _
def keysS (x : List Bl) : List (List Int) := x.map keyB
theorem keysS_length (x : List Bl) : (keysS x).length = x.length := by simp [keysS]
theorem keysS_at (x : List Bl) (i : Nat) (h : i < x.length) : (keysS x)[i]'(by rw [keysS_length]; exact h) = keyB x[i] := by simp [keysS]
theorem keysS_ok (x : List Bl) : ∀ k ∈ keysS x, K32 k := by
  intro k hk
  obtain ⟨b, _, rfl⟩ := List.mem_map.1 hk
  exact keyB_ok b
theorem keysS_take (x : List Bl) (k : Nat) (h : k < x.length) : (keysS x).take (k + 1) = (keysS x).take k ++ [keyB x[k]] := by
  rw [List.take_succ_eq_append_getElem (by rw [keysS_length]; exact h), keysS_at]
/-- no blob is too long -/
@[irreducible] def fitB (x : List Bl) (k : Nat) : Bool := (x.take k).all fun b => decide (b.2.length ≤ 1024)
theorem fitB_zero (x : List Bl) : fitB x 0 = true := by rw [fitB]; rfl
theorem fitB_succ (x : List Bl) (k : Nat) (h : k < x.length) : fitB x (k + 1) = (fitB x k && decide (x[k].2.length ≤ 1024)) := by
  rw [fitB, fitB, List.take_succ_eq_append_getElem h, List.all_append]; simp
theorem fitB_bad (x : List Bl) (k : Nat) (h : k < x.length) (hb : ¬ x[k].2.length ≤ 1024) : fitB x x.length = false := by
  rw [fitB, List.take_length, List.all_eq_false]
  exact ⟨x[k], List.getElem_mem h, by simpa using hb⟩
theorem fitB_all {x : List Bl} (h : fitB x x.length = true) (k : Nat) (hk : k < x.length) : x[k].2.length ≤ 1024 := by
  rw [fitB, List.take_length, List.all_eq_true] at h
  simpa using h x[k] (List.getElem_mem hk)
theorem fitB_iff (x : List Bl) : fitB x x.length = x.all (fun b => decide (b.2.length ≤ 1024)) := by rw [fitB, List.take_length]
/-- a valid store -/
@[irreducible] def okSt (x : List Bl) : Bool := decide (x.length ≤ 128) && fitB x x.length && srtB (keysS x) x.length
theorem okSt_eq (x : List Bl) : okSt x = (decide (x.length ≤ 128) && fitB x x.length && srtB (keysS x) x.length) := by rw [okSt]
theorem okSt_yes {x : List Bl} (h : okSt x = true) : x.length ≤ 128 ∧ (∀ k (hk : k < x.length), x[k].2.length ≤ 1024) ∧ srtB (keysS x) x.length = true := by
  rw [okSt_eq, Bool.and_eq_true, Bool.and_eq_true, decide_eq_true_iff] at h
  exact ⟨h.1.1, fitB_all h.1.2, h.2⟩

/-! ### Blobs as cells -/
abbrev BC := Int × Option Addr × Nat × Nat
def tBlC : Ty BC := ⟨2, fun c => [.int .u8 c.1, .slice c.2.1 c.2.2.1 c.2.2.2], fun _ => True, fun _ _ => rfl, fun _ u hu => by simp at hu; rcases hu with rfl | rfl <;> rfl⟩
theorem rowBlC : Row Try.prog tBlC 27 68 32 := Row.mk' Try.underlying27 (.agg #[.int .u8 0, .slice none 0 0]) (by kernel_rfl) rfl (by decide) (by decide)
/-- the cells c stand for the blob x -/
def BCof (w : World) (S : Nat → Prop) (c : BC) (x : Bl) : Prop := c.1 = x.1 ∧ RdL tByte w S (.slice c.2.1 c.2.2.1 c.2.2.2) x.2 ∧ 0 ≤ x.1 ∧ x.1 ≤ 255
theorem BCof.len {w : World} {S : Nat → Prop} {c : BC} {x : Bl} (h : BCof w S c x) : c.2.2.1 = x.2.length := by
  obtain ⟨_, ⟨A, cap, e, _⟩, _⟩ := h
  injection e
theorem BCof.ext {w w' : World} {S : Nat → Prop} {c : BC} {x : Bl} (h : BCof w S c x) (e : Ext w w') : BCof w' S c x := ⟨h.1, h.2.1.ext (by decide) e, h.2.2⟩
/-- all cells of a list of blobs -/
theorem blobs_cells {w : World} {S : Nat → Prop} {v : Value} {xs : List Bl} (h : RdN nrBlob w S v xs) :
    ∃ ys : List BC, ys.length = xs.length ∧ RdL tBlC w S v ys ∧ ∀ i (h1 : i < ys.length) (h2 : i < xs.length), BCof w S ys[i] xs[i] := by
  obtain ⟨A, cap, rfl, hcap, hlen⟩ := h.shape
  have key : ∀ i, ∃ c : BC, ∀ (hi : i < xs.length), BCof w S c xs[i] ∧ ∀ g o, A = some ⟨g, o, none⟩ → ∀ j u, (tBlC.enc c)[j]? = some u → w.cell? ⟨g, o + i * 2 + j, none⟩ = some u := by
    intro i
    by_cases hi : i < xs.length
    · obtain ⟨g, o, e, hS, es, hes, hc, v', e2, hr, h3⟩ := h.elem i hi
      obtain ⟨A', cap', rfl, _⟩ := id hr
      refine ⟨(xs[i].1, A', xs[i].2.length, cap'), fun _ => ⟨⟨rfl, hr, h3⟩, fun g' o' e' j u hu => ?_⟩⟩
      rw [e] at e'
      injection e' with e'
      injection e' with e1 e2'
      subst e1 e2'
      refine hc j u ?_
      have e3 : es = [.int .u8 xs[i].1, .slice A' xs[i].2.length cap'] := by
        have := congrArg Array.toList e2
        simpa using this
      rw [e3]
      exact hu
    · exact ⟨(0, none, 0, 0), fun h => absurd h hi⟩
  refine ⟨(List.range xs.length).map fun i => (key i).choose, by simp, ⟨A, cap, by simp, by simpa using hcap, by simpa using hlen, ?_, fun _ _ => trivial⟩, fun i h1 h2 => ?_⟩
  · refine ⟨by rw [flat_length tBlC _ (fun _ _ => trivial)], fun hn => ?_⟩
    have hn' : 0 < xs.length := by simpa using hn
    obtain ⟨g, o, e, hS, _⟩ := h.elem 0 hn'
    refine ⟨g, o, e, hS, fun j u hu => ?_⟩
    have hj : j < xs.length * 2 := by
      have := (List.getElem?_eq_some_iff.1 hu).1
      rw [flat_length tBlC _ (fun _ _ => trivial)] at this
      simp only [List.length_map, List.length_range] at this
      exact this
    have hi : j / 2 < xs.length := by omega
    have h4 := flat_at tBlC ((List.range xs.length).map fun i => (key i).choose) (fun _ _ => trivial) (j / 2) (by simpa using hi) (j % 2) (by show j % 2 < 2; omega)
    rw [show j / 2 * tBlC.sz + j % 2 = j by show j / 2 * 2 + j % 2 = j; omega, hu] at h4
    simp only [List.getElem_map, List.getElem_range] at h4
    have h5 := ((key (j / 2)).choose_spec hi).2 g o e (j % 2) u h4.symm
    rwa [show o + j / 2 * 2 + j % 2 = o + j by omega] at h5
  · simp only [List.getElem_map, List.getElem_range]
    exact ((key i).choose_spec h2).1

/-! ### A blob among others -/
set_option maxHeartbeats 1000000 in
set_option maxRecDepth 100000 in
theorem l05Key_at (t : Int) (ht : 0 ≤ t ∧ t ≤ 255) (v : Value) (xs : List Int) (w : World) (S : Nat → Prop) (h : RdL tByte w S v xs) (hl : xs.length ≤ 1024) (b o : Nat) (c0 : w.cell? ⟨b, o, none⟩ = some (.int .u8 t)) (c1 : w.cell? ⟨b, o + 1, none⟩ = some v) :
    Calls Try.prog 57 #[.pointer (some ⟨b, o, none⟩)] w fun e w' => e = .returned (.agg (numsA .u8 (hashL t xs))) ∧ Ext w w' := by
  have hk := (hashL_ok t xs).1
  have H := Lib.hid h
  obtain ⟨A, cap, rfl, hcap, hlen, _, _⟩ := h
  have hlt : b < w.heap.size := World.block_lt_of_cell? w _ c0
  go_enter Try.func57, Try.ntmps57
  go_wp2_with fail
  have hsz := sizeN (k := .u8) hk
  go_region_law (go_simp; go_at_call 90; refine (l01Hash_any t ht _ xs _ S (H.out.ext (by decide) ((ext_alloc _ _).drewN 1)) (by omega)).mono ?_; rintro e p1 ⟨rfl, hx⟩; have HB := Lib.hid (((Blk.new w 53 _).drewN 1).ext hx); have HX := Lib.hid (((ext_alloc w _).drewN 1).trans hx); clear hx; have hst := run_storeN (k := .u8) Try.prog HB.out hk rfl)
  all_goals
    go_wp2_with fail
    refine bodyPost_ret (results_blk rfl _ rfl aggKey hk (HB.out.setRow _)) rfl ?_
    exact ⟨rfl, HX.out.setRow (Nat.le_refl _) _⟩
set_option maxHeartbeats 1000000 in
set_option maxRecDepth 100000 in
theorem l05Blob_at (A : Option Addr) (n cap : Nat) (w : World) (b o : Nat) (c1 : w.cell? ⟨b, o + 1, none⟩ = some (.slice A n cap)) :
    Calls Try.prog 56 #[.pointer (some ⟨b, o, none⟩)] w fun e w' => e = .returned (.bool (decide (n ≤ 1024))) ∧ w = w' := by
  go_enter Try.func56, Try.ntmps56
  go_wp2
  go_ret
  exact ⟨ret_bool (by simp; omega), rfl⟩
end Go.Proofs.Ytnklgkmpcochfaa
/- Marks laid on lists of keys, and read. No condition. -/
namespace Go.Proofs.Ytnklgkmpcochfaa
open Go.RowKit
set_option linter.unusedVariables false
set_option linter.unusedSimpArgs false

/-- the keys of v hold the marks m, m + 1, .. -/
def MarkedK (w : World) (S : Nat → Prop) (v : Value) (n : Nat) (m : Int) : Prop :=
  ∃ A cap, v = .slice A n cap ∧ n ≤ 140737488355328 ∧ (0 < n → ∃ g o, A = some ⟨g, o, none⟩ ∧ S g ∧ ∀ j, j < n * 32 → w.cell? ⟨g, o + j, none⟩ = some (.int .u8 ((m + j) % 256)))
theorem MarkedK.ext {w w' : World} {S : Nat → Prop} {v : Value} {n : Nat} {m : Int} (h : MarkedK w S v n m) (e : Ext w w') : MarkedK w' S v n m := by
  obtain ⟨A, cap, h1, h2, h3⟩ := h
  refine ⟨A, cap, h1, h2, fun hn => ?_⟩
  obtain ⟨g, o, h4, h5, h6⟩ := h3 hn
  exact ⟨g, o, h4, h5, fun j hj => e.cell (h6 j hj)⟩
theorem Own.far_of_lt {α : Type} {T : Ty α} {e : TypeId} {w : World} {base g : Nat} {v : Value} {xs : List α} (h : Own T e w base v xs) (hg : g < base) : some g ≠ v.ownBlock := fun e => by have := (h.base_le _ e.symm).1; omega
theorem Own.far_of_ge {α : Type} {T : Ty α} {e : TypeId} {w : World} {base g : Nat} {v : Value} {xs : List α} (h : Own T e w base v xs) (hg : w.heap.size ≤ g) : some g ≠ v.ownBlock := fun e => by have := (h.base_le _ e.symm).2; omega
set_option maxHeartbeats 1000000 in
set_option maxRecDepth 100000 in
theorem markKeyS_any (v : Value) (n : Nat) (m : Int) (w : World) (lo : Nat) (h : Wr w lo 32 v n) (hm : 0 ≤ m) (hmn : m + n * 32 ≤ 1000000000000000) :
    Calls Try.prog 19 #[v, .int .i64 m] w fun e w' => e = .returned (.int .i64 (m + n * 32)) ∧ MarkedK w' (fun g => lo ≤ g ∧ some g = v.ownBlock) v n m ∧ w.grownBy w' v.ownBlock := by
  obtain ⟨A, cap, rfl, hcap, hlen, hw⟩ := h
  have HW := Lib.hid hw
  clear hw
  by_cases h0 : n = 0
  · subst h0
    go_enter Try.func19, Try.ntmps19
    go_wp2
    go_loopw [1, 5] (fun q i wr => q = .int .i64 m ∧ i = .int .i64 0 ∧ wr = w) (fun _ _ _ => 0)
    case atStart => exact ⟨rfl, rfl, rfl⟩
    case round =>
      obtain ⟨rfl, rfl, rfl⟩ := hrel
      go_wp2
      go_ret
      exact ⟨ret_int (by simp), ⟨A, cap, rfl, by omega, fun h => by omega⟩, grown_refl _ _⟩
  · obtain ⟨g, o, cur, t, rfl, hlo, hB, hsz⟩ := HW.out (by omega)
    have HB := Lib.hid hB
    clear hB
    go_enter Try.func19, Try.ntmps19
    go_wp2
    go_loopw [1, 5, 6] (fun q i _ wr => ∃ k : Nat, k ≤ n ∧ q = .int .i64 (m + (k : Int) * 32) ∧ i = .int .i64 k ∧ (∃ cur', Blk wr g t cur' ∧ cur'.size = cur.size ∧ ∀ j, j < k * 32 → cur'[o + j]? = some (.int .u8 ((m + j) % 256))) ∧ w.grownBy wr (some g))
      (fun _ i _ _ => n - (intOf i).toNat)
    case atStart => exact ⟨0, by omega, by simp, rfl, ⟨cur, HB.out, rfl, fun j hj => by omega⟩, grown_refl _ _⟩
    case round =>
      obtain ⟨k, hk, rfl, rfl, ⟨cur', hB', hs', hc'⟩, hg⟩ := hrel
      have HG := Lib.hid hg
      have HC := Lib.hid hc'
      have HS := Lib.hid hs'
      have HB' := Lib.hid hB'
      clear hg hc' hs' hB'
      obtain ⟨wo, rfl⟩ : ∃ wo : World, wo = wr := ⟨_, rfl⟩
      by_cases hlt : k < n
      · go_wp2
        go_loopw [1, 6] (fun q i wr => ∃ j : Nat, j ≤ 32 ∧ q = .int .i64 (m + (k : Int) * 32 + j) ∧ i = .int .i64 j ∧ (∃ cur', Blk wr g t cur' ∧ cur'.size = cur.size ∧ ∀ p, p < k * 32 + j → cur'[o + p]? = some (.int .u8 ((m + p) % 256))) ∧ w.grownBy wr (some g))
          (fun _ i _ => 32 - (intOf i).toNat)
        case atStart => exact ⟨0, by omega, by simp, rfl, ⟨cur', HB'.out, HS.out, fun j hj => HC.out j (by omega)⟩, HG.out⟩
        case round =>
          clear HB' HS HC HG
          obtain ⟨j, hj, rfl, rfl, ⟨cur2, hB2, hs2, hc2⟩, hg2⟩ := hrel
          have HG := Lib.hid hg2
          have HC := Lib.hid hc2
          have HS := Lib.hid hs2
          clear hg2 hc2 hs2
          by_cases hlj : j < 32
          · have hin : o + k * 32 + j < cur2.size := by rw [HS.out]; omega
            have hcell : wr.cell? ⟨g, o + k * 32 + j, none⟩ = some cur2[o + k * 32 + j] := hB2.at_ _ (Array.getElem?_eq_getElem hin)
            have hfr := hB2.free (o + k * 32 + j)
            have HB2 := Lib.hid hB2
            clear hB2
            go_wp2
            go_roundw
            case rel => exact ⟨j + 1, by omega, by go_num, by go_num, ⟨_, HB2.out.set (o + k * 32 + j) _, by simp [HS.out], fun p hp => by
              by_cases hpk : p = k * 32 + j
              · subst hpk
                rw [← Nat.add_assoc]
                simp [hin]
                omega
              · rw [Array.getElem?_setIfInBounds_ne (by omega)]; exact HC.out p (by omega)⟩, grown_set HG.out _⟩
            case measure => simp [intOf]; omega
          · obtain rfl : j = 32 := by omega
            have HB2 := Lib.hid hB2
            clear hB2
            go_wp2
            go_roundw
            case rel => exact ⟨k + 1, by omega, by go_num, by go_num, ⟨_, HB2.out, HS.out, fun p hp => HC.out p (by omega)⟩, HG.out⟩
            case measure => simp [intOf]; omega
      · go_wp2
        go_ret
        obtain rfl : k = n := by omega
        refine ⟨rfl, ⟨_, cap, rfl, hlen, fun _ => ⟨g, o, rfl, ⟨hlo, rfl⟩, fun j hj => by rw [HB'.out.cell, HC.out j hj]⟩⟩, HG.out⟩
set_option maxHeartbeats 1000000 in
set_option maxRecDepth 100000 in
theorem heldKeyS_any (v : Value) (n : Nat) (m : Int) (w : World) (S : Nat → Prop) (h : MarkedK w S v n m) (hm : 0 ≤ m) (hmn : m + n * 32 ≤ 1000000000000000) :
    Calls Try.prog 20 #[v, .int .i64 m] w fun e w' => e = .returned (.int .i64 (m + n * 32)) ∧ Ext w w' := by
  obtain ⟨A, cap, rfl, hlen, hw⟩ := h
  have HW := Lib.hid hw
  clear hw
  go_enter Try.func20, Try.ntmps20
  go_wp2
  go_loopw [1, 5, 6] (fun q i _ wr => ∃ k : Nat, k ≤ n ∧ q = .int .i64 (m + (k : Int) * 32) ∧ i = .int .i64 k ∧ Ext w wr) (fun _ i _ _ => n - (intOf i).toNat)
  case atStart => exact ⟨0, by omega, by simp, rfl, Ext.refl _⟩
  case round =>
    obtain ⟨k, hk, rfl, rfl, hx⟩ := hrel
    have HX := Lib.hid hx
    clear hx
    obtain ⟨wo, rfl⟩ : ∃ wo : World, wo = wr := ⟨_, rfl⟩
    by_cases hlt : k < n
    · obtain ⟨g, o, rfl, hs, hc⟩ := HW.out (by omega)
      have HC := Lib.hid hc
      clear hc
      go_wp2
      go_loopw [1, 6] (fun q i wr => ∃ j : Nat, j ≤ 32 ∧ q = .int .i64 (m + (k : Int) * 32 + j) ∧ i = .int .i64 j ∧ Ext w wr) (fun _ i _ => 32 - (intOf i).toNat)
      case atStart => exact ⟨0, by omega, by simp, rfl, HX.out⟩
      case round =>
        clear HX
        obtain ⟨j, hj, rfl, rfl, hx⟩ := hrel
        have HX := Lib.hid hx
        clear hx
        by_cases hlj : j < 32
        · have hd : wr.cell? ⟨g, o + k * 32 + j, none⟩ = some (.int .u8 ((m + (k : Int) * 32 + j) % 256)) := by
            have := HX.out.cell (HC.out (k * 32 + j) (by omega))
            rw [Nat.add_assoc, this]
            congr 2
            omega
          have hne : (((m + (k : Int) * 32 + j) % 256 : Int) != (m + (k : Int) * 32 + j) % 256) = false := by simp
          go_wp2
          go_roundw
          case rel => exact ⟨j + 1, by omega, by go_num, by go_num, HX.out⟩
          case measure => simp [intOf]; omega
        · obtain rfl : j = 32 := by omega
          go_wp2
          go_roundw
          case rel => exact ⟨k + 1, by omega, by go_num, by go_num, HX.out⟩
          case measure => simp [intOf]; omega
    · go_wp2
      go_ret
      obtain rfl : k = n := by omega
      exact ⟨rfl, HX.out⟩

end Go.Proofs.Ytnklgkmpcochfaa
/- The reference's stores, opened. No condition. -/
namespace Go.Proofs.Ytnklgkmpcochfaa
open Go.RowKit
set_option linter.unusedVariables false
set_option linter.unusedSimpArgs false

theorem yields_loadBS9 {P : Program} {ops : Array Oper} {o : Oper} {a : Act} {S : World → Prop} {t g e n : Nat} {cs : Array Value} (hb : ∀ W, S W → Blk W g e cs) (ht : Agg P t n) (hn : cs.size = n) (hw : Region.wanted o (yielded ops a.tmps) = true) (x : Operand) (ho : o.op = .load t x) (hx : a.eval x = .pointer (some ⟨g, 0, none⟩)) :
    YieldsIf P ops S o (.agg cs) a := Or.inl ⟨hw, fun W hW => by
  unfold execOp
  simp only [ho, hx, Instr.loadAt, Instr.sureAddr, Sem.run_bind, Sem.run_pure, Result.andThen_ok, run_loadB (hb W hW) ht hn]⟩
theorem yields_loadS9 {P : Program} {ops : Array Oper} {op : Oper} {a : Act} {S : World → Prop} {t : Nat} (g o : Nat) (cs : List Value) (ht : Agg P t cs.length) (hc : ∀ W, S W → ∀ j u, cs[j]? = some u → W.cell? ⟨g, o + j, none⟩ = some u) (hw : Region.wanted op (yielded ops a.tmps) = true) (x : Operand) (ho : op.op = .load t x) (hx : a.eval x = .pointer (some ⟨g, o, none⟩)) :
    YieldsIf P ops S op (.agg cs.toArray) a := Or.inl ⟨hw, fun W hW => by
  have hl := run_loadVar_at (P := P) (w := W) (t := t) ⟨g, o, none⟩ cs ht (fun j u hu => by rw [Addr.add_lit]; exact hc W hW j u hu)
  unfold execOp
  simp only [ho, hx, Instr.loadAt, Instr.sureAddr, Sem.run_bind, Sem.run_pure, Result.andThen_ok, hl]⟩
theorem rowKey9 : Row Try.prog tKey 35 53 32 := Row.mk' Try.underlying35 (.agg (numsA .u8 (List.replicate 32 0))) (by kernel_rfl) rfl (by decide) (by decide)
/-- a row of one's own and a row to which has been appended lie apart -/
theorem apart_new {α : Type} {T : Ty α} {e : TypeId} {w : World} {base : Nat} {u v v' : Value} {xs : List α} (h : Own T e w base u xs) (hn : u.ownBlock = none ∨ u.ownBlock ≠ v.ownBlock) (hat : v'.ownBlock = v.ownBlock ∨ v'.ownBlock = some w.heap.size) : u.ownBlock = none ∨ u.ownBlock ≠ v'.ownBlock := by
  rcases hat with hat | hat
  · rw [hat]; exact hn
  · rw [hat]
    cases hu : u.ownBlock with
    | none => exact .inl rfl
    | some k => exact .inr fun q => by injection q with q; have := (h.base_le k hu).2; omega
theorem apart_new' {α : Type} {T : Ty α} {e : TypeId} {w : World} {base : Nat} {u v v' : Value} {xs : List α} (h : Own T e w base u xs) (hn : v.ownBlock = none ∨ v.ownBlock ≠ u.ownBlock) (hat : v'.ownBlock = v.ownBlock ∨ v'.ownBlock = some w.heap.size) : v'.ownBlock = none ∨ v'.ownBlock ≠ u.ownBlock := by
  rcases hat with hat | hat
  · rw [hat]; exact hn
  · rw [hat]
    exact .inr fun q => by have := (h.base_le _ q.symm).2; omega
theorem far_new {w : World} {g t : Nat} {cs : Array Value} {v v' : Value} (h : Blk w g t cs) (hn : some g ≠ v.ownBlock) (hat : v'.ownBlock = v.ownBlock ∨ v'.ownBlock = some w.heap.size) : some g ≠ v'.ownBlock := by
  rcases hat with hat | hat
  · rw [hat]; exact hn
  · rw [hat]; exact fun q => by injection q with q; have := h.lt; omega
set_option maxHeartbeats 8000000 in
set_option maxRecDepth 100000 in
theorem l05Open_any (x : List Bl) (hln : x.length ≤ 1048576) (v : Value) (w : World) (S : Nat → Prop) (h : RdN nrBlob w S v x) (b : Nat) (hb : Blk w b 29 #[v]) :
    Calls Try.prog 30 #[.pointer (some ⟨b, 0, none⟩)] w fun e w' => ∃ g bv kv, e = .returned (.tuple #[.pointer (some ⟨g, 0, none⟩), .bool (okSt x)]) ∧ (okSt x = true → w.heap.size ≤ g ∧ Blk w' g 76 #[bv, kv] ∧ (∃ ys : List BC, Own tBlC 68 w' w.heap.size bv ys ∧ ys.length = x.length ∧ ∀ i (h1 : i < ys.length) (h2 : i < x.length), ys[i].2.2.1 = x[i].2.length) ∧ Own tKey 53 w' w.heap.size kv (keysS x)) ∧ Ext w w' := by
  obtain ⟨ys, hyl, hrb, hof⟩ := blobs_cells h
  obtain ⟨A, cap, rfl, hcap, hlen⟩ := h.shape
  have HRB := Lib.hid hrb
  have HOF := Lib.hid hof
  have HB := Lib.hid hb
  have HYL := Lib.hid hyl
  have hbl := hb.lt
  have s0 : w.cell? ⟨b, 0, none⟩ = some (.slice A x.length cap) := hb.at_ 0 rfl
  have Hz := Lib.hid (srtB_one (keysS x) 1 (Nat.le_refl _))
  clear h hrb hof hb hyl
  by_cases h128 : x.length ≤ 128
  rotate_left
  · have hd : decide ((128 : Int) < (x.length : Int)) = true := decide_eq_true (by omega)
    have e : okSt x = false := by rw [okSt_eq, decide_eq_false h128]; rfl
    rw [e]
    clear e h128
    go_enter Try.func30, Try.ntmps30
    go_wp2
    go_ret2
    exact ⟨_, .bool false, .bool false, rfl, fun h => (by cases h), ext_alloc _ _⟩
  have hd : decide ((128 : Int) < (x.length : Int)) = false := decide_eq_false (by omega)
  go_enter Try.func30, Try.ntmps30
  go_wp2
  go_loopw [5, 6] (fun i _ wr => ∃ k : Nat, k ≤ x.length ∧ i = .int .i64 k ∧ fitB x k = true ∧ srtB (keysS x) k = true ∧ (∃ bv kv, Blk wr w.heap.size 76 #[bv, kv] ∧ Own tBlC 68 wr (w.heap.size + 1) bv (ys.take k) ∧ Own tKey 53 wr (w.heap.size + 1) kv ((keysS x).take k) ∧ (bv.ownBlock = none ∨ bv.ownBlock ≠ kv.ownBlock) ∧ (kv.ownBlock = none ∨ kv.ownBlock ≠ bv.ownBlock)) ∧ Ext w wr) (fun i _ _ => x.length - (intOf i).toNat)
  case atStart => exact ⟨0, by omega, rfl, fitB_zero x, srtB_one _ _ (by omega), ⟨_, _, Blk.new w _ _, Own.nil _ _ _ _, Own.nil _ _ _ _, .inl rfl, .inl rfl⟩, ext_alloc _ _⟩
  case round =>
    obtain ⟨k, hk, rfl, hfit, hsrt, ⟨bv, kv, hB, hob, hok, hn1, hn2⟩, hx⟩ := hrel
    have hyk : (ys.take k).length = k := by rw [List.length_take, HYL.out]; omega
    have hkk : ((keysS x).take k).length = k := by rw [List.length_take, keysS_length]; omega
    obtain ⟨A1, c1, e1⟩ := hob.shape
    obtain ⟨A2, c2, e2⟩ := hok.shape
    rw [hyk] at e1
    rw [hkk] at e2
    subst e1 e2
    clear hyk hkk
    have HX := Lib.hid hx
    have HFIT := Lib.hid hfit
    have HSRT := Lib.hid hsrt
    have HBK := Lib.hid hB
    have HOB := Lib.hid hob
    have HOK := Lib.hid hok
    have HN1 := Lib.hid hn1
    have HN2 := Lib.hid hn2
    have s0r : wr.cell? ⟨b, 0, none⟩ = some (.slice A x.length cap) := (HB.out.ext hx).at_ 0 rfl
    clear hfit hsrt hB hob hok hn1 hn2 hx
    by_cases hlt : k < x.length
    · have hk0 : (0 : Int) ≤ (k : Int) := by omega
      have hk1 : (k : Int) < (x.length : Int) := by omega
      have hky : k < ys.length := by rw [HYL.out]; exact hlt
      have hbc := (HOF.out k hky hlt).ext HX.out
      obtain ⟨Aa, capa, ea, hcapa, hlena, hrda, hoka⟩ := HRB.out
      obtain ⟨rfl, hxy, rfl⟩ := Value.slice.inj ea
      obtain ⟨g, o, rfl, hs, hc⟩ := hrda.elem hoka k hky
      have HC := Lib.hid (show ∀ W, Ext w W → ∀ j u, (tBlC.enc ys[k])[j]? = some u → W.cell? ⟨g, o + k * 2 + j, none⟩ = some u from fun W hW j u hu => hW.cell (hc j u hu))
      obtain ⟨t, ht⟩ : ∃ t, ys[k] = t := ⟨_, rfl⟩
      have HT := Lib.hid ht
      rw [ht] at hbc HC
      obtain ⟨t0, tA, tn, tc⟩ := t
      have d0 : wr.cell? ⟨g, o + k * 2, none⟩ = some (.int .u8 t0) := HC.out _ HX.out 0 _ rfl
      have d1 : wr.cell? ⟨g, o + k * 2 + 1, none⟩ = some (.slice tA tn tc) := HC.out _ HX.out 1 _ rfl
      have hbl2 : tn = x[k].2.length := hbc.len
      have HBC := Lib.hid hbc
      have ht0 : t0 = x[k].1 := hbc.1
      have HFS := Lib.hid (fitB_succ x k hlt)
      clear hc hrda hoka ea ht hbc hcapa hlena hxy
      have hb := l05Blob_at tA tn tc wr g (o + k * 2) d1
      by_cases hfk : x[k].2.length ≤ 1024
      rotate_left
      · have e : okSt x = false := by rw [okSt_eq, fitB_bad x k hlt hfk]; simp
        have HE := Lib.hid e
        have hq : decide (tn ≤ 1024) = false := decide_eq_false (by omega)
        simp only [hq] at hb
        clear e hq hfk ht0 hbl2
        go_wp2_with fail
        refine hb.mono ?_
        rintro e w' ⟨rfl, rfl⟩
        go_wp2
        go_ret2
        exact ⟨_, .bool false, .bool false, by rw [HE.out]; rfl, fun h => (by rw [HE.out] at h; cases h), HX.out⟩
      have hq : decide (tn ≤ 1024) = true := decide_eq_true (by omega)
      simp only [hq] at hb
      have hkey := l05Key_at t0 (by rw [ht0]; exact HBC.out.2.2) _ x[k].2 wr _ HBC.out.2.1 hfk g (o + k * 2) d0 d1
      have HFK := Lib.hid (show fitB x (k + 1) = true by rw [HFS.out, HFIT.out, decide_eq_true hfk]; rfl)
      obtain ⟨q7, hK0⟩ : ∃ q7, keyB x[k] = q7 := ⟨_, rfl⟩
      have hKe : hashL t0 x[k].2 = q7 := by rw [ht0, ← hK0]; rfl
      have HKo := Lib.hid (show K32 q7 by rw [← hK0]; exact keyB_ok _)
      have HKE := Lib.hid hK0
      have hkn := HKo.out.1
      have hst := St.nums (k := .u8) hkn
      have hsz := sizeN (k := .u8) hkn
      rw [hKe] at hkey
      have HTK := Lib.hid (keysS_take x k hlt)
      have HTY := Lib.hid (List.take_succ_eq_append_getElem hky)
      have HBL2 := Lib.hid hbl2
      clear hq hfk hKe hK0 ht0 hbl2
      go_wp2_with fail
      refine hb.mono ?_
      rintro e w' ⟨rfl, rfl⟩
      clear hb
      go_wp2_with fail
      refine hkey.mono ?_
      rintro e w1 ⟨rfl, hx⟩
      have HX1 := Lib.hid (HX.out.trans hx)
      replace HBK := Lib.hid (HBK.out.ext hx)
      replace HOB := Lib.hid (HOB.out.ext hx)
      replace HOK := Lib.hid (HOK.out.ext hx)
      clear hx hkey s0r d0 d1 HX
      go_wp2_with (refine wpl_storeNewB aggKey hst rfl rfl _ _ rfl rfl rfl rfl ?_)
      have hpv : w.heap.size < w1.heap.size := HBK.out.lt
      have NV1 := Lib.hid (HOB.out.far_of_ge (Nat.le_refl _))
      have NV2 := Lib.hid (HOK.out.far_of_ge (Nat.le_refl _))
      have V := Lib.hid (Blk.new w1 53 (numsA .u8 q7))
      have hE := ext_alloc w1 (.cells (numsA .u8 q7) 53)
      have HX2 := Lib.hid (HX1.out.trans hE)
      replace HBK := Lib.hid (HBK.out.ext hE)
      replace HOB := Lib.hid (HOB.out.ext hE)
      replace HOK := Lib.hid (HOK.out.ext hE)
      clear hE HX1
      generalize w1.heap.size = p at V hpv NV1 NV2 ⊢
      generalize w1.alloc (.cells (numsA .u8 q7) 53) = w2 at V HX2 HBK HOB HOK ⊢
      have HGL := Lib.hid (gL_lt (L := keysS x) (i := k) (by rw [keysS_length]; exact hlt))
      have HKAT := Lib.hid (keysS_at x k hlt)
      rcases Nat.eq_zero_or_pos k with h0 | h0
      · have hgt : decide ((0 : Int) < (k : Int)) = false := decide_eq_false (by omega)
        have hgt2 : decide (0 < k) = false := decide_eq_false (by omega)
        have HSN := Lib.hid (show srtB (keysS x) (k + 1) = true from srtB_one _ _ (by omega))
        clear h0
        go_wp2_with fail
        refine wp_region_held_drew (S := fun W => Ext w2 W) (by kernel_rfl) (Ext.refl _).drew (fun hHeld => ?_)
        refine wpAnyH_take (i := 0) (oi := ?oiz1) (v := ?vz1) ?hiz1 (by kernel_rfl) (by kernel_rfl) (by kernel_rfl) ?hQz1 ?hyz1 (by assumption) ?restz1
        case hiz1 => simp only [List.getElem?_toArray, List.getElem?_cons_zero, List.getElem?_cons_succ]; rfl
        case hQz1 => exact fun _ _ _ h => h
        case hyz1 => exact Or.inl ⟨by rfl, by intro w hSw; (try dsimp only at hSw); go_simp; with_reducible rfl⟩
        try simp only [Act.put, List.setIfInBounds_toArray, List.set_cons_zero, List.set_cons_succ]
        refine wpAnyH_take (i := 1) (oi := ?oiz2) (v := ?vz2) ?hiz2 (by kernel_rfl) (by kernel_rfl) (by kernel_rfl) ?hQz2 ?hyz2 (by assumption) ?restz2
        case hiz2 => simp only [List.getElem?_toArray, List.getElem?_cons_zero, List.getElem?_cons_succ]; rfl
        case hQz2 => exact fun _ _ _ h => h
        case hyz2 => exact Or.inl ⟨by rfl, by intro w hSw; (try dsimp only at hSw); go_simp; with_reducible rfl⟩
        try simp only [Act.put, List.setIfInBounds_toArray, List.set_cons_zero, List.set_cons_succ]
        refine wpAnyH_take (i := 2) (oi := ?oiz3) (v := ?vz3) ?hiz3 (by kernel_rfl) (by kernel_rfl) (by kernel_rfl) ?hQz3 ?hyz3 (by assumption) ?restz3
        case hiz3 => simp only [List.getElem?_toArray, List.getElem?_cons_zero, List.getElem?_cons_succ]; rfl
        case hQz3 => exact fun _ _ _ h => h
        case hyz3 => exact Or.inl ⟨by rfl, by intro w hSw; (try dsimp only at hSw); go_simp; with_reducible rfl⟩
        try simp only [Act.put, List.setIfInBounds_toArray, List.set_cons_zero, List.set_cons_succ]
        refine wpAnyH_take (i := 3) (oi := ?oiz4) (v := undef) ?hiz4 (by kernel_rfl) (by kernel_rfl) (by kernel_rfl) ?hQz4 ?hyz4 (by assumption) ?restz4
        case hiz4 => simp only [List.getElem?_toArray, List.getElem?_cons_zero, List.getElem?_cons_succ]; rfl
        case hQz4 => exact fun _ _ _ h => h
        case hyz4 => exact Or.inr ⟨by rfl, by rfl⟩
        try simp only [Act.put, List.setIfInBounds_toArray, List.set_cons_zero, List.set_cons_succ]
        refine wpAnyH_take (i := 4) (oi := ?oiz5) (v := undef) ?hiz5 (by kernel_rfl) (by kernel_rfl) (by kernel_rfl) ?hQz5 ?hyz5 (by assumption) ?restz5
        case hiz5 => simp only [List.getElem?_toArray, List.getElem?_cons_zero, List.getElem?_cons_succ]; rfl
        case hQz5 => exact fun _ _ _ h => h
        case hyz5 => exact Or.inr ⟨by rfl, by rfl⟩
        try simp only [Act.put, List.setIfInBounds_toArray, List.set_cons_zero, List.set_cons_succ]
        refine wpAnyH_take (i := 5) (oi := ?oiz6) (v := undef) ?hiz6 (by kernel_rfl) (by kernel_rfl) (by kernel_rfl) ?hQz6 ?hyz6 (by assumption) ?restz6
        case hiz6 => simp only [List.getElem?_toArray, List.getElem?_cons_zero, List.getElem?_cons_succ]; rfl
        case hQz6 => exact fun _ _ _ h => h
        case hyz6 => exact Or.inr ⟨by rfl, by rfl⟩
        try simp only [Act.put, List.setIfInBounds_toArray, List.set_cons_zero, List.set_cons_succ]
        refine wpAnyH_take (i := 6) (oi := ?oiz7) (v := undef) ?hiz7 (by kernel_rfl) (by kernel_rfl) (by kernel_rfl) ?hQz7 ?hyz7 (by assumption) ?restz7
        case hiz7 => simp only [List.getElem?_toArray, List.getElem?_cons_zero, List.getElem?_cons_succ]; rfl
        case hQz7 => exact fun _ _ _ h => h
        case hyz7 => exact Or.inr ⟨by rfl, by rfl⟩
        try simp only [Act.put, List.setIfInBounds_toArray, List.set_cons_zero, List.set_cons_succ]
        refine wpAnyH_take (i := 7) (oi := ?oiz8) (v := undef) ?hiz8 (by kernel_rfl) (by kernel_rfl) (by kernel_rfl) ?hQz8 ?hyz8 (by assumption) ?restz8
        case hiz8 => simp only [List.getElem?_toArray, List.getElem?_cons_zero, List.getElem?_cons_succ]; rfl
        case hQz8 => exact fun _ _ _ h => h
        case hyz8 => exact Or.inr ⟨by rfl, by rfl⟩
        try simp only [Act.put, List.setIfInBounds_toArray, List.set_cons_zero, List.set_cons_succ]
        refine wpAnyH_take (i := 8) (oi := ?oiz9) (v := undef) ?hiz9 (by kernel_rfl) (by kernel_rfl) (by kernel_rfl) ?hQz9 ?hyz9 (by assumption) ?restz9
        case hiz9 => simp only [List.getElem?_toArray, List.getElem?_cons_zero, List.getElem?_cons_succ]; rfl
        case hQz9 => exact fun _ _ _ h => h
        case hyz9 => exact Or.inr ⟨by rfl, by rfl⟩
        try simp only [Act.put, List.setIfInBounds_toArray, List.set_cons_zero, List.set_cons_succ]
        refine wpAnyH_take (i := 9) (oi := ?oiz10) (v := undef) ?hiz10 (by kernel_rfl) (by kernel_rfl) (by kernel_rfl) ?hQz10 ?hyz10 (by assumption) ?restz10
        case hiz10 => simp only [List.getElem?_toArray, List.getElem?_cons_zero, List.getElem?_cons_succ]; rfl
        case hQz10 => exact fun _ _ _ h => h
        case hyz10 => exact Or.inr ⟨by rfl, by rfl⟩
        try simp only [Act.put, List.setIfInBounds_toArray, List.set_cons_zero, List.set_cons_succ]
        refine wpAnyH_take (i := 10) (oi := ?oiz11) (v := undef) ?hiz11 (by kernel_rfl) (by kernel_rfl) (by kernel_rfl) ?hQz11 ?hyz11 (by assumption) ?restz11
        case hiz11 => simp only [List.getElem?_toArray, List.getElem?_cons_zero, List.getElem?_cons_succ]; rfl
        case hQz11 => exact fun _ _ _ h => h
        case hyz11 => exact Or.inr ⟨by rfl, by rfl⟩
        try simp only [Act.put, List.setIfInBounds_toArray, List.set_cons_zero, List.set_cons_succ]
        refine wpAnyH_take (i := 11) (oi := ?oiz12) (v := undef) ?hiz12 (by kernel_rfl) (by kernel_rfl) (by kernel_rfl) ?hQz12 ?hyz12 (by assumption) ?restz12
        case hiz12 => simp only [List.getElem?_toArray, List.getElem?_cons_zero, List.getElem?_cons_succ]; rfl
        case hQz12 => exact fun _ _ _ h => h
        case hyz12 => exact Or.inr ⟨by rfl, by rfl⟩
        try simp only [Act.put, List.setIfInBounds_toArray, List.set_cons_zero, List.set_cons_succ]
        refine wpAnyH_take (i := 12) (oi := ?oiz13) (v := undef) ?hiz13 (by kernel_rfl) (by kernel_rfl) (by kernel_rfl) ?hQz13 ?hyz13 (by assumption) ?restz13
        case hiz13 => simp only [List.getElem?_toArray, List.getElem?_cons_zero, List.getElem?_cons_succ]; rfl
        case hQz13 => exact fun _ _ _ h => h
        case hyz13 => exact Or.inr ⟨by rfl, by rfl⟩
        try simp only [Act.put, List.setIfInBounds_toArray, List.set_cons_zero, List.set_cons_succ]
        refine wpAnyH_take (i := 13) (oi := ?oiz14) (v := undef) ?hiz14 (by kernel_rfl) (by kernel_rfl) (by kernel_rfl) ?hQz14 ?hyz14 (by assumption) ?restz14
        case hiz14 => simp only [List.getElem?_toArray, List.getElem?_cons_zero, List.getElem?_cons_succ]; rfl
        case hQz14 => exact fun _ _ _ h => h
        case hyz14 => exact Or.inr ⟨by rfl, by rfl⟩
        try simp only [Act.put, List.setIfInBounds_toArray, List.set_cons_zero, List.set_cons_succ]
        refine wpAnyH_take (i := 14) (oi := ?oiz15) (v := ?vz15) ?hiz15 (by kernel_rfl) (by kernel_rfl) (by kernel_rfl) ?hQz15 ?hyz15 (by assumption) ?restz15
        case hiz15 => simp only [List.getElem?_toArray, List.getElem?_cons_zero, List.getElem?_cons_succ]; rfl
        case hQz15 => exact fun _ _ _ h => h
        case hyz15 => exact Or.inl ⟨by rfl, by intro w hSw; (try dsimp only at hSw); go_simp; with_reducible rfl⟩
        try simp only [Act.put, List.setIfInBounds_toArray, List.set_cons_zero, List.set_cons_succ]
        have hx3 := hHeld
        clear hHeld
        generalize w2.drew = w3 at hx3 ⊢
        refine wpAnyH_done (by kernel_rfl) ?_ _
        have HX3 := Lib.hid (HX2.out.trans hx3)
        replace HBK := Lib.hid (HBK.out.ext hx3)
        replace HOB := Lib.hid (HOB.out.ext hx3)
        replace HOK := Lib.hid (HOK.out.ext hx3)
        replace V := Lib.hid (V.out.ext hx3)
        clear hx3 HX2
        go_wp2_with fail
        go_wp2_with fail
        refine wp_region_f 16 (S := fun W => Blk W w.heap.size 76 #[.slice A1 k c1, .slice A2 k c2] ∧ Ext w W) (by kernel_rfl) ⟨HBK.out.drewN 1, HX3.out.drew⟩ (fun hHeld => ?_)
        have HOz := Lib.hid (show Own tBlC 68 w3.drew (w.heap.size + 1) (.slice A1 k c1) (ys.take k) from HOB.out)
        have HKz := Lib.hid (show Own tKey 53 w3.drew (w.heap.size + 1) (.slice A2 k c2) ((keysS x).take k) from HOK.out)
        have VZ := Lib.hid (show Blk w3.drew p 53 (numsA .u8 q7) from V.out)
        clear HOB HOK HBK V HX3
        generalize w3.drew = wz at hHeld HOz HKz VZ ⊢
        refine wpF_take (i := 0) (oi := ?oiz16) (v := ?vz16) ?hiz16 (by kernel_rfl) (by kernel_rfl) (by kernel_rfl) (by kernel_rfl) ?hQz16 ?hyz16 (by assumption) ?restz16
        case hiz16 => simp only [List.getElem?_toArray, List.getElem?_cons_zero, List.getElem?_cons_succ]; rfl
        case hQz16 => exact fun _ _ _ h => h
        case hyz16 => exact Or.inl ⟨by rfl, by intro w hSw; (try dsimp only at hSw); go_simp; with_reducible rfl⟩
        try simp only [Act.put, List.setIfInBounds_toArray, List.set_cons_zero, List.set_cons_succ]
        refine wpF_take (i := 1) (oi := ?oiz17) (v := ?vz17) ?hiz17 (by kernel_rfl) (by kernel_rfl) (by kernel_rfl) (by kernel_rfl) ?hQz17 ?hyz17 (by assumption) ?restz17
        case hiz17 => simp only [List.getElem?_toArray, List.getElem?_cons_zero, List.getElem?_cons_succ]; rfl
        case hQz17 => exact fun _ _ _ h => h
        case hyz17 => exact Or.inl ⟨by rfl, by intro w hSw; (try dsimp only at hSw); go_simp; with_reducible rfl⟩
        try simp only [Act.put, List.setIfInBounds_toArray, List.set_cons_zero, List.set_cons_succ]
        refine wpF_take (i := 2) (oi := ?oiz18) (v := ?vz18) ?hiz18 (by kernel_rfl) (by kernel_rfl) (by kernel_rfl) (by kernel_rfl) ?hQz18 ?hyz18 (by assumption) ?restz18
        case hiz18 => simp only [List.getElem?_toArray, List.getElem?_cons_zero, List.getElem?_cons_succ]; rfl
        case hQz18 => exact fun _ _ _ h => h
        case hyz18 => exact Or.inl ⟨by rfl, by intro w hSw; (try dsimp only at hSw); go_simp; with_reducible rfl⟩
        try simp only [Act.put, List.setIfInBounds_toArray, List.set_cons_zero, List.set_cons_succ]
        refine wpF_take (i := 3) (oi := ?oiz19) (v := ?vz19) ?hiz19 (by kernel_rfl) (by kernel_rfl) (by kernel_rfl) (by kernel_rfl) ?hQz19 ?hyz19 (by assumption) ?restz19
        case hiz19 => simp only [List.getElem?_toArray, List.getElem?_cons_zero, List.getElem?_cons_succ]; rfl
        case hQz19 => exact fun _ _ _ h => h
        case hyz19 => exact Or.inl ⟨by rfl, by intro w hSw; (try dsimp only at hSw); go_simp; with_reducible rfl⟩
        try simp only [Act.put, List.setIfInBounds_toArray, List.set_cons_zero, List.set_cons_succ]
        refine wpF_take (i := 4) (oi := ?oiz20) (v := (.slice A1 k c1)) ?hiz20 (by kernel_rfl) (by kernel_rfl) (by kernel_rfl) (by kernel_rfl) ?hQz20 ?hyz20 (by assumption) ?restz20
        case hiz20 => simp only [List.getElem?_toArray, List.getElem?_cons_zero, List.getElem?_cons_succ]; rfl
        case hQz20 => exact fun _ _ _ h => h
        case hyz20 => exact Or.inl ⟨by rfl, by intro w hSw; (try dsimp only at hSw); have hcq := hSw.1.at_ 0 rfl; go_simp; (try with_reducible rfl)⟩
        try simp only [Act.put, List.setIfInBounds_toArray, List.set_cons_zero, List.set_cons_succ]
        refine wpF_take (i := 5) (oi := ?oiz21) (v := ?vz21) ?hiz21 (by kernel_rfl) (by kernel_rfl) (by kernel_rfl) (by kernel_rfl) ?hQz21 ?hyz21 (by assumption) ?restz21
        case hiz21 => simp only [List.getElem?_toArray, List.getElem?_cons_zero, List.getElem?_cons_succ]; rfl
        case hQz21 => exact fun _ _ _ h => h
        case hyz21 => exact Or.inl ⟨by rfl, by intro w hSw; (try dsimp only at hSw); go_simp; with_reducible rfl⟩
        try simp only [Act.put, List.setIfInBounds_toArray, List.set_cons_zero, List.set_cons_succ]
        refine wpF_take (i := 6) (oi := ?oiz22) (v := ?vz22) ?hiz22 (by kernel_rfl) (by kernel_rfl) (by kernel_rfl) (by kernel_rfl) ?hQz22 ?hyz22 (by assumption) ?restz22
        case hiz22 => simp only [List.getElem?_toArray, List.getElem?_cons_zero, List.getElem?_cons_succ]; rfl
        case hQz22 => exact fun _ _ _ h => h
        case hyz22 => exact Or.inl ⟨by rfl, by intro w hSw; (try dsimp only at hSw); go_simp; with_reducible rfl⟩
        try simp only [Act.put, List.setIfInBounds_toArray, List.set_cons_zero, List.set_cons_succ]
        refine wpF_take (i := 7) (oi := ?oiz23) (v := ?vz23) ?hiz23 (by kernel_rfl) (by kernel_rfl) (by kernel_rfl) (by kernel_rfl) ?hQz23 ?hyz23 (by assumption) ?restz23
        case hiz23 => simp only [List.getElem?_toArray, List.getElem?_cons_zero, List.getElem?_cons_succ]; rfl
        case hQz23 => exact fun _ _ _ h => h
        case hyz23 => exact Or.inl ⟨by rfl, by intro w hSw; (try dsimp only at hSw); go_simp; with_reducible rfl⟩
        try simp only [Act.put, List.setIfInBounds_toArray, List.set_cons_zero, List.set_cons_succ]
        refine wpF_take (i := 8) (oi := ?oiz24) (v := (.slice (some ⟨g, o, none⟩) x.length cap)) ?hiz24 (by kernel_rfl) (by kernel_rfl) (by kernel_rfl) (by kernel_rfl) ?hQz24 ?hyz24 (by assumption) ?restz24
        case hiz24 => simp only [List.getElem?_toArray, List.getElem?_cons_zero, List.getElem?_cons_succ]; rfl
        case hQz24 => exact fun _ _ _ h => h
        case hyz24 => exact Or.inl ⟨by rfl, by intro w hSw; (try dsimp only at hSw); have hcq := (HB.out.ext hSw.2).at_ 0 rfl; go_simp; (try with_reducible rfl)⟩
        try simp only [Act.put, List.setIfInBounds_toArray, List.set_cons_zero, List.set_cons_succ]
        refine wpF_take (i := 9) (oi := ?oiz25) (v := ?vz25) ?hiz25 (by kernel_rfl) (by kernel_rfl) (by kernel_rfl) (by kernel_rfl) ?hQz25 ?hyz25 (by assumption) ?restz25
        case hiz25 => simp only [List.getElem?_toArray, List.getElem?_cons_zero, List.getElem?_cons_succ]; rfl
        case hQz25 => exact fun _ _ _ h => h
        case hyz25 => exact Or.inl ⟨by rfl, by intro w hSw; (try dsimp only at hSw); go_simp; with_reducible rfl⟩
        try simp only [Act.put, List.setIfInBounds_toArray, List.set_cons_zero, List.set_cons_succ]
        refine wpF_take (i := 10) (oi := ?oiz26) (v := ?vz26) ?hiz26 (by kernel_rfl) (by kernel_rfl) (by kernel_rfl) (by kernel_rfl) ?hQz26 ?hyz26 (by assumption) ?restz26
        case hiz26 => simp only [List.getElem?_toArray, List.getElem?_cons_zero, List.getElem?_cons_succ]; rfl
        case hQz26 => exact fun _ _ _ h => h
        case hyz26 => exact Or.inl ⟨by rfl, by intro w hSw; (try dsimp only at hSw); go_simp; with_reducible rfl⟩
        try simp only [Act.put, List.setIfInBounds_toArray, List.set_cons_zero, List.set_cons_succ]
        refine wpF_take (i := 11) (oi := ?oiz27) (v := (.agg (tBlC.enc (t0, tA, tn, tc)).toArray)) ?hiz27 (by kernel_rfl) (by kernel_rfl) (by kernel_rfl) (by kernel_rfl) ?hQz27 ?hyz27 (by assumption) ?restz27
        case hiz27 => simp only [List.getElem?_toArray, List.getElem?_cons_zero, List.getElem?_cons_succ]; rfl
        case hQz27 => exact fun _ _ _ h => h
        case hyz27 => refine yields_loadS9 g (o + k * 2) (tBlC.enc (t0, tA, tn, tc)) aggBlobI (fun W hW => HC.out W hW.2) ?_ _ rfl rfl; rfl
        try simp only [Act.put, List.setIfInBounds_toArray, List.set_cons_zero, List.set_cons_succ]
        refine wpF_ready (rs := [12]) (by kernel_rfl) (by simp) (AllF.cons (o := ?oy2812) ?hy2812 (fun K hK => ?sy2812) AllF.nil)
        case hy2812 => simp only [List.getElem?_toArray, List.getElem?_cons_zero, List.getElem?_cons_succ]; rfl
        refine stp_one rowBlC (by decide) (t0, tA, tn, tc) trivial rfl _ rfl rfl ?_
        have hH2 := hHeld.2.alloc (.cells (tBlC.enc (t0, tA, tn, tc)).toArray 68)
        have hE := ext_alloc wz (.cells (tBlC.enc (t0, tA, tn, tc)).toArray 68)
        have hB2 := hHeld.1.ext hE
        refine hK.out _ _ (fun _ => ⟨hB2, hH2⟩) ?_
        have HO1 := Lib.hid (HOz.out.ext hE)
        have HK1 := Lib.hid (HKz.out.ext hE)
        have V1 := Lib.hid (VZ.out.ext hE)
        clear hK K hHeld hE HKz VZ
        have hHeld := And.intro hB2 hH2
        clear hB2 hH2
        try simp only [Act.put, List.setIfInBounds_toArray, List.set_cons_zero, List.set_cons_succ]
        refine wpF_ready (rs := [13]) (by kernel_rfl) (by simp) (AllF.cons (o := ?oy2913) ?hy2913 (fun K hK => ?sy2913) AllF.nil)
        case hy2913 => simp only [List.getElem?_toArray, List.getElem?_cons_zero, List.getElem?_cons_succ]; rfl
        refine stp_append rowBlC rfl _ _ rfl (v := .slice A1 k c1) rfl HO1.out _ _ rfl (A := some ⟨wz.heap.size, 0, none⟩) (ys := [(t0, tA, tn, tc)]) rfl (rd_one (T := tBlC) wz (t0, tA, tn, tc) trivial _) (fun _ _ => trivial) (by have := HYL.out; simp only [List.length_singleton, List.length_take]; omega) (by have := hHeld.1.lt; omega) ?_
        intro v9 w9 ho1 hg1 hat1
        obtain ⟨B1, m1, b1, rfl⟩ := ho1.shape3
        have hB2 := hHeld.1.grown hg1 (HO1.out.far_of_lt (Nat.lt_succ_self _))
        have hH2 := hHeld.2.app (v := .slice A1 k c1) (fun q hq => by have := (HO1.out.base_le q hq).1; omega) hg1
        refine hK.out _ _ (fun _ => ⟨hB2, hH2⟩) ?_
        have HO2 := Lib.hid ho1
        have HK2 := Lib.hid (HK1.out.kept hg1 HN2.out)
        have V2 := Lib.hid (V1.out.grown hg1 NV1.out)
        have M1 := Lib.hid (apart_new HK1.out HN2.out hat1)
        have M2 := Lib.hid (apart_new' HK1.out HN1.out hat1)
        have MV := Lib.hid (far_new V1.out NV1.out hat1)
        clear hK K ho1 hg1 hat1 hHeld HO1 HK1 V1 HOz
        have hHeld := And.intro hB2 hH2
        clear hB2 hH2
        try simp only [Act.put, List.setIfInBounds_toArray, List.set_cons_zero, List.set_cons_succ]
        refine wpF_take (i := 14) (oi := ?oiz30) (v := ?vz30) ?hiz30 (by kernel_rfl) (by kernel_rfl) (by kernel_rfl) (by kernel_rfl) ?hQz30 ?hyz30 (by assumption) ?restz30
        case hiz30 => simp only [List.getElem?_toArray, List.getElem?_cons_zero, List.getElem?_cons_succ]; rfl
        case hQz30 => exact fun _ _ _ h => h
        case hyz30 => exact Or.inl ⟨by rfl, by intro w hSw; (try dsimp only at hSw); go_simp; with_reducible rfl⟩
        try simp only [Act.put, List.setIfInBounds_toArray, List.set_cons_zero, List.set_cons_succ]
        refine wpF_take (i := 15) (oi := ?oiz31) (v := ?vz31) ?hiz31 (by kernel_rfl) (by kernel_rfl) (by kernel_rfl) (by kernel_rfl) ?hQz31 ?hyz31 (by assumption) ?restz31
        case hiz31 => simp only [List.getElem?_toArray, List.getElem?_cons_zero, List.getElem?_cons_succ]; rfl
        case hQz31 => exact fun _ _ _ h => h
        case hyz31 => exact Or.inl ⟨by rfl, by intro w hSw; (try dsimp only at hSw); go_simp; with_reducible rfl⟩
        try simp only [Act.put, List.setIfInBounds_toArray, List.set_cons_zero, List.set_cons_succ]
        refine wpF_ready (rs := [16]) (by kernel_rfl) (by simp) (AllF.cons (o := ?oy3216) ?hy3216 (fun K hK => ?sy3216) AllF.nil)
        case hy3216 => simp only [List.getElem?_toArray, List.getElem?_cons_zero, List.getElem?_cons_succ]; rfl
        have c0 := hHeld.1.at_ 0 rfl
        have f0 := hHeld.1.free 0
        go_simp
        refine hK.out _ _ (fun h => absurd rfl h) ?_
        have B3 := Lib.hid (hHeld.1.set 0 (.slice B1 m1 b1))
        have X3 := Lib.hid (hHeld.2.set (p := ⟨w.heap.size, 0, none⟩) (Nat.le_refl _) (.slice B1 m1 b1))
        have HO3 := Lib.hid (HO2.out.set_below (p := ⟨w.heap.size, 0, none⟩) (Nat.lt_succ_self _) (.slice B1 m1 b1))
        have HK3 := Lib.hid (HK2.out.set_below (p := ⟨w.heap.size, 0, none⟩) (Nat.lt_succ_self _) (.slice B1 m1 b1))
        have V3 := Lib.hid (V2.out.far (p := ⟨w.heap.size, 0, none⟩) (by show p ≠ w.heap.size; omega) (.slice B1 m1 b1))
        clear hK K hHeld HO2 HK2 V2 c0 f0
        try simp only [Act.put, List.setIfInBounds_toArray, List.set_cons_zero, List.set_cons_succ]
        refine wpF_done (by kernel_rfl) ?_ _
        generalize w9.setCell ⟨w.heap.size, 0, none⟩ (.slice B1 m1 b1) = w4 at B3 X3 HO3 HK3 V3 ⊢
        have B3' := Lib.hid (show Blk w4 w.heap.size 76 #[.slice B1 m1 b1, .slice A2 k c2] from B3.out)
        clear B3
        go_wp2_with fail
        refine wp_region_f 10 (S := fun W => Blk W w.heap.size 76 #[.slice B1 m1 b1, .slice A2 k c2] ∧ Blk W p 53 (numsA .u8 q7) ∧ Ext w W) (by kernel_rfl) ⟨B3'.out.drewN 1, V3.out.drewN 1, X3.out.drew⟩ (fun hHeld => ?_)
        have HOz := Lib.hid (show Own tBlC 68 w4.drew (w.heap.size + 1) (.slice B1 m1 b1) _ from HO3.out)
        have HKz := Lib.hid (show Own tKey 53 w4.drew (w.heap.size + 1) (.slice A2 k c2) ((keysS x).take k) from HK3.out)
        clear HO3 HK3 B3' V3 X3
        generalize w4.drew = wz at hHeld HOz HKz ⊢
        refine wpF_take (i := 0) (oi := ?oiz33) (v := ?vz33) ?hiz33 (by kernel_rfl) (by kernel_rfl) (by kernel_rfl) (by kernel_rfl) ?hQz33 ?hyz33 (by assumption) ?restz33
        case hiz33 => simp only [List.getElem?_toArray, List.getElem?_cons_zero, List.getElem?_cons_succ]; rfl
        case hQz33 => exact fun _ _ _ h => h
        case hyz33 => exact Or.inl ⟨by rfl, by intro w hSw; (try dsimp only at hSw); go_simp; with_reducible rfl⟩
        try simp only [Act.put, List.setIfInBounds_toArray, List.set_cons_zero, List.set_cons_succ]
        refine wpF_take (i := 1) (oi := ?oiz34) (v := ?vz34) ?hiz34 (by kernel_rfl) (by kernel_rfl) (by kernel_rfl) (by kernel_rfl) ?hQz34 ?hyz34 (by assumption) ?restz34
        case hiz34 => simp only [List.getElem?_toArray, List.getElem?_cons_zero, List.getElem?_cons_succ]; rfl
        case hQz34 => exact fun _ _ _ h => h
        case hyz34 => exact Or.inl ⟨by rfl, by intro w hSw; (try dsimp only at hSw); go_simp; with_reducible rfl⟩
        try simp only [Act.put, List.setIfInBounds_toArray, List.set_cons_zero, List.set_cons_succ]
        refine wpF_take (i := 2) (oi := ?oiz35) (v := ?vz35) ?hiz35 (by kernel_rfl) (by kernel_rfl) (by kernel_rfl) (by kernel_rfl) ?hQz35 ?hyz35 (by assumption) ?restz35
        case hiz35 => simp only [List.getElem?_toArray, List.getElem?_cons_zero, List.getElem?_cons_succ]; rfl
        case hQz35 => exact fun _ _ _ h => h
        case hyz35 => exact Or.inl ⟨by rfl, by intro w hSw; (try dsimp only at hSw); go_simp; with_reducible rfl⟩
        try simp only [Act.put, List.setIfInBounds_toArray, List.set_cons_zero, List.set_cons_succ]
        refine wpF_take (i := 3) (oi := ?oiz36) (v := ?vz36) ?hiz36 (by kernel_rfl) (by kernel_rfl) (by kernel_rfl) (by kernel_rfl) ?hQz36 ?hyz36 (by assumption) ?restz36
        case hiz36 => simp only [List.getElem?_toArray, List.getElem?_cons_zero, List.getElem?_cons_succ]; rfl
        case hQz36 => exact fun _ _ _ h => h
        case hyz36 => exact Or.inl ⟨by rfl, by intro w hSw; (try dsimp only at hSw); go_simp; with_reducible rfl⟩
        try simp only [Act.put, List.setIfInBounds_toArray, List.set_cons_zero, List.set_cons_succ]
        refine wpF_take (i := 4) (oi := ?oiz37) (v := (.slice A2 k c2)) ?hiz37 (by kernel_rfl) (by kernel_rfl) (by kernel_rfl) (by kernel_rfl) ?hQz37 ?hyz37 (by assumption) ?restz37
        case hiz37 => simp only [List.getElem?_toArray, List.getElem?_cons_zero, List.getElem?_cons_succ]; rfl
        case hQz37 => exact fun _ _ _ h => h
        case hyz37 => exact Or.inl ⟨by rfl, by intro w hSw; (try dsimp only at hSw); have hcq := hSw.1.at_ 1 rfl; go_simp; (try with_reducible rfl)⟩
        try simp only [Act.put, List.setIfInBounds_toArray, List.set_cons_zero, List.set_cons_succ]
        refine wpF_take (i := 5) (oi := ?oiz38) (v := (.agg (numsA .u8 q7))) ?hiz38 (by kernel_rfl) (by kernel_rfl) (by kernel_rfl) (by kernel_rfl) ?hQz38 ?hyz38 (by assumption) ?restz38
        case hiz38 => simp only [List.getElem?_toArray, List.getElem?_cons_zero, List.getElem?_cons_succ]; rfl
        case hQz38 => exact fun _ _ _ h => h
        case hyz38 => refine yields_loadBS9 (fun W hW => hW.2.1) aggKey hsz ?_ _ rfl rfl; rfl
        try simp only [Act.put, List.setIfInBounds_toArray, List.set_cons_zero, List.set_cons_succ]
        refine wpF_ready (rs := [6]) (by kernel_rfl) (by simp) (AllF.cons (o := ?oy396) ?hy396 (fun K hK => ?sy396) AllF.nil)
        case hy396 => simp only [List.getElem?_toArray, List.getElem?_cons_zero, List.getElem?_cons_succ]; rfl
        refine stp_one rowKey9 (by decide) q7 HKo.out rfl _ rfl rfl ?_
        have hE := ext_alloc wz (.cells (tKey.enc q7).toArray 53)
        have hH2 : _ ∧ _ ∧ _ := ⟨hHeld.1.ext hE, hHeld.2.1.ext hE, hHeld.2.2.trans hE⟩
        refine hK.out _ _ (fun _ => hH2) ?_
        have HO1 := Lib.hid (HOz.out.ext hE)
        have HK1 := Lib.hid (HKz.out.ext hE)
        clear hK K hHeld hE HOz
        have hHeld := hH2
        clear hH2
        try simp only [Act.put, List.setIfInBounds_toArray, List.set_cons_zero, List.set_cons_succ]
        refine wpF_ready (rs := [7]) (by kernel_rfl) (by simp) (AllF.cons (o := ?oy407) ?hy407 (fun K hK => ?sy407) AllF.nil)
        case hy407 => simp only [List.getElem?_toArray, List.getElem?_cons_zero, List.getElem?_cons_succ]; rfl
        refine stp_append rowKey9 rfl _ _ rfl (v := .slice A2 k c2) rfl HK1.out _ _ rfl (A := some ⟨wz.heap.size, 0, none⟩) (ys := [q7]) rfl (rd_one (T := tKey) wz q7 HKo.out _) (by intro y hy; obtain rfl := List.mem_singleton.1 hy; exact HKo.out) (by have := keysS_length x; simp only [List.length_singleton, List.length_take]; omega) (by have := hHeld.1.lt; omega) ?_
        intro v9 w9 ho1 hg1 hat1
        obtain ⟨C1, q1, d1, rfl⟩ := ho1.shape3
        have hB2 := hHeld.1.grown hg1 (HK1.out.far_of_lt (Nat.lt_succ_self _))
        have hH2 := hHeld.2.2.app (v := .slice A2 k c2) (fun q hq => by have := (HK1.out.base_le q hq).1; omega) hg1
        have hV2 := hHeld.2.1.grown hg1 NV2.out
        refine hK.out _ _ (fun _ => ⟨hB2, hV2, hH2⟩) ?_
        have HK2 := Lib.hid ho1
        have HO2 := Lib.hid (HO1.out.kept hg1 M2.out)
        have P1 := Lib.hid (apart_new HO1.out M2.out hat1)
        have P2 := Lib.hid (apart_new' HO1.out M1.out hat1)
        clear hK K ho1 hg1 hat1 hHeld HO1 HK1 HKz
        have hHeld := And.intro hB2 (And.intro hV2 hH2)
        clear hB2 hH2 hV2
        try simp only [Act.put, List.setIfInBounds_toArray, List.set_cons_zero, List.set_cons_succ]
        refine wpF_take (i := 8) (oi := ?oiz41) (v := ?vz41) ?hiz41 (by kernel_rfl) (by kernel_rfl) (by kernel_rfl) (by kernel_rfl) ?hQz41 ?hyz41 (by assumption) ?restz41
        case hiz41 => simp only [List.getElem?_toArray, List.getElem?_cons_zero, List.getElem?_cons_succ]; rfl
        case hQz41 => exact fun _ _ _ h => h
        case hyz41 => exact Or.inl ⟨by rfl, by intro w hSw; (try dsimp only at hSw); go_simp; with_reducible rfl⟩
        try simp only [Act.put, List.setIfInBounds_toArray, List.set_cons_zero, List.set_cons_succ]
        refine wpF_take (i := 9) (oi := ?oiz42) (v := ?vz42) ?hiz42 (by kernel_rfl) (by kernel_rfl) (by kernel_rfl) (by kernel_rfl) ?hQz42 ?hyz42 (by assumption) ?restz42
        case hiz42 => simp only [List.getElem?_toArray, List.getElem?_cons_zero, List.getElem?_cons_succ]; rfl
        case hQz42 => exact fun _ _ _ h => h
        case hyz42 => exact Or.inl ⟨by rfl, by intro w hSw; (try dsimp only at hSw); go_simp; with_reducible rfl⟩
        try simp only [Act.put, List.setIfInBounds_toArray, List.set_cons_zero, List.set_cons_succ]
        refine wpF_ready (rs := [10]) (by kernel_rfl) (by simp) (AllF.cons (o := ?oy4310) ?hy4310 (fun K hK => ?sy4310) AllF.nil)
        case hy4310 => simp only [List.getElem?_toArray, List.getElem?_cons_zero, List.getElem?_cons_succ]; rfl
        have c0 := hHeld.1.at_ 1 rfl
        have f0 := hHeld.1.free 1
        go_simp
        refine hK.out _ _ (fun h => absurd rfl h) ?_
        have B3 := Lib.hid (show Blk (w9.setCell ⟨w.heap.size, 1, none⟩ (.slice C1 q1 d1)) w.heap.size 76 #[.slice B1 m1 b1, .slice C1 q1 d1] from hHeld.1.set 1 (.slice C1 q1 d1))
        have X3 := Lib.hid (hHeld.2.2.set (p := ⟨w.heap.size, 1, none⟩) (Nat.le_refl _) (.slice C1 q1 d1))
        have HO3 := Lib.hid (HO2.out.set_below (p := ⟨w.heap.size, 1, none⟩) (Nat.lt_succ_self _) (.slice C1 q1 d1))
        have HK3 := Lib.hid (HK2.out.set_below (p := ⟨w.heap.size, 1, none⟩) (Nat.lt_succ_self _) (.slice C1 q1 d1))
        clear hK K hHeld HO2 HK2 c0 f0
        try simp only [Act.put, List.setIfInBounds_toArray, List.set_cons_zero, List.set_cons_succ]
        refine wpF_done (by kernel_rfl) ?_ _
        go_wp2
        go_roundw
        case rel => exact ⟨k + 1, by omega, by go_num, HFK.out, HSN.out, ⟨_, _, B3.out, by rw [HTY.out, HT.out]; exact HO3.out, by rw [HTK.out, HKE.out]; exact HK3.out, P1.out, P2.out⟩, X3.out⟩
        case measure => simp [intOf]; omega
      · obtain ⟨m, hm⟩ : ∃ m, k = m + 1 := ⟨k - 1, by omega⟩
        have hgt : decide ((0 : Int) < (k : Int)) = true := decide_eq_true (by omega)
        have hgt2 : decide (0 < k) = true := decide_eq_true (by omega)
        have hsub : IntKind.i64.wrap ((k : Int) - 1) = (m : Int) := by rw [IntWalk.i64_in _ (by omega)]; omega
        have hmk : (m : Int) < (k : Int) := by omega
        have hm0 : (0 : Int) ≤ (m : Int) := by omega
        have hlx : m < (keysS x).length := by rw [keysS_length]; omega
        have hlk : m < ((keysS x).take k).length := by rw [List.length_take, keysS_length]; omega
        obtain ⟨A', cap', e', _, _, hrk, hok⟩ := HOK.out.rd
        obtain ⟨rfl, hkq, rfl⟩ := Value.slice.inj e'
        clear hkq
        obtain ⟨gk, ok, rfl, _, hck⟩ := hrk.elem hok m hlk
        rw [List.getElem_take] at hck
        have HKM := Lib.hid (keysS_ok x _ (List.getElem_mem hlx))
        have HDM := Lib.hid (show ∀ j u, (tKey.enc (keysS x)[m])[j]? = some u → w2.cell? ⟨gk, ok + m * 32 + j, none⟩ = some u from hck)
        have HG2 := Lib.hid (gL_lt hlx)
        have HM := Lib.hid hm
        have hw1 : IntKind.i64.wrap (m : Int) = (m : Int) := IntWalk.i64_in _ (by omega)
        clear e' hrk hok hck hlk hm
        go_wp2_with fail
        refine wp_region_held_drew (S := fun W => Ext w2 W) (by kernel_rfl) (Ext.refl _).drew (fun hHeld => ?_)
        refine wpAnyH_take (i := 0) (oi := ?oiz44) (v := ?vz44) ?hiz44 (by kernel_rfl) (by kernel_rfl) (by kernel_rfl) ?hQz44 ?hyz44 (by assumption) ?restz44
        case hiz44 => simp only [List.getElem?_toArray, List.getElem?_cons_zero, List.getElem?_cons_succ]; rfl
        case hQz44 => exact fun _ _ _ h => h
        case hyz44 => exact Or.inl ⟨by rfl, by intro w hSw; (try dsimp only at hSw); go_simp; with_reducible rfl⟩
        try simp only [Act.put, List.setIfInBounds_toArray, List.set_cons_zero, List.set_cons_succ]
        refine wpAnyH_take (i := 1) (oi := ?oiz45) (v := ?vz45) ?hiz45 (by kernel_rfl) (by kernel_rfl) (by kernel_rfl) ?hQz45 ?hyz45 (by assumption) ?restz45
        case hiz45 => simp only [List.getElem?_toArray, List.getElem?_cons_zero, List.getElem?_cons_succ]; rfl
        case hQz45 => exact fun _ _ _ h => h
        case hyz45 => exact Or.inl ⟨by rfl, by intro w hSw; (try dsimp only at hSw); go_simp; with_reducible rfl⟩
        try simp only [Act.put, List.setIfInBounds_toArray, List.set_cons_zero, List.set_cons_succ]
        refine wpAnyH_take (i := 2) (oi := ?oiz46) (v := ?vz46) ?hiz46 (by kernel_rfl) (by kernel_rfl) (by kernel_rfl) ?hQz46 ?hyz46 (by assumption) ?restz46
        case hiz46 => simp only [List.getElem?_toArray, List.getElem?_cons_zero, List.getElem?_cons_succ]; rfl
        case hQz46 => exact fun _ _ _ h => h
        case hyz46 => exact Or.inl ⟨by rfl, by intro w hSw; (try dsimp only at hSw); go_simp; with_reducible rfl⟩
        try simp only [Act.put, List.setIfInBounds_toArray, List.set_cons_zero, List.set_cons_succ]
        refine wpAnyH_take (i := 3) (oi := ?oiz47) (v := ?vz47) ?hiz47 (by kernel_rfl) (by kernel_rfl) (by kernel_rfl) ?hQz47 ?hyz47 (by assumption) ?restz47
        case hiz47 => simp only [List.getElem?_toArray, List.getElem?_cons_zero, List.getElem?_cons_succ]; rfl
        case hQz47 => exact fun _ _ _ h => h
        case hyz47 => exact Or.inl ⟨by rfl, by intro w hSw; (try dsimp only at hSw); go_simp; with_reducible rfl⟩
        try simp only [Act.put, List.setIfInBounds_toArray, List.set_cons_zero, List.set_cons_succ]
        refine wpAnyH_take (i := 4) (oi := ?oiz48) (v := ?vz48) ?hiz48 (by kernel_rfl) (by kernel_rfl) (by kernel_rfl) ?hQz48 ?hyz48 (by assumption) ?restz48
        case hiz48 => simp only [List.getElem?_toArray, List.getElem?_cons_zero, List.getElem?_cons_succ]; rfl
        case hQz48 => exact fun _ _ _ h => h
        case hyz48 => exact Or.inl ⟨by rfl, by intro w hSw; (try dsimp only at hSw); go_simp; with_reducible rfl⟩
        try simp only [Act.put, List.setIfInBounds_toArray, List.set_cons_zero, List.set_cons_succ]
        refine wpAnyH_take (i := 5) (oi := ?oiz49) (v := ?vz49) ?hiz49 (by kernel_rfl) (by kernel_rfl) (by kernel_rfl) ?hQz49 ?hyz49 (by assumption) ?restz49
        case hiz49 => simp only [List.getElem?_toArray, List.getElem?_cons_zero, List.getElem?_cons_succ]; rfl
        case hQz49 => exact fun _ _ _ h => h
        case hyz49 => exact Or.inl ⟨by rfl, by intro w hSw; (try dsimp only at hSw); go_simp; with_reducible rfl⟩
        try simp only [Act.put, List.setIfInBounds_toArray, List.set_cons_zero, List.set_cons_succ]
        refine wpAnyH_take (i := 6) (oi := ?oiz50) (v := (.slice (some ⟨gk, ok, none⟩) k c2)) ?hiz50 (by kernel_rfl) (by kernel_rfl) (by kernel_rfl) ?hQz50 ?hyz50 (by assumption) ?restz50
        case hiz50 => simp only [List.getElem?_toArray, List.getElem?_cons_zero, List.getElem?_cons_succ]; rfl
        case hQz50 => exact fun _ _ _ h => h
        case hyz50 => exact Or.inl ⟨by rfl, by intro w hSw; (try dsimp only at hSw); have hcq := (HBK.out.ext hSw).at_ 1 rfl; go_simp; (try with_reducible rfl)⟩
        try simp only [Act.put, List.setIfInBounds_toArray, List.set_cons_zero, List.set_cons_succ]
        refine wpAnyH_take (i := 7) (oi := ?oiz51) (v := ?vz51) ?hiz51 (by kernel_rfl) (by kernel_rfl) (by kernel_rfl) ?hQz51 ?hyz51 (by assumption) ?restz51
        case hiz51 => simp only [List.getElem?_toArray, List.getElem?_cons_zero, List.getElem?_cons_succ]; rfl
        case hQz51 => exact fun _ _ _ h => h
        case hyz51 => exact Or.inl ⟨by rfl, by intro w hSw; (try dsimp only at hSw); go_simp; with_reducible rfl⟩
        try simp only [Act.put, List.setIfInBounds_toArray, List.set_cons_zero, List.set_cons_succ]
        refine wpAnyH_take (i := 8) (oi := ?oiz52) (v := (.int .i64 (m : Int))) ?hiz52 (by kernel_rfl) (by kernel_rfl) (by kernel_rfl) ?hQz52 ?hyz52 (by assumption) ?restz52
        case hiz52 => simp only [List.getElem?_toArray, List.getElem?_cons_zero, List.getElem?_cons_succ]; rfl
        case hQz52 => exact fun _ _ _ h => h
        case hyz52 => exact Or.inl ⟨by rfl, by intro w hSw; (try dsimp only at hSw); go_simp; (try simp only [hsub]); (try with_reducible rfl)⟩
        try simp only [Act.put, List.setIfInBounds_toArray, List.set_cons_zero, List.set_cons_succ]
        refine wpAnyH_take (i := 9) (oi := ?oiz53) (v := ?vz53) ?hiz53 (by kernel_rfl) (by kernel_rfl) (by kernel_rfl) ?hQz53 ?hyz53 (by assumption) ?restz53
        case hiz53 => simp only [List.getElem?_toArray, List.getElem?_cons_zero, List.getElem?_cons_succ]; rfl
        case hQz53 => exact fun _ _ _ h => h
        case hyz53 => exact Or.inl ⟨by rfl, by intro w hSw; (try dsimp only at hSw); go_simp; with_reducible rfl⟩
        try simp only [Act.put, List.setIfInBounds_toArray, List.set_cons_zero, List.set_cons_succ]
        refine wpAnyH_take (i := 10) (oi := ?oiz54) (v := (.agg (tKey.enc (keysS x)[m]).toArray)) ?hiz54 (by kernel_rfl) (by kernel_rfl) (by kernel_rfl) ?hQz54 ?hyz54 (by assumption) ?restz54
        case hiz54 => simp only [List.getElem?_toArray, List.getElem?_cons_zero, List.getElem?_cons_succ]; rfl
        case hQz54 => exact fun _ _ _ h => h
        case hyz54 => refine yields_loadR gk (ok + m * 32) (tKey.enc (keysS x)[m]) (by rw [tKey.len _ HKM.out]; exact aggKey) HDM.out ?_ _ rfl rfl; rfl
        try simp only [Act.put, List.setIfInBounds_toArray, List.set_cons_zero, List.set_cons_succ]
        refine wpAnyH_take (i := 11) (oi := ?oiz55) (v := (.agg (numsA .u8 q7))) ?hiz55 (by kernel_rfl) (by kernel_rfl) (by kernel_rfl) ?hQz55 ?hyz55 (by assumption) ?restz55
        case hiz55 => simp only [List.getElem?_toArray, List.getElem?_cons_zero, List.getElem?_cons_succ]; rfl
        case hQz55 => exact fun _ _ _ h => h
        case hyz55 => refine yields_loadB V.out aggKey hsz ?_ _ rfl rfl; rfl
        try simp only [Act.put, List.setIfInBounds_toArray, List.set_cons_zero, List.set_cons_succ]
        refine wpAnyH_ready (rs := [12]) (by kernel_rfl) (by simp) (AllReadyH.cons (o := ?oy5612) ?hy5612 (fun K hK => ?sy5612) AllReadyH.nil)
        case hy5612 => simp only [List.getElem?_toArray, List.getElem?_cons_zero, List.getElem?_cons_succ]; rfl
        go_simp
        refine (l01Compare_any (keysS x)[m] q7 HKM.out HKo.out _).mono ?_
        rintro e w3 ⟨rfl, hx⟩
        have hH2 := hHeld.trans hx
        refine hK.out _ _ hH2 (fun _ => ?_)
        clear hHeld hK K
        have hHeld := hH2
        clear hH2
        try simp only [Act.put, List.setIfInBounds_toArray, List.set_cons_zero, List.set_cons_succ]
        refine wpAnyH_take (i := 13) (oi := ?oiz57) (v := ?vz57) ?hiz57 (by kernel_rfl) (by kernel_rfl) (by kernel_rfl) ?hQz57 ?hyz57 (by assumption) ?restz57
        case hiz57 => simp only [List.getElem?_toArray, List.getElem?_cons_zero, List.getElem?_cons_succ]; rfl
        case hQz57 => exact fun _ _ _ h => h
        case hyz57 => exact Or.inl ⟨by rfl, by intro w hSw; (try dsimp only at hSw); go_simp; with_reducible rfl⟩
        try simp only [Act.put, List.setIfInBounds_toArray, List.set_cons_zero, List.set_cons_succ]
        refine wpAnyH_take (i := 14) (oi := ?oiz58) (v := ?vz58) ?hiz58 (by kernel_rfl) (by kernel_rfl) (by kernel_rfl) ?hQz58 ?hyz58 (by assumption) ?restz58
        case hiz58 => simp only [List.getElem?_toArray, List.getElem?_cons_zero, List.getElem?_cons_succ]; rfl
        case hQz58 => exact fun _ _ _ h => h
        case hyz58 => exact Or.inl ⟨by rfl, by intro w hSw; (try dsimp only at hSw); go_simp; with_reducible rfl⟩
        try simp only [Act.put, List.setIfInBounds_toArray, List.set_cons_zero, List.set_cons_succ]
        have hx3 := hHeld
        clear hHeld
        refine wpAnyH_done (by kernel_rfl) ?_ _
        have HX3 := Lib.hid (HX2.out.trans hx3)
        replace HBK := Lib.hid (HBK.out.ext hx3)
        replace HOB := Lib.hid (HOB.out.ext hx3)
        replace HOK := Lib.hid (HOK.out.ext hx3)
        replace V := Lib.hid (V.out.ext hx3)
        clear hx3 HX2
        by_cases hc : cmpL (keysS x)[m] q7 < 0
        · have hge : ¬ (0 : Int) ≤ cmpL (keysS x)[m] q7 := by omega
          have HSN := Lib.hid (show srtB (keysS x) (k + 1) = true by rw [HM.out, srtB_succ, ← HM.out, HSRT.out, HG2.out, HGL.out, HKAT.out, HKE.out, decide_eq_true hc]; rfl)
          clear hc h0
          go_wp2_with fail
          go_wp2_with fail
          refine wp_region_f 16 (S := fun W => Blk W w.heap.size 76 #[.slice A1 k c1, .slice (some ⟨gk, ok, none⟩) k c2] ∧ Ext w W) (by kernel_rfl) ⟨HBK.out.drewN 1, HX3.out.drew⟩ (fun hHeld => ?_)
          have HOz := Lib.hid (show Own tBlC 68 w3.drew (w.heap.size + 1) (.slice A1 k c1) (ys.take k) from HOB.out)
          have HKz := Lib.hid (show Own tKey 53 w3.drew (w.heap.size + 1) (.slice (some ⟨gk, ok, none⟩) k c2) ((keysS x).take k) from HOK.out)
          have VZ := Lib.hid (show Blk w3.drew p 53 (numsA .u8 q7) from V.out)
          clear HOB HOK HBK V HX3
          generalize w3.drew = wz at hHeld HOz HKz VZ ⊢
          refine wpF_take (i := 0) (oi := ?oiz59) (v := ?vz59) ?hiz59 (by kernel_rfl) (by kernel_rfl) (by kernel_rfl) (by kernel_rfl) ?hQz59 ?hyz59 (by assumption) ?restz59
          case hiz59 => simp only [List.getElem?_toArray, List.getElem?_cons_zero, List.getElem?_cons_succ]; rfl
          case hQz59 => exact fun _ _ _ h => h
          case hyz59 => exact Or.inl ⟨by rfl, by intro w hSw; (try dsimp only at hSw); go_simp; with_reducible rfl⟩
          try simp only [Act.put, List.setIfInBounds_toArray, List.set_cons_zero, List.set_cons_succ]
          refine wpF_take (i := 1) (oi := ?oiz60) (v := ?vz60) ?hiz60 (by kernel_rfl) (by kernel_rfl) (by kernel_rfl) (by kernel_rfl) ?hQz60 ?hyz60 (by assumption) ?restz60
          case hiz60 => simp only [List.getElem?_toArray, List.getElem?_cons_zero, List.getElem?_cons_succ]; rfl
          case hQz60 => exact fun _ _ _ h => h
          case hyz60 => exact Or.inl ⟨by rfl, by intro w hSw; (try dsimp only at hSw); go_simp; with_reducible rfl⟩
          try simp only [Act.put, List.setIfInBounds_toArray, List.set_cons_zero, List.set_cons_succ]
          refine wpF_take (i := 2) (oi := ?oiz61) (v := ?vz61) ?hiz61 (by kernel_rfl) (by kernel_rfl) (by kernel_rfl) (by kernel_rfl) ?hQz61 ?hyz61 (by assumption) ?restz61
          case hiz61 => simp only [List.getElem?_toArray, List.getElem?_cons_zero, List.getElem?_cons_succ]; rfl
          case hQz61 => exact fun _ _ _ h => h
          case hyz61 => exact Or.inl ⟨by rfl, by intro w hSw; (try dsimp only at hSw); go_simp; with_reducible rfl⟩
          try simp only [Act.put, List.setIfInBounds_toArray, List.set_cons_zero, List.set_cons_succ]
          refine wpF_take (i := 3) (oi := ?oiz62) (v := ?vz62) ?hiz62 (by kernel_rfl) (by kernel_rfl) (by kernel_rfl) (by kernel_rfl) ?hQz62 ?hyz62 (by assumption) ?restz62
          case hiz62 => simp only [List.getElem?_toArray, List.getElem?_cons_zero, List.getElem?_cons_succ]; rfl
          case hQz62 => exact fun _ _ _ h => h
          case hyz62 => exact Or.inl ⟨by rfl, by intro w hSw; (try dsimp only at hSw); go_simp; with_reducible rfl⟩
          try simp only [Act.put, List.setIfInBounds_toArray, List.set_cons_zero, List.set_cons_succ]
          refine wpF_take (i := 4) (oi := ?oiz63) (v := (.slice A1 k c1)) ?hiz63 (by kernel_rfl) (by kernel_rfl) (by kernel_rfl) (by kernel_rfl) ?hQz63 ?hyz63 (by assumption) ?restz63
          case hiz63 => simp only [List.getElem?_toArray, List.getElem?_cons_zero, List.getElem?_cons_succ]; rfl
          case hQz63 => exact fun _ _ _ h => h
          case hyz63 => exact Or.inl ⟨by rfl, by intro w hSw; (try dsimp only at hSw); have hcq := hSw.1.at_ 0 rfl; go_simp; (try with_reducible rfl)⟩
          try simp only [Act.put, List.setIfInBounds_toArray, List.set_cons_zero, List.set_cons_succ]
          refine wpF_take (i := 5) (oi := ?oiz64) (v := ?vz64) ?hiz64 (by kernel_rfl) (by kernel_rfl) (by kernel_rfl) (by kernel_rfl) ?hQz64 ?hyz64 (by assumption) ?restz64
          case hiz64 => simp only [List.getElem?_toArray, List.getElem?_cons_zero, List.getElem?_cons_succ]; rfl
          case hQz64 => exact fun _ _ _ h => h
          case hyz64 => exact Or.inl ⟨by rfl, by intro w hSw; (try dsimp only at hSw); go_simp; with_reducible rfl⟩
          try simp only [Act.put, List.setIfInBounds_toArray, List.set_cons_zero, List.set_cons_succ]
          refine wpF_take (i := 6) (oi := ?oiz65) (v := ?vz65) ?hiz65 (by kernel_rfl) (by kernel_rfl) (by kernel_rfl) (by kernel_rfl) ?hQz65 ?hyz65 (by assumption) ?restz65
          case hiz65 => simp only [List.getElem?_toArray, List.getElem?_cons_zero, List.getElem?_cons_succ]; rfl
          case hQz65 => exact fun _ _ _ h => h
          case hyz65 => exact Or.inl ⟨by rfl, by intro w hSw; (try dsimp only at hSw); go_simp; with_reducible rfl⟩
          try simp only [Act.put, List.setIfInBounds_toArray, List.set_cons_zero, List.set_cons_succ]
          refine wpF_take (i := 7) (oi := ?oiz66) (v := ?vz66) ?hiz66 (by kernel_rfl) (by kernel_rfl) (by kernel_rfl) (by kernel_rfl) ?hQz66 ?hyz66 (by assumption) ?restz66
          case hiz66 => simp only [List.getElem?_toArray, List.getElem?_cons_zero, List.getElem?_cons_succ]; rfl
          case hQz66 => exact fun _ _ _ h => h
          case hyz66 => exact Or.inl ⟨by rfl, by intro w hSw; (try dsimp only at hSw); go_simp; with_reducible rfl⟩
          try simp only [Act.put, List.setIfInBounds_toArray, List.set_cons_zero, List.set_cons_succ]
          refine wpF_take (i := 8) (oi := ?oiz67) (v := (.slice (some ⟨g, o, none⟩) x.length cap)) ?hiz67 (by kernel_rfl) (by kernel_rfl) (by kernel_rfl) (by kernel_rfl) ?hQz67 ?hyz67 (by assumption) ?restz67
          case hiz67 => simp only [List.getElem?_toArray, List.getElem?_cons_zero, List.getElem?_cons_succ]; rfl
          case hQz67 => exact fun _ _ _ h => h
          case hyz67 => exact Or.inl ⟨by rfl, by intro w hSw; (try dsimp only at hSw); have hcq := (HB.out.ext hSw.2).at_ 0 rfl; go_simp; (try with_reducible rfl)⟩
          try simp only [Act.put, List.setIfInBounds_toArray, List.set_cons_zero, List.set_cons_succ]
          refine wpF_take (i := 9) (oi := ?oiz68) (v := ?vz68) ?hiz68 (by kernel_rfl) (by kernel_rfl) (by kernel_rfl) (by kernel_rfl) ?hQz68 ?hyz68 (by assumption) ?restz68
          case hiz68 => simp only [List.getElem?_toArray, List.getElem?_cons_zero, List.getElem?_cons_succ]; rfl
          case hQz68 => exact fun _ _ _ h => h
          case hyz68 => exact Or.inl ⟨by rfl, by intro w hSw; (try dsimp only at hSw); go_simp; with_reducible rfl⟩
          try simp only [Act.put, List.setIfInBounds_toArray, List.set_cons_zero, List.set_cons_succ]
          refine wpF_take (i := 10) (oi := ?oiz69) (v := ?vz69) ?hiz69 (by kernel_rfl) (by kernel_rfl) (by kernel_rfl) (by kernel_rfl) ?hQz69 ?hyz69 (by assumption) ?restz69
          case hiz69 => simp only [List.getElem?_toArray, List.getElem?_cons_zero, List.getElem?_cons_succ]; rfl
          case hQz69 => exact fun _ _ _ h => h
          case hyz69 => exact Or.inl ⟨by rfl, by intro w hSw; (try dsimp only at hSw); go_simp; with_reducible rfl⟩
          try simp only [Act.put, List.setIfInBounds_toArray, List.set_cons_zero, List.set_cons_succ]
          refine wpF_take (i := 11) (oi := ?oiz70) (v := (.agg (tBlC.enc (t0, tA, tn, tc)).toArray)) ?hiz70 (by kernel_rfl) (by kernel_rfl) (by kernel_rfl) (by kernel_rfl) ?hQz70 ?hyz70 (by assumption) ?restz70
          case hiz70 => simp only [List.getElem?_toArray, List.getElem?_cons_zero, List.getElem?_cons_succ]; rfl
          case hQz70 => exact fun _ _ _ h => h
          case hyz70 => refine yields_loadS9 g (o + k * 2) (tBlC.enc (t0, tA, tn, tc)) aggBlobI (fun W hW => HC.out W hW.2) ?_ _ rfl rfl; rfl
          try simp only [Act.put, List.setIfInBounds_toArray, List.set_cons_zero, List.set_cons_succ]
          refine wpF_ready (rs := [12]) (by kernel_rfl) (by simp) (AllF.cons (o := ?oy7112) ?hy7112 (fun K hK => ?sy7112) AllF.nil)
          case hy7112 => simp only [List.getElem?_toArray, List.getElem?_cons_zero, List.getElem?_cons_succ]; rfl
          refine stp_one rowBlC (by decide) (t0, tA, tn, tc) trivial rfl _ rfl rfl ?_
          have hH2 := hHeld.2.alloc (.cells (tBlC.enc (t0, tA, tn, tc)).toArray 68)
          have hE := ext_alloc wz (.cells (tBlC.enc (t0, tA, tn, tc)).toArray 68)
          have hB2 := hHeld.1.ext hE
          refine hK.out _ _ (fun _ => ⟨hB2, hH2⟩) ?_
          have HO1 := Lib.hid (HOz.out.ext hE)
          have HK1 := Lib.hid (HKz.out.ext hE)
          have V1 := Lib.hid (VZ.out.ext hE)
          clear hK K hHeld hE HKz VZ
          have hHeld := And.intro hB2 hH2
          clear hB2 hH2
          try simp only [Act.put, List.setIfInBounds_toArray, List.set_cons_zero, List.set_cons_succ]
          refine wpF_ready (rs := [13]) (by kernel_rfl) (by simp) (AllF.cons (o := ?oy7213) ?hy7213 (fun K hK => ?sy7213) AllF.nil)
          case hy7213 => simp only [List.getElem?_toArray, List.getElem?_cons_zero, List.getElem?_cons_succ]; rfl
          refine stp_append rowBlC rfl _ _ rfl (v := .slice A1 k c1) rfl HO1.out _ _ rfl (A := some ⟨wz.heap.size, 0, none⟩) (ys := [(t0, tA, tn, tc)]) rfl (rd_one (T := tBlC) wz (t0, tA, tn, tc) trivial _) (fun _ _ => trivial) (by have := HYL.out; simp only [List.length_singleton, List.length_take]; omega) (by have := hHeld.1.lt; omega) ?_
          intro v9 w9 ho1 hg1 hat1
          obtain ⟨B1, m1, b1, rfl⟩ := ho1.shape3
          have hB2 := hHeld.1.grown hg1 (HO1.out.far_of_lt (Nat.lt_succ_self _))
          have hH2 := hHeld.2.app (v := .slice A1 k c1) (fun q hq => by have := (HO1.out.base_le q hq).1; omega) hg1
          refine hK.out _ _ (fun _ => ⟨hB2, hH2⟩) ?_
          have HO2 := Lib.hid ho1
          have HK2 := Lib.hid (HK1.out.kept hg1 HN2.out)
          have V2 := Lib.hid (V1.out.grown hg1 NV1.out)
          have M1 := Lib.hid (apart_new HK1.out HN2.out hat1)
          have M2 := Lib.hid (apart_new' HK1.out HN1.out hat1)
          have MV := Lib.hid (far_new V1.out NV1.out hat1)
          clear hK K ho1 hg1 hat1 hHeld HO1 HK1 V1 HOz
          have hHeld := And.intro hB2 hH2
          clear hB2 hH2
          try simp only [Act.put, List.setIfInBounds_toArray, List.set_cons_zero, List.set_cons_succ]
          refine wpF_take (i := 14) (oi := ?oiz73) (v := ?vz73) ?hiz73 (by kernel_rfl) (by kernel_rfl) (by kernel_rfl) (by kernel_rfl) ?hQz73 ?hyz73 (by assumption) ?restz73
          case hiz73 => simp only [List.getElem?_toArray, List.getElem?_cons_zero, List.getElem?_cons_succ]; rfl
          case hQz73 => exact fun _ _ _ h => h
          case hyz73 => exact Or.inl ⟨by rfl, by intro w hSw; (try dsimp only at hSw); go_simp; with_reducible rfl⟩
          try simp only [Act.put, List.setIfInBounds_toArray, List.set_cons_zero, List.set_cons_succ]
          refine wpF_take (i := 15) (oi := ?oiz74) (v := ?vz74) ?hiz74 (by kernel_rfl) (by kernel_rfl) (by kernel_rfl) (by kernel_rfl) ?hQz74 ?hyz74 (by assumption) ?restz74
          case hiz74 => simp only [List.getElem?_toArray, List.getElem?_cons_zero, List.getElem?_cons_succ]; rfl
          case hQz74 => exact fun _ _ _ h => h
          case hyz74 => exact Or.inl ⟨by rfl, by intro w hSw; (try dsimp only at hSw); go_simp; with_reducible rfl⟩
          try simp only [Act.put, List.setIfInBounds_toArray, List.set_cons_zero, List.set_cons_succ]
          refine wpF_ready (rs := [16]) (by kernel_rfl) (by simp) (AllF.cons (o := ?oy7516) ?hy7516 (fun K hK => ?sy7516) AllF.nil)
          case hy7516 => simp only [List.getElem?_toArray, List.getElem?_cons_zero, List.getElem?_cons_succ]; rfl
          have c0 := hHeld.1.at_ 0 rfl
          have f0 := hHeld.1.free 0
          go_simp
          refine hK.out _ _ (fun h => absurd rfl h) ?_
          have B3 := Lib.hid (hHeld.1.set 0 (.slice B1 m1 b1))
          have X3 := Lib.hid (hHeld.2.set (p := ⟨w.heap.size, 0, none⟩) (Nat.le_refl _) (.slice B1 m1 b1))
          have HO3 := Lib.hid (HO2.out.set_below (p := ⟨w.heap.size, 0, none⟩) (Nat.lt_succ_self _) (.slice B1 m1 b1))
          have HK3 := Lib.hid (HK2.out.set_below (p := ⟨w.heap.size, 0, none⟩) (Nat.lt_succ_self _) (.slice B1 m1 b1))
          have V3 := Lib.hid (V2.out.far (p := ⟨w.heap.size, 0, none⟩) (by show p ≠ w.heap.size; omega) (.slice B1 m1 b1))
          clear hK K hHeld HO2 HK2 V2 c0 f0
          try simp only [Act.put, List.setIfInBounds_toArray, List.set_cons_zero, List.set_cons_succ]
          refine wpF_done (by kernel_rfl) ?_ _
          generalize w9.setCell ⟨w.heap.size, 0, none⟩ (.slice B1 m1 b1) = w4 at B3 X3 HO3 HK3 V3 ⊢
          have B3' := Lib.hid (show Blk w4 w.heap.size 76 #[.slice B1 m1 b1, .slice (some ⟨gk, ok, none⟩) k c2] from B3.out)
          clear B3
          go_wp2_with fail
          refine wp_region_f 10 (S := fun W => Blk W w.heap.size 76 #[.slice B1 m1 b1, .slice (some ⟨gk, ok, none⟩) k c2] ∧ Blk W p 53 (numsA .u8 q7) ∧ Ext w W) (by kernel_rfl) ⟨B3'.out.drewN 1, V3.out.drewN 1, X3.out.drew⟩ (fun hHeld => ?_)
          have HOz := Lib.hid (show Own tBlC 68 w4.drew (w.heap.size + 1) (.slice B1 m1 b1) _ from HO3.out)
          have HKz := Lib.hid (show Own tKey 53 w4.drew (w.heap.size + 1) (.slice (some ⟨gk, ok, none⟩) k c2) ((keysS x).take k) from HK3.out)
          clear HO3 HK3 B3' V3 X3
          generalize w4.drew = wz at hHeld HOz HKz ⊢
          refine wpF_take (i := 0) (oi := ?oiz76) (v := ?vz76) ?hiz76 (by kernel_rfl) (by kernel_rfl) (by kernel_rfl) (by kernel_rfl) ?hQz76 ?hyz76 (by assumption) ?restz76
          case hiz76 => simp only [List.getElem?_toArray, List.getElem?_cons_zero, List.getElem?_cons_succ]; rfl
          case hQz76 => exact fun _ _ _ h => h
          case hyz76 => exact Or.inl ⟨by rfl, by intro w hSw; (try dsimp only at hSw); go_simp; with_reducible rfl⟩
          try simp only [Act.put, List.setIfInBounds_toArray, List.set_cons_zero, List.set_cons_succ]
          refine wpF_take (i := 1) (oi := ?oiz77) (v := ?vz77) ?hiz77 (by kernel_rfl) (by kernel_rfl) (by kernel_rfl) (by kernel_rfl) ?hQz77 ?hyz77 (by assumption) ?restz77
          case hiz77 => simp only [List.getElem?_toArray, List.getElem?_cons_zero, List.getElem?_cons_succ]; rfl
          case hQz77 => exact fun _ _ _ h => h
          case hyz77 => exact Or.inl ⟨by rfl, by intro w hSw; (try dsimp only at hSw); go_simp; with_reducible rfl⟩
          try simp only [Act.put, List.setIfInBounds_toArray, List.set_cons_zero, List.set_cons_succ]
          refine wpF_take (i := 2) (oi := ?oiz78) (v := ?vz78) ?hiz78 (by kernel_rfl) (by kernel_rfl) (by kernel_rfl) (by kernel_rfl) ?hQz78 ?hyz78 (by assumption) ?restz78
          case hiz78 => simp only [List.getElem?_toArray, List.getElem?_cons_zero, List.getElem?_cons_succ]; rfl
          case hQz78 => exact fun _ _ _ h => h
          case hyz78 => exact Or.inl ⟨by rfl, by intro w hSw; (try dsimp only at hSw); go_simp; with_reducible rfl⟩
          try simp only [Act.put, List.setIfInBounds_toArray, List.set_cons_zero, List.set_cons_succ]
          refine wpF_take (i := 3) (oi := ?oiz79) (v := ?vz79) ?hiz79 (by kernel_rfl) (by kernel_rfl) (by kernel_rfl) (by kernel_rfl) ?hQz79 ?hyz79 (by assumption) ?restz79
          case hiz79 => simp only [List.getElem?_toArray, List.getElem?_cons_zero, List.getElem?_cons_succ]; rfl
          case hQz79 => exact fun _ _ _ h => h
          case hyz79 => exact Or.inl ⟨by rfl, by intro w hSw; (try dsimp only at hSw); go_simp; with_reducible rfl⟩
          try simp only [Act.put, List.setIfInBounds_toArray, List.set_cons_zero, List.set_cons_succ]
          refine wpF_take (i := 4) (oi := ?oiz80) (v := (.slice (some ⟨gk, ok, none⟩) k c2)) ?hiz80 (by kernel_rfl) (by kernel_rfl) (by kernel_rfl) (by kernel_rfl) ?hQz80 ?hyz80 (by assumption) ?restz80
          case hiz80 => simp only [List.getElem?_toArray, List.getElem?_cons_zero, List.getElem?_cons_succ]; rfl
          case hQz80 => exact fun _ _ _ h => h
          case hyz80 => exact Or.inl ⟨by rfl, by intro w hSw; (try dsimp only at hSw); have hcq := hSw.1.at_ 1 rfl; go_simp; (try with_reducible rfl)⟩
          try simp only [Act.put, List.setIfInBounds_toArray, List.set_cons_zero, List.set_cons_succ]
          refine wpF_take (i := 5) (oi := ?oiz81) (v := (.agg (numsA .u8 q7))) ?hiz81 (by kernel_rfl) (by kernel_rfl) (by kernel_rfl) (by kernel_rfl) ?hQz81 ?hyz81 (by assumption) ?restz81
          case hiz81 => simp only [List.getElem?_toArray, List.getElem?_cons_zero, List.getElem?_cons_succ]; rfl
          case hQz81 => exact fun _ _ _ h => h
          case hyz81 => refine yields_loadBS9 (fun W hW => hW.2.1) aggKey hsz ?_ _ rfl rfl; rfl
          try simp only [Act.put, List.setIfInBounds_toArray, List.set_cons_zero, List.set_cons_succ]
          refine wpF_ready (rs := [6]) (by kernel_rfl) (by simp) (AllF.cons (o := ?oy826) ?hy826 (fun K hK => ?sy826) AllF.nil)
          case hy826 => simp only [List.getElem?_toArray, List.getElem?_cons_zero, List.getElem?_cons_succ]; rfl
          refine stp_one rowKey9 (by decide) q7 HKo.out rfl _ rfl rfl ?_
          have hE := ext_alloc wz (.cells (tKey.enc q7).toArray 53)
          have hH2 : _ ∧ _ ∧ _ := ⟨hHeld.1.ext hE, hHeld.2.1.ext hE, hHeld.2.2.trans hE⟩
          refine hK.out _ _ (fun _ => hH2) ?_
          have HO1 := Lib.hid (HOz.out.ext hE)
          have HK1 := Lib.hid (HKz.out.ext hE)
          clear hK K hHeld hE HOz
          have hHeld := hH2
          clear hH2
          try simp only [Act.put, List.setIfInBounds_toArray, List.set_cons_zero, List.set_cons_succ]
          refine wpF_ready (rs := [7]) (by kernel_rfl) (by simp) (AllF.cons (o := ?oy837) ?hy837 (fun K hK => ?sy837) AllF.nil)
          case hy837 => simp only [List.getElem?_toArray, List.getElem?_cons_zero, List.getElem?_cons_succ]; rfl
          refine stp_append rowKey9 rfl _ _ rfl (v := .slice (some ⟨gk, ok, none⟩) k c2) rfl HK1.out _ _ rfl (A := some ⟨wz.heap.size, 0, none⟩) (ys := [q7]) rfl (rd_one (T := tKey) wz q7 HKo.out _) (by intro y hy; obtain rfl := List.mem_singleton.1 hy; exact HKo.out) (by have := keysS_length x; simp only [List.length_singleton, List.length_take]; omega) (by have := hHeld.1.lt; omega) ?_
          intro v9 w9 ho1 hg1 hat1
          obtain ⟨C1, q1, d1, rfl⟩ := ho1.shape3
          have hB2 := hHeld.1.grown hg1 (HK1.out.far_of_lt (Nat.lt_succ_self _))
          have hH2 := hHeld.2.2.app (v := .slice (some ⟨gk, ok, none⟩) k c2) (fun q hq => by have := (HK1.out.base_le q hq).1; omega) hg1
          have hV2 := hHeld.2.1.grown hg1 NV2.out
          refine hK.out _ _ (fun _ => ⟨hB2, hV2, hH2⟩) ?_
          have HK2 := Lib.hid ho1
          have HO2 := Lib.hid (HO1.out.kept hg1 M2.out)
          have P1 := Lib.hid (apart_new HO1.out M2.out hat1)
          have P2 := Lib.hid (apart_new' HO1.out M1.out hat1)
          clear hK K ho1 hg1 hat1 hHeld HO1 HK1 HKz
          have hHeld := And.intro hB2 (And.intro hV2 hH2)
          clear hB2 hH2 hV2
          try simp only [Act.put, List.setIfInBounds_toArray, List.set_cons_zero, List.set_cons_succ]
          refine wpF_take (i := 8) (oi := ?oiz84) (v := ?vz84) ?hiz84 (by kernel_rfl) (by kernel_rfl) (by kernel_rfl) (by kernel_rfl) ?hQz84 ?hyz84 (by assumption) ?restz84
          case hiz84 => simp only [List.getElem?_toArray, List.getElem?_cons_zero, List.getElem?_cons_succ]; rfl
          case hQz84 => exact fun _ _ _ h => h
          case hyz84 => exact Or.inl ⟨by rfl, by intro w hSw; (try dsimp only at hSw); go_simp; with_reducible rfl⟩
          try simp only [Act.put, List.setIfInBounds_toArray, List.set_cons_zero, List.set_cons_succ]
          refine wpF_take (i := 9) (oi := ?oiz85) (v := ?vz85) ?hiz85 (by kernel_rfl) (by kernel_rfl) (by kernel_rfl) (by kernel_rfl) ?hQz85 ?hyz85 (by assumption) ?restz85
          case hiz85 => simp only [List.getElem?_toArray, List.getElem?_cons_zero, List.getElem?_cons_succ]; rfl
          case hQz85 => exact fun _ _ _ h => h
          case hyz85 => exact Or.inl ⟨by rfl, by intro w hSw; (try dsimp only at hSw); go_simp; with_reducible rfl⟩
          try simp only [Act.put, List.setIfInBounds_toArray, List.set_cons_zero, List.set_cons_succ]
          refine wpF_ready (rs := [10]) (by kernel_rfl) (by simp) (AllF.cons (o := ?oy8610) ?hy8610 (fun K hK => ?sy8610) AllF.nil)
          case hy8610 => simp only [List.getElem?_toArray, List.getElem?_cons_zero, List.getElem?_cons_succ]; rfl
          have c0 := hHeld.1.at_ 1 rfl
          have f0 := hHeld.1.free 1
          go_simp
          refine hK.out _ _ (fun h => absurd rfl h) ?_
          have B3 := Lib.hid (show Blk (w9.setCell ⟨w.heap.size, 1, none⟩ (.slice C1 q1 d1)) w.heap.size 76 #[.slice B1 m1 b1, .slice C1 q1 d1] from hHeld.1.set 1 (.slice C1 q1 d1))
          have X3 := Lib.hid (hHeld.2.2.set (p := ⟨w.heap.size, 1, none⟩) (Nat.le_refl _) (.slice C1 q1 d1))
          have HO3 := Lib.hid (HO2.out.set_below (p := ⟨w.heap.size, 1, none⟩) (Nat.lt_succ_self _) (.slice C1 q1 d1))
          have HK3 := Lib.hid (HK2.out.set_below (p := ⟨w.heap.size, 1, none⟩) (Nat.lt_succ_self _) (.slice C1 q1 d1))
          clear hK K hHeld HO2 HK2 c0 f0
          try simp only [Act.put, List.setIfInBounds_toArray, List.set_cons_zero, List.set_cons_succ]
          refine wpF_done (by kernel_rfl) ?_ _
          go_wp2
          go_roundw
          case rel => exact ⟨k + 1, by omega, by go_num, HFK.out, HSN.out, ⟨_, _, B3.out, by rw [HTY.out, HT.out]; exact HO3.out, by rw [HTK.out, HKE.out]; exact HK3.out, P1.out, P2.out⟩, X3.out⟩
          case measure => simp [intOf]; omega
        · have hge : (0 : Int) ≤ cmpL (keysS x)[m] q7 := by omega
          have e : okSt x = false := by
            rw [okSt_eq, srtB_bad (keysS x) m x.length (by have := HM.out; omega) (by rw [HG2.out, ← HM.out, HGL.out, HKAT.out, HKE.out]; exact hc)]
            simp
          have HE := Lib.hid e
          clear e hc h0
          go_wp2
          go_ret2
          exact ⟨_, .bool false, .bool false, by rw [HE.out]; rfl, fun h => (by rw [HE.out] at h; cases h), HX3.out⟩
    · obtain rfl : k = x.length := by omega
      have e : okSt x = true := by rw [okSt_eq, HFIT.out, HSRT.out, decide_eq_true h128]; rfl
      have HE := Lib.hid e
      have HYE := Lib.hid (show ys.take x.length = ys from List.take_of_length_le (by rw [HYL.out]; exact Nat.le_refl _))
      have HKE := Lib.hid (show (keysS x).take x.length = keysS x from List.take_of_length_le (by rw [keysS_length]; exact Nat.le_refl _))
      clear e
      go_wp2
      go_ret2
      exact ⟨_, _, _, by rw [HE.out]; rfl, fun _ => ⟨Nat.le_refl _, HBK.out, ⟨ys, by rw [← HYE.out]; exact HOB.out.le (Nat.le_succ _), HYL.out, fun i h1 h2 => (HOF.out i h1 h2).len⟩, by rw [← HKE.out]; exact HOK.out.le (Nat.le_succ _)⟩, HX.out⟩
end Go.Proofs.Ytnklgkmpcochfaa
/- compareKeys: what it does to the world, told whole. No condition. -/
namespace Go.Proofs.Ytnklgkmpcochfaa
open Go.RowKit
set_option linter.unusedVariables false
set_option linter.unusedSimpArgs false

set_option maxHeartbeats 1000000 in
set_option maxRecDepth 100000 in
theorem slCompare_d (v u : Value) (a b : List Int) (w : World) (S S' : Nat → Prop) (h : RdL tByte w S v a) (h' : RdL tByte w S' u b) (hl : a.length = b.length) :
    Calls Try.prog 65 #[v, u] w fun e w' => e = .returned (.int .i64 (cmpL a b)) ∧ Drawn w w' := by
  obtain ⟨A, cap, rfl, hcap, hlen, hrd, hok⟩ := h
  obtain ⟨A', cap', rfl, hcap', hlen', hrd', hok'⟩ := h'
  have Hrd := Lib.hid (show Rd w S 1 A a.length (nums .u8 a) by rw [← flat_bytes]; exact hrd)
  have Hrd' := Lib.hid (show Rd w S' 1 A' b.length (nums .u8 b) by rw [← flat_bytes]; exact hrd')
  have Hl := Lib.hid hl
  clear hrd hrd' hl
  go_enter Try.func65, Try.ntmps65
  go_wp2
  go_loopw [11] (fun i wr => ∃ k : Nat, k ≤ a.length ∧ i = .int .i64 k ∧ a.take k = b.take k ∧ Drawn w wr) (fun i _ => a.length - (intOf i).toNat)
  case atStart => exact ⟨0, by omega, rfl, by simp, Drawn.refl _⟩
  case round =>
    obtain ⟨k, hk, rfl, ht, hx⟩ := hrel
    have Ht := Lib.hid ht
    have HX := Lib.hid hx
    clear ht hx
    have hbl : (b.length : Int) = a.length := by rw [Hl.out]
    by_cases hlt : k < a.length
    · have hlt' : k < b.length := by rw [← Hl.out]; exact hlt
      obtain ⟨g, o, rfl, hs, hc⟩ := (Hrd.out).byte k hlt
      obtain ⟨g', o', rfl, hs', hc'⟩ := (Hrd'.out).byte k hlt'
      have hd := HX.out.ext.cell hc
      have hd' := HX.out.ext.cell hc'
      have hi : (0 : Int) ≤ (k : Int) := by omega
      have hi2 : (k : Int) < (a.length : Int) := by omega
      have hi3 : (k : Int) < (b.length : Int) := by omega
      clear hc hc' hbl
      have hcm := fun W => cmpB_any (gI a k) (gI b k) W
      by_cases he : gI a k = gI b k
      · have He := Lib.hid he
        simp only [if_pos he] at hcm
        clear he
        go_wp2_with fail
        refine (hcm _).mono ?_
        rintro e w' ⟨rfl, rfl⟩
        go_wp2
        go_roundw
        case rel => exact ⟨k + 1, by omega, by go_num, take_eq_step hlt hlt' Ht.out He.out, HX.out⟩
        case measure => simp [intOf]; omega
      · have HC := Lib.hid (cmpL_at a b k hlt hlt' Ht.out he)
        simp only [if_neg he] at hcm
        clear he
        by_cases hlx : gI a k < gI b k
        · have Hlx := Lib.hid hlx
          simp only [if_pos hlx] at hcm
          clear hlx
          go_wp2_with fail
          refine (hcm _).mono ?_
          rintro e w' ⟨rfl, rfl⟩
          go_wp2
          go_ret
          exact ⟨by rw [HC.out, if_pos Hlx.out]; rfl, HX.out⟩
        · have Hlx := Lib.hid (Int.not_lt.1 hlx)
          simp only [if_neg hlx] at hcm
          clear hlx
          go_wp2_with fail
          refine (hcm _).mono ?_
          rintro e w' ⟨rfl, rfl⟩
          go_wp2
          go_ret
          exact ⟨by rw [HC.out, if_neg (Int.not_lt.2 Hlx.out)]; rfl, HX.out⟩
    · have hq : ¬ (a.length : Int) < (b.length : Int) := by omega
      clear hbl
      go_wp2
      go_ret
      obtain rfl : k = a.length := by omega
      refine ⟨?_, HX.out⟩
      have e := Ht.out
      rw [List.take_of_length_le (by omega), List.take_of_length_le (by rw [← Hl.out]; omega)] at e
      subst e; rw [cmpL_self]; rfl
set_option maxHeartbeats 1000000 in
set_option maxRecDepth 100000 in
theorem compareKeys_d (a b : List Int) (ha : K32 a) (hb : K32 b) (w : World) :
    Calls Try.prog 38 #[.agg (numsA .u8 a), .agg (numsA .u8 b)] w fun e w' => e = .returned (.int .i64 (cmpL a b)) ∧ ∃ q os', w' = Go.Sort.grow (w.drewN q) os' := by
  have HA := Lib.hid ha
  have HB := Lib.hid hb
  clear ha hb
  go_enter Try.func38, Try.ntmps38
  go_wp2_with fail
  go_region_held3 (fun W => Drawn ((w.alloc (.cells (numsA .u8 a) 53)).alloc (.cells (numsA .u8 b) 53)) W) (first | exact Drawn.refl _ | exact (Drawn.refl _).drewN 1 | exact Drawn.trans (by assumption) (by assumption))
    (first
    | (go_at_call 65; refine (slCompare_d _ _ a b _ _ _ (rdl_blk (((Blk.new w 53 (numsA .u8 a)).alloc _).ext ((Ext.refl _).drew)) numsA_full HA.out.1 HA.out.2 (by decide) 32 (Nat.le_refl _)) (rdl_blk ((Blk.new' (g := w.heap.size + 1) (w := w.alloc (.cells (numsA .u8 a) 53)) (by simp) 53 (numsA .u8 b)).ext ((Ext.refl _).drew)) numsA_full HB.out.1 HB.out.2 (by decide) 32 (Nat.le_refl _)) (by rw [HA.out.1, HB.out.1])).mono ?_; rintro e p1 ⟨rfl, hx⟩))
  go_wp2
  go_ret
  refine ⟨rfl, ?_⟩
  have hD : Drawn ((w.alloc (.cells (numsA .u8 a) 53)).alloc (.cells (numsA .u8 b) 53)) p1 := by assumption
  obtain ⟨n, hn⟩ := hD
  exact ⟨n, #[.cells (numsA .u8 a) 53, .cells (numsA .u8 b) 53], by rw [hn, Go.Sort.alloc_eq_grow, Go.Sort.alloc_eq_grow, Go.Sort.grow_grow]; rfl⟩

end Go.Proofs.Ytnklgkmpcochfaa
/- Lists of entries: copied, counted, held against each other. No condition. -/
namespace Go.Proofs.Ytnklgkmpcochfaa
open Go.RowKit
set_option linter.unusedVariables false
set_option linter.unusedSimpArgs false

abbrev En := ByteArray × ByteArray
def tEnt : Ty En := ⟨2, fun e => [.string e.1, .string e.2], fun e => e.1.size ≤ 140737488351232 ∧ e.2.size ≤ 140737488351232, fun _ _ => rfl, fun _ u hu => by simp at hu; rcases hu with rfl | rfl <;> rfl⟩
theorem toEntT_any (a : En) (ha : tEnt.ok a) (w : World) :
    Calls Try.prog 100 #[.agg (tEnt.enc a).toArray] w fun e w' => e = .returned (.agg (tEnt.enc a).toArray) ∧ Ext w w' := toEntry_any a.1 a.2 w
set_option maxHeartbeats 1000000 in
set_option maxRecDepth 100000 in
theorem toEntryS_u (v : Value) (xs : List En) (w : World) (S : Nat → Prop) (h : RdL tEnt w S v xs) (hln : xs.length ≤ 1048576) :
    Calls Try.prog 74 #[v] w fun e w' => ∃ v', e = .returned v' ∧ Own tEnt 159 w' w.heap.size v' xs ∧ Ext w w' := by
  obtain ⟨A, cap, rfl, hcap, hlen, hrd, hok⟩ := h
  have Hrd := Lib.hid hrd
  have Hok := Lib.hid hok
  have HF := Lib.hid (flat_length tEnt xs hok)
  clear hrd hok
  obtain ⟨Z, hms, hm⟩ := make_rowN 126 159 2 32 Try.underlying126 (by kernel_rfl) .i64 .i64 xs.length (by omega) (by omega)
  have HMS := Lib.hid hms
  clear hms
  go_enter Try.func74, Try.ntmps74
  go_wp2
  go_loopw [4] (fun i wr => ∃ k : Nat, k ≤ xs.length ∧ i = .int .i64 k ∧ Fill wr w.heap.size 159 ((xs.take k).flatMap (tEnt).enc) ((xs.length - k) * 2) ∧ Ext w wr)
    (fun i _ => xs.length - (intOf i).toNat)
  case atStart => exact ⟨0, by omega, rfl, by rw [List.take_zero]; exact Fill.start' (Blk.new w _ _) (by rw [HMS.out, Nat.sub_zero]), ext_alloc _ _⟩
  case round =>
    obtain ⟨k, hk, rfl, hF, hx⟩ := hrel
    have HFl := Lib.hid hF
    have HX := Lib.hid hx
    clear hm hF hx
    by_cases hlt : k < xs.length
    · obtain ⟨g, o, rfl, hs, hc⟩ := Hrd.out.elem Hok.out k hlt
      have hx0 : (tEnt).ok xs[k] := Hok.out _ (List.getElem_mem hlt)
      have HX0 := Lib.hid hx0
      have hd : ∀ j u, ((tEnt).enc xs[k])[j]? = some u → wr.cell? ⟨g, o + k * 2 + j, none⟩ = some u := fun j u hu => HX.out.cell (hc j u hu)
      have HD := Lib.hid hd
      have HL := Lib.hid (flat_length tEnt (xs.take k) (fun x hx => Hok.out x (List.mem_of_mem_take hx)))
      have HTK := Lib.hid (show (xs.take k).length = k by rw [List.length_take]; omega)
      have HSN := Lib.hid (show (xs.take (k + 1)).flatMap (tEnt).enc = (xs.take k).flatMap (tEnt).enc ++ (tEnt).enc xs[k] by rw [List.take_succ_eq_append_getElem hlt, List.flatMap_append, List.flatMap_cons, List.flatMap_nil, List.append_nil])
      have HST := Lib.hid (show St 2 ((tEnt).enc xs[k]).toArray from ⟨by rw [List.size_toArray]; exact (tEnt).len _ hx0, by simpa using (tEnt).one _⟩)
      have HMU := Lib.hid (show (xs.length - k) * 2 = 2 + (xs.length - (k + 1)) * 2 by omega)
      clear hc hd hx0
      have hi : (0 : Int) ≤ (k : Int) := by omega
      go_wp2_with (refine wpl_load ⟨g, o + k * 2, none⟩ ((tEnt).enc xs[k]) (by rw [(tEnt).len _ HX0.out]; exact aggEntryL) rfl _ rfl rfl (fun j u hu => by rw [Addr.add_lit]; exact HD.out j u hu) ?_)
      refine (toEntT_any xs[k] HX0.out _).mono ?_
      rintro e w1 ⟨rfl, hx⟩
      have HF2 := Lib.hid (HFl.out.ext hx)
      have HX2 := Lib.hid (HX.out.trans hx)
      clear hx HX HFl HD
      go_wp2_with (refine wpl_fill (n := 2) (m := (xs.length - (k + 1)) * 2) (by rw [← HMU.out]; exact HF2.out) (by rw [HL.out, HTK.out]; rfl) aggEntryI HST.out rfl _ _ rfl rfl rfl rfl ?_; intro row hF; have HF3 := Lib.hid hF; clear hF)
      go_roundw
      case rel => exact ⟨k + 1, by omega, by go_num, by rw [HSN.out]; simpa using HF3.out, HX2.out.setRow (Nat.le_refl _) _⟩
      case measure => simp [intOf]; omega
    · obtain rfl : k = xs.length := by omega
      have hb := HFl.out
      rw [List.take_length, Nat.sub_self, Nat.zero_mul] at hb
      have HB := Lib.hid hb.done
      clear hb
      go_wp2
      go_ret
      exact ⟨_, rfl, Own.of_blk tEnt HB.out (Nat.le_refl _) hlen Hok.out, HX.out⟩

set_option maxHeartbeats 1000000 in
set_option maxRecDepth 100000 in
theorem eqEntT_any (a : En) (ha : tEnt.ok a) (w : World) :
    Calls Try.prog 102 #[.agg (tEnt.enc a).toArray, .agg (tEnt.enc a).toArray] w fun e w' => e = .returned (.bool true) ∧ Ext w w' := by
  have q1 : (a.1.toList != a.1.toList) = false := by simp
  have q2 : (a.2.toList != a.2.toList) = false := by simp
  show Calls Try.prog 102 #[.agg #[.string a.1, .string a.2], .agg #[.string a.1, .string a.2]] w _
  go_enter Try.func102, Try.ntmps102
  go_wp2
  go_ret
  exact ⟨rfl, (ext_alloc _ _).alloc _⟩
set_option maxHeartbeats 1000000 in
set_option maxRecDepth 100000 in
theorem eqEntryS_u (v u : Value) (xs : List En) (w : World) (S S' : Nat → Prop) (h : RdL tEnt w S v xs) (h' : RdL tEnt w S' u xs) :
    Calls Try.prog 77 #[v, u] w fun e w' => e = .returned (.bool true) ∧ Ext w w' := by
  obtain ⟨A, cap, rfl, hcap, hlen, hrd, hok⟩ := h
  obtain ⟨A', cap', rfl, hcap', hlen', hrd', hok'⟩ := h'
  have Hrd := Lib.hid hrd
  have Hrd' := Lib.hid hrd'
  have Hok := Lib.hid hok
  clear hrd hok hrd' hok'
  have hl1 : ((xs.length : Int) != (xs.length : Int)) = false := by simp
  go_enter Try.func77, Try.ntmps77
  go_wp2
  go_loopw [5] (fun i wr => ∃ k : Nat, k ≤ xs.length ∧ i = .int .i64 k ∧ Ext w wr) (fun i _ => xs.length - (intOf i).toNat)
  case atStart => exact ⟨0, by omega, rfl, Ext.refl _⟩
  case round =>
    obtain ⟨k, hk, rfl, hx⟩ := hrel
    have HX := Lib.hid hx
    clear hx hl1
    by_cases hlt : k < xs.length
    · obtain ⟨g, o, rfl, hs, hc⟩ := Hrd.out.elem Hok.out k hlt
      obtain ⟨g2, o2, rfl, hs2, hc2⟩ := Hrd'.out.elem Hok.out k hlt
      have HX0 := Lib.hid (show (tEnt).ok xs[k] from Hok.out _ (List.getElem_mem hlt))
      have HD := Lib.hid (show ∀ j u, ((tEnt).enc xs[k])[j]? = some u → wr.cell? ⟨g, o + k * 2 + j, none⟩ = some u from fun j u hu => HX.out.cell (hc j u hu))
      have HD2 := Lib.hid (show ∀ j u, ((tEnt).enc xs[k])[j]? = some u → wr.cell? ⟨g2, o2 + k * 2 + j, none⟩ = some u from fun j u hu => HX.out.cell (hc2 j u hu))
      clear hc hc2
      have hi : (0 : Int) ≤ (k : Int) := by omega
      have hi2 : (k : Int) < (xs.length : Int) := by omega
      go_wp2_with fail
      refine wp_region_held_drew (S := fun W => Ext wr W) (by kernel_rfl) (Ext.refl _).drew (fun hHeld => ?_)
      refine wpAnyH_take (i := 0) (oi := ?oiq0) (v := ?vq0) ?hiq0 (by kernel_rfl) (by kernel_rfl) (by kernel_rfl) ?hQq0 ?hyq0 (by assumption) ?restq0
      case hiq0 => simp only [List.getElem?_toArray, List.getElem?_cons_zero, List.getElem?_cons_succ]; rfl
      case hQq0 => exact fun _ _ _ h => h
      case hyq0 => exact Or.inl ⟨by rfl, by intro w hSw; go_simp; with_reducible rfl⟩
      try simp only [Act.put, List.setIfInBounds_toArray, List.set_cons_zero, List.set_cons_succ]
      refine wpAnyH_take (i := 1) (oi := ?oiq1) (v := ?vq1) ?hiq1 (by kernel_rfl) (by kernel_rfl) (by kernel_rfl) ?hQq1 ?hyq1 (by assumption) ?restq1
      case hiq1 => simp only [List.getElem?_toArray, List.getElem?_cons_zero, List.getElem?_cons_succ]; rfl
      case hQq1 => exact fun _ _ _ h => h
      case hyq1 => exact Or.inl ⟨by rfl, by intro w hSw; go_simp; with_reducible rfl⟩
      try simp only [Act.put, List.setIfInBounds_toArray, List.set_cons_zero, List.set_cons_succ]
      refine wpAnyH_take (i := 2) (oi := ?oiq2) (v := ?vq2) ?hiq2 (by kernel_rfl) (by kernel_rfl) (by kernel_rfl) ?hQq2 ?hyq2 (by assumption) ?restq2
      case hiq2 => simp only [List.getElem?_toArray, List.getElem?_cons_zero, List.getElem?_cons_succ]; rfl
      case hQq2 => exact fun _ _ _ h => h
      case hyq2 => exact Or.inl ⟨by rfl, by intro w hSw; go_simp; with_reducible rfl⟩
      try simp only [Act.put, List.setIfInBounds_toArray, List.set_cons_zero, List.set_cons_succ]
      refine wpAnyH_take (i := 3) (oi := ?oiq3) (v := (.agg ((tEnt).enc xs[k]).toArray)) ?hiq3 (by kernel_rfl) (by kernel_rfl) (by kernel_rfl) ?hQq3 ?hyq3 (by assumption) ?restq3
      case hiq3 => simp only [List.getElem?_toArray, List.getElem?_cons_zero, List.getElem?_cons_succ]; rfl
      case hQq3 => exact fun _ _ _ h => h
      case hyq3 => refine yields_loadR g (o + k * 2) ((tEnt).enc xs[k]) (by rw [(tEnt).len _ HX0.out]; exact aggEntryI) HD.out ?_ _ rfl rfl; rfl
      try simp only [Act.put, List.setIfInBounds_toArray, List.set_cons_zero, List.set_cons_succ]
      refine wpAnyH_take (i := 4) (oi := ?oiq4) (v := ?vq4) ?hiq4 (by kernel_rfl) (by kernel_rfl) (by kernel_rfl) ?hQq4 ?hyq4 (by assumption) ?restq4
      case hiq4 => simp only [List.getElem?_toArray, List.getElem?_cons_zero, List.getElem?_cons_succ]; rfl
      case hQq4 => exact fun _ _ _ h => h
      case hyq4 => exact Or.inl ⟨by rfl, by intro w hSw; go_simp; with_reducible rfl⟩
      try simp only [Act.put, List.setIfInBounds_toArray, List.set_cons_zero, List.set_cons_succ]
      refine wpAnyH_take (i := 5) (oi := ?oiq5) (v := ?vq5) ?hiq5 (by kernel_rfl) (by kernel_rfl) (by kernel_rfl) ?hQq5 ?hyq5 (by assumption) ?restq5
      case hiq5 => simp only [List.getElem?_toArray, List.getElem?_cons_zero, List.getElem?_cons_succ]; rfl
      case hQq5 => exact fun _ _ _ h => h
      case hyq5 => exact Or.inl ⟨by rfl, by intro w hSw; go_simp; with_reducible rfl⟩
      try simp only [Act.put, List.setIfInBounds_toArray, List.set_cons_zero, List.set_cons_succ]
      refine wpAnyH_take (i := 6) (oi := ?oiq6) (v := ?vq6) ?hiq6 (by kernel_rfl) (by kernel_rfl) (by kernel_rfl) ?hQq6 ?hyq6 (by assumption) ?restq6
      case hiq6 => simp only [List.getElem?_toArray, List.getElem?_cons_zero, List.getElem?_cons_succ]; rfl
      case hQq6 => exact fun _ _ _ h => h
      case hyq6 => exact Or.inl ⟨by rfl, by intro w hSw; go_simp; with_reducible rfl⟩
      try simp only [Act.put, List.setIfInBounds_toArray, List.set_cons_zero, List.set_cons_succ]
      refine wpAnyH_take (i := 7) (oi := ?oiq7) (v := (.agg ((tEnt).enc xs[k]).toArray)) ?hiq7 (by kernel_rfl) (by kernel_rfl) (by kernel_rfl) ?hQq7 ?hyq7 (by assumption) ?restq7
      case hiq7 => simp only [List.getElem?_toArray, List.getElem?_cons_zero, List.getElem?_cons_succ]; rfl
      case hQq7 => exact fun _ _ _ h => h
      case hyq7 => refine yields_loadR g2 (o2 + k * 2) ((tEnt).enc xs[k]) (by rw [(tEnt).len _ HX0.out]; exact aggEntryI) HD2.out ?_ _ rfl rfl; rfl
      try simp only [Act.put, List.setIfInBounds_toArray, List.set_cons_zero, List.set_cons_succ]
      refine wpAnyH_ready (rs := [8]) (by kernel_rfl) (by simp) (AllReadyH.cons (o := ?o8) ?h8 (fun K hK => ?s8) AllReadyH.nil)
      case h8 => simp only [List.getElem?_toArray, List.getElem?_cons_zero, List.getElem?_cons_succ]; rfl
      go_simp
      refine (eqEntT_any xs[k] HX0.out _).mono ?_
      rintro e w1 ⟨rfl, hx⟩
      have hH2 := hHeld.trans hx
      refine hK.out _ _ hH2 (fun _ => ?_)
      clear hHeld hK K
      have hHeld := hH2
      clear hH2 hx
      try simp only [Act.put, List.setIfInBounds_toArray, List.set_cons_zero, List.set_cons_succ]
      refine wpAnyH_take (i := 9) (oi := ?oiq9) (v := ?vq9) ?hiq9 (by kernel_rfl) (by kernel_rfl) (by kernel_rfl) ?hQq9 ?hyq9 (by assumption) ?restq9
      case hiq9 => simp only [List.getElem?_toArray, List.getElem?_cons_zero, List.getElem?_cons_succ]; rfl
      case hQq9 => exact fun _ _ _ h => h
      case hyq9 => exact Or.inl ⟨by rfl, by intro w hSw; go_simp; with_reducible rfl⟩
      try simp only [Act.put, List.setIfInBounds_toArray, List.set_cons_zero, List.set_cons_succ]
      refine wpAnyH_done (by kernel_rfl) ?_ _
      have HX2 := Lib.hid (HX.out.trans hHeld)
      clear hHeld
      go_wp2
      go_roundw
      case rel => exact ⟨k + 1, by omega, by go_num, HX2.out⟩
      case measure => simp [intOf]; omega
    · go_wp2
      go_ret
      exact ⟨rfl, HX.out⟩

/-- how much the entries take -/
@[irreducible] def entsN (l : List En) : Nat := l.length + (l.map fun e => e.1.size + e.2.size).sum
theorem entsN_eq (l : List En) : entsN l = l.length + (l.map fun e => e.1.size + e.2.size).sum := by rw [entsN]
def sumN (l : List En) (k : Nat) : Nat := ((l.take k).map fun e => e.1.size + e.2.size).sum
theorem sumN_zero (l : List En) : sumN l 0 = 0 := by simp [sumN]
theorem sumN_succ (l : List En) (k : Nat) (h : k < l.length) : sumN l (k + 1) = sumN l k + (l[k].1.size + l[k].2.size) := by
  unfold sumN
  rw [List.take_succ_eq_append_getElem h, List.map_append, List.sum_append]; simp
theorem sumN_le (l : List En) (k : Nat) : sumN l k ≤ (l.map fun e => e.1.size + e.2.size).sum := by
  unfold sumN
  conv => rhs; rw [← List.take_append_drop k l, List.map_append, List.sum_append]
  omega
set_option maxHeartbeats 1000000 in
set_option maxRecDepth 100000 in
theorem szEntryS_u (v : Value) (xs : List En) (l : Int) (w : World) (S : Nat → Prop) (h : RdL tEnt w S v xs) (h0 : -1 ≤ l) (h1 : l ≤ 1048576) :
    Calls Try.prog 70 #[v, .int .i64 l] w fun e w' => e = .returned (.int .i64 (if l - (entsN xs : Nat) < 0 then -1 else l - (entsN xs : Nat))) ∧ Ext w w' := by
  rw [entsN_eq]
  obtain ⟨A, cap, rfl, hcap, hlen, hrd, hok⟩ := h
  have Hrd := Lib.hid hrd
  have Hok := Lib.hid hok
  obtain ⟨T, hT⟩ : ∃ T, (xs.map fun e => e.1.size + e.2.size).sum = T := ⟨_, rfl⟩
  have hle := fun k => sumN_le xs k
  rw [hT] at hle ⊢
  have HT := Lib.hid hT
  have HLE := Lib.hid hle
  clear hrd hok hT hle
  by_cases h2 : l - (xs.length : Int) < 0
  · rw [if_pos (by omega)]
    go_enter Try.func70, Try.ntmps70
    go_wp2
    go_ret
    exact ⟨rfl, Ext.refl _⟩
  · obtain ⟨z, hz⟩ : ∃ z : Int, (if l - ((xs.length + T : Nat) : Int) < 0 then -1 else l - ((xs.length + T : Nat) : Int)) = z := ⟨_, rfl⟩
    rw [hz]
    have HZ := Lib.hid hz
    clear hz
    go_enter Try.func70, Try.ntmps70
    go_wp2
    go_loopw [1, 5] (fun q i wr => ∃ k : Nat, k ≤ xs.length ∧ i = .int .i64 k ∧ q = .int .i64 (l - xs.length - (sumN xs k : Nat)) ∧ 0 ≤ l - (xs.length : Int) - (sumN xs k : Nat) ∧ Ext w wr) (fun _ i _ => xs.length - (intOf i).toNat)
    case atStart => exact ⟨0, by omega, rfl, by rw [sumN_zero]; simp, by rw [sumN_zero]; omega, Ext.refl _⟩
    case round =>
      obtain ⟨k, hk, rfl, rfl, hs, hx⟩ := hrel
      have HX := Lib.hid hx
      clear hx
      by_cases hlt : k < xs.length
      · obtain ⟨g, o, rfl, hs0, hc⟩ := Hrd.out.elem Hok.out k hlt
        have HX0 := Lib.hid (show tEnt.ok xs[k] from Hok.out _ (List.getElem_mem hlt))
        have HD0 := Lib.hid (show ∀ j u, (tEnt.enc xs[k])[j]? = some u → wr.cell? ⟨g, o + k * 2 + j, none⟩ = some u from fun j u hu => HX.out.cell (hc j u hu))
        have HSS := Lib.hid (sumN_succ xs k hlt)
        have hq := HLE.out (k + 1)
        rw [HSS.out] at hq
        clear hc
        have hi : (0 : Int) ≤ (k : Int) := by omega
        have hi2 : (k : Int) < (xs.length : Int) := by omega
        have hcz := fun W => szEntry_any xs[k].1 xs[k].2 HX0.out.1 HX0.out.2 (l - xs.length - (sumN xs k : Nat)) (by omega) (by omega) W
        by_cases h3 : l - (xs.length : Int) - (sumN xs k : Nat) - xs[k].1.size - xs[k].2.size < 0
        · simp only [if_pos h3] at hcz
          have HP := Lib.hid (show l - ((xs.length + T : Nat) : Int) < 0 by omega)
          go_wp2_with (refine wpl_load ⟨g, o + k * 2, none⟩ (tEnt.enc xs[k]) aggEntryL rfl _ rfl rfl (fun j u hu => by rw [Addr.add_lit]; exact HD0.out j u hu) ?_)
          refine (hcz _).mono ?_
          rintro e w1 ⟨rfl, hx⟩
          have HX2 := Lib.hid (HX.out.trans hx)
          clear hx
          go_wp2
          go_ret
          exact ⟨by rw [← HZ.out, if_pos HP.out]; rfl, HX2.out⟩
        · simp only [if_neg h3] at hcz
          go_wp2_with (refine wpl_load ⟨g, o + k * 2, none⟩ (tEnt.enc xs[k]) aggEntryL rfl _ rfl rfl (fun j u hu => by rw [Addr.add_lit]; exact HD0.out j u hu) ?_)
          refine (hcz _).mono ?_
          rintro e w1 ⟨rfl, hx⟩
          have HX2 := Lib.hid (HX.out.trans hx)
          clear hx hcz
          go_wp2
          go_roundw
          case rel => exact ⟨k + 1, by omega, by go_num, by rw [HSS.out]; go_num, by rw [HSS.out]; omega, HX2.out⟩
          case measure => simp [intOf]; omega
      · obtain rfl : k = xs.length := by omega
        have e : sumN xs xs.length = T := by rw [sumN, List.take_length]; exact HT.out
        have HE := Lib.hid e
        rw [e] at hs
        clear e
        have HP := Lib.hid (show ¬ l - ((xs.length + T : Nat) : Int) < 0 by omega)
        go_wp2
        go_ret
        exact ⟨by rw [← HZ.out, if_neg (Int.not_lt.2 HP.out), HE.out]; exact ret_int (by omega), HX.out⟩

end Go.Proofs.Ytnklgkmpcochfaa
/- Texts in order; their comparison. No condition. -/
namespace Go.Proofs.Ytnklgkmpcochfaa
open Go.RowKit
set_option linter.unusedVariables false
set_option linter.unusedSimpArgs false

theorem less_irrefl (a : List UInt8) : Op.bytesLess a a = false := by
  induction a with
  | nil => rfl
  | cons x r ih => simp [Op.bytesLess, ih]
theorem less_trans : ∀ (a b c : List UInt8), Op.bytesLess a b = true → Op.bytesLess b c = true → Op.bytesLess a c = true
  | [], [], _, h, _ => by simp [Op.bytesLess] at h
  | _ :: _, [], _, h, _ => by simp [Op.bytesLess] at h
  | _, _ :: _, [], _, h => by simp [Op.bytesLess] at h
  | [], _ :: _, _ :: _, _, _ => by simp [Op.bytesLess]
  | x :: a, y :: b, z :: c, h, k => by
    simp only [Op.bytesLess, Bool.or_eq_true, decide_eq_true_eq, Bool.and_eq_true, beq_iff_eq] at h k ⊢
    rcases h with h | ⟨rfl, h⟩
    · rcases k with k | ⟨rfl, k⟩
      · exact .inl (UInt8.lt_trans h k)
      · exact .inl h
    · rcases k with k | ⟨rfl, k⟩
      · exact .inl k
      · exact .inr ⟨rfl, less_trans a b c h k⟩
theorem less_total : ∀ (a b : List UInt8), Op.bytesLess a b = false → Op.bytesLess b a = false → a = b
  | [], [], _, _ => rfl
  | _ :: _, [], _, h => by simp [Op.bytesLess] at h
  | [], _ :: _, h, _ => by simp [Op.bytesLess] at h
  | x :: a, y :: b, h, k => by
    simp only [Op.bytesLess, Bool.or_eq_false_iff, decide_eq_false_iff_not, Bool.and_eq_false_iff, beq_eq_false_iff_ne] at h k
    have e : x = y := by
      have h1 := h.1
      have k1 := k.1
      exact UInt8.le_antisymm (UInt8.not_lt.1 k1) (UInt8.not_lt.1 h1)
    subst e
    rw [less_total a b (h.2.resolve_left (fun q => q rfl)) (k.2.resolve_left (fun q => q rfl))]
/-- a comes ahead of b -/
@[irreducible] def ltB (a b : ByteArray) : Bool := Op.bytesLess a.toList b.toList
theorem ltB_eq (a b : ByteArray) : Op.bytesLess a.toList b.toList = ltB a b := by rw [ltB]
theorem toList_inj {a b : ByteArray} (h : a.toList = b.toList) : a = b := by
  rw [ByteArray.toList_eq, ByteArray.toList_eq] at h
  exact ByteArray.ext (Array.toList_inj.1 h)
theorem ltB_irrefl (a : ByteArray) : ltB a a = false := by rw [ltB]; exact less_irrefl _
theorem ltB_trans {a b c : ByteArray} (h : ltB a b = true) (k : ltB b c = true) : ltB a c = true := by rw [ltB] at h k ⊢; exact less_trans _ _ _ h k
theorem ltB_total {a b : ByteArray} (h : ltB a b = false) (k : ltB b a = false) : a = b := by rw [ltB] at h k; exact toList_inj (less_total _ _ h k)
theorem ltB_asymm {a b : ByteArray} (h : ltB a b = true) : ltB b a = false := by
  cases k : ltB b a with
  | false => rfl
  | true => have := ltB_trans h k; rw [ltB_irrefl] at this; cases this
theorem ltB_ne {a b : ByteArray} (h : ltB a b = true) : a ≠ b := fun e => by subst e; rw [ltB_irrefl] at h; cases h
/-- the comparison of two texts -/
@[irreducible] def cmpS (a b : ByteArray) : Int := if ltB a b then -1 else if ltB b a then 1 else 0
theorem cmpS_eq (a b : ByteArray) : cmpS a b = if ltB a b then -1 else if ltB b a then 1 else 0 := by rw [cmpS]
theorem cmpS_lt (a b : ByteArray) : cmpS a b < 0 ↔ ltB a b = true := by
  rw [cmpS]
  split
  · simp [*]
  · split <;> simp [*]
theorem cmpS_zero (a b : ByteArray) : cmpS a b = 0 ↔ a = b := by
  rw [cmpS]
  constructor
  · intro h
    split at h
    · cases h
    · rename_i h1
      split at h
      · cases h
      · rename_i h2
        exact ltB_total (by simpa using h1) (by simpa using h2)
  · rintro rfl
    simp [ltB_irrefl]
end Go.Proofs.Ytnklgkmpcochfaa
