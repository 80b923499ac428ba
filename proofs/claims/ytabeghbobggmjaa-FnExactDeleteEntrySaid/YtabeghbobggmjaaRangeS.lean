/- The entries of a range: the reference. No condition. -/
import Derived.Test.YtabeghbobggmjaaFindE
namespace Go.Proofs.Ytabeghbobggmjaa
open Go.RowKit
set_option linter.unusedVariables false
set_option linter.unusedSimpArgs false

theorem rowEnt : Row Try.prog tEnt 42 73 32 := Row.mk' Try.underlying42 (.agg #[.string ⟨#[]⟩, .string ⟨#[]⟩]) (by kernel_rfl) rfl (by decide) (by decide)
@[irreducible] def inR (lo hi : ByteArray) (e : En) : Bool := !ltB e.1 lo && ltB e.1 hi
theorem inR_eq (lo hi : ByteArray) (e : En) : inR lo hi e = (!ltB e.1 lo && ltB e.1 hi) := by rw [inR]
def rangeR (L : List En) (lo hi : ByteArray) : List En × Int := if okE L then (L.filter (inR lo hi), 0) else ([], 1)
theorem okE_incs' {L : List En} (h : okE L = true) : incs L L.length = true ∧ L.length ≤ 64 := by
  rw [okE_eq] at h
  simpa using h
theorem rd_ent (w : World) (e : En) (t : TypeId) : Rd (w.alloc (.cells #[.string e.1, .string e.2] t)) (fun g => g = w.heap.size) tEnt.sz (some ⟨w.heap.size, 0, none⟩) [e].length ([e].flatMap tEnt.enc) := by
  refine ⟨rfl, fun _ => ⟨_, 0, rfl, rfl, fun j u hu => ?_⟩⟩
  rw [Nat.zero_add, (Blk.new w t _).cell]
  simpa [tEnt] using hu
theorem filter_next (p : En → Bool) (L : List En) (k : Nat) (h : k < L.length) : (L.take (k + 1)).filter p = (L.take k).filter p ++ (if p L[k] then [L[k]] else []) := by
  rw [List.take_succ_eq_append_getElem h, List.filter_append]
  cases hp : p L[k] <;> simp [hp]
set_option maxHeartbeats 1000000 in
set_option maxRecDepth 100000 in
theorem specRangeOfEntries_any (v : Value) (L : List En) (lo hi : ByteArray) (w : World) (S : Nat → Prop) (h : RdL tEnt w S v L) :
    Calls Try.prog 27 #[v, .string lo, .string hi] w fun e w' => ∃ v', e = .returned (.tuple #[v', .int .i64 (rangeR L lo hi).2]) ∧ Own tEnt 73 w' w.heap.size v' (rangeR L lo hi).1 ∧ Ext w w' := by
  have H := Lib.hid h
  have hc := l04Ok_any v L w S h
  obtain ⟨A, cap, rfl, hcap, hlen, hrd, hok⟩ := h
  have Hok := Lib.hid hok
  have Hrd := Lib.hid hrd
  clear hrd hok
  cases hb : okE L with
  | false =>
    simp only [rangeR, hb, Bool.false_eq_true, if_false]
    simp only [hb] at hc
    clear hb
    go_enter Try.func27, Try.ntmps27
    go_wp2_with fail
    refine hc.mono ?_
    rintro e w1 ⟨rfl, hx⟩
    have HX := Lib.hid hx
    clear hx
    go_wp2
    go_ret2
    exact ⟨_, rfl, Own.empty tEnt _ 73 _ HX.out.size, HX.out.alloc _⟩
  | true =>
    obtain ⟨hinc, h64⟩ := okE_incs' hb
    simp only [rangeR, hb, if_true]
    simp only [hb] at hc
    clear hb hinc
    go_enter Try.func27, Try.ntmps27
    go_wp2_with fail
    refine hc.mono ?_
    rintro e w1 ⟨rfl, hx⟩
    have HX := Lib.hid hx
    clear hx
    go_wp2_with fail
    generalize w1 = wz at *
    go_loopw [8, 9] (fun a i wr => ∃ k : Nat, k ≤ L.length ∧ i = .int .i64 k ∧ Own tEnt 73 wr w.heap.size a ((L.take k).filter (inR lo hi)) ∧ Ext w wr) (fun _ i _ => L.length - (intOf i).toNat)
    case atStart => exact ⟨0, by omega, rfl, by rw [List.take_zero]; exact Own.empty tEnt _ 73 _ HX.out.size, HX.out.alloc _⟩
    case round =>
      obtain ⟨k, hk, rfl, ho, hx⟩ := hrel
      obtain ⟨C, cn, cc, rfl⟩ := ho.shape3
      have HO := Lib.hid ho
      have HX1 := Lib.hid hx
      clear ho hx
      by_cases hlt : k < L.length
      · obtain ⟨g, o, rfl, hs0, hc⟩ := Hrd.out.elem Hok.out k hlt
        have HX0 := Lib.hid (show tEnt.ok L[k] from Hok.out _ (List.getElem_mem hlt))
        have HD0 := Lib.hid (show ∀ j u, (tEnt.enc L[k])[j]? = some u → wr.cell? ⟨g, o + k * 2 + j, none⟩ = some u from fun j u hu => HX1.out.cell (hc j u hu))
        have d0 : wr.cell? ⟨g, o + k * 2, none⟩ = some (.string L[k].1) := HD0.out 0 _ rfl
        have HN := Lib.hid (filter_next (inR lo hi) L k hlt)
        have hk0 : (0 : Int) ≤ (k : Int) := by omega
        have hk2 : (k : Int) < (L.length : Int) := by omega
        clear hc
        cases h1 : ltB L[k].1 lo with
        | true =>
          have h1' : Op.bytesLess L[k].1.toList lo.toList = true := by rw [ltB_eq]; exact h1
          have HQ := Lib.hid (show inR lo hi L[k] = false by rw [inR_eq, h1]; rfl)
          clear h1
          go_wp2
          go_roundw
          case rel => exact ⟨k + 1, by omega, by go_num, by rw [HN.out, HQ.out]; simpa using HO.out, HX1.out⟩
          case measure => simp [intOf]; omega
        | false =>
          have h1' : Op.bytesLess L[k].1.toList lo.toList = false := by rw [ltB_eq]; exact h1
          cases h2 : ltB L[k].1 hi with
          | false =>
            have h2' : Op.bytesLess L[k].1.toList hi.toList = false := by rw [ltB_eq]; exact h2
            have HQ := Lib.hid (show inR lo hi L[k] = false by rw [inR_eq, h1, h2]; rfl)
            clear h1 h2
            go_wp2
            go_roundw
            case rel => exact ⟨k + 1, by omega, by go_num, by rw [HN.out, HQ.out]; simpa using HO.out, HX1.out⟩
            case measure => simp [intOf]; omega
          | true =>
            have h2' : Op.bytesLess L[k].1.toList hi.toList = true := by rw [ltB_eq]; exact h2
            have HQ := Lib.hid (show inR lo hi L[k] = true by rw [inR_eq, h1, h2]; rfl)
            have hle := List.length_filter_le (inR lo hi) (L.take k)
            rw [List.length_take] at hle
            have HL := Lib.hid hle
            clear h1 h2 hle
            go_wp2_with (first
              | (refine wpl_load ⟨g, o + k * 2, none⟩ [.string L[k].1, .string L[k].2] aggEntryI rfl _ rfl rfl (fun j u hu => by rw [Addr.add_lit]; exact HD0.out j u hu) ?_)
              | (at_builtin; go_loud (refine wpl_append rowEnt rfl _ _ rfl (v := .slice C cn cc) rfl (HO.out.alloc _) _ _ rfl (A := some ⟨wr.heap.size, 0, none⟩) (ys := [L[k]]) rfl (rd_ent wr L[k] _) (by intro y hy; obtain rfl := List.mem_singleton.1 hy; exact HX0.out) (by have := HL.out; simp only [List.length_singleton]; omega) (HX1.out.alloc _).size ?_); intro v9 w9 ho1 hg1 hat1; obtain ⟨C9, n9, c9, rfl⟩ := ho1.shape3; have HO9 := Lib.hid ho1; have HX9 := Lib.hid ((HO.out.alloc (Obj.cells #[.string L[k].1, .string L[k].2] 73)).ext_app (HX1.out.alloc _) hg1); clear ho1 hg1 hat1))
            go_roundw
            case rel => exact ⟨k + 1, by omega, by go_num, by rw [HN.out, HQ.out]; exact HO9.out, HX9.out⟩
            case measure => simp [intOf]; omega
      · obtain rfl : k = L.length := by omega
        rw [List.take_length] at HO
        go_wp2
        go_ret2
        exact ⟨_, rfl, HO.out, HX1.out⟩
end Go.Proofs.Ytabeghbobggmjaa
