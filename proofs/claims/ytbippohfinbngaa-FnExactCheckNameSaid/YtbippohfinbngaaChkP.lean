/- What a path tells about a name, plainly; which nodes are valid: the reference. No condition. -/
import Derived.Test.YtbippohfinbngaaNodS
import Derived.Test.YtbippohfinbngaaNodeAt
import Derived.Test.YtbippohfinbngaaArrEq
namespace Go.Proofs.Ytbippohfinbngaa
open Go.RowKit
set_option linter.unusedVariables false
set_option linter.unusedSimpArgs false

/-- all nodes are valid -/
def okNs (L : List Nd) : Bool := L.all fun x => entB x.n x.v
theorem okNs_bad {L : List Nd} {k : Nat} (hk : k < L.length) (h : entB L[k].n L[k].v = false) : okNs L = false := by
  unfold okNs
  rw [List.all_eq_false]
  exact ⟨L[k], List.getElem_mem hk, by rw [h]; decide⟩
theorem okNs_good {L : List Nd} (h : ∀ p (hp : p < L.length), entB L[p].n L[p].v = true) : okNs L = true := by
  unfold okNs
  rw [List.all_eq_true]
  intro x hx
  obtain ⟨i, hi, rfl⟩ := List.getElem_of_mem hx
  exact h i hi
theorem okNs_at {L : List Nd} (h : okNs L = true) {k : Nat} (hk : k < L.length) : entB L[k].n L[k].v = true := by
  unfold okNs at h
  rw [List.all_eq_true] at h
  exact h _ (List.getElem_mem hk)
attribute [irreducible] okNs
/-- what a path tells: whether the name is there, its value, whether the path is as it should be -/
def ckS (s : ByteArray) (due : List Int) (x : Nd) (last : Bool) (r : Bool × ByteArray × Bool) : Bool × ByteArray × Bool := if hashL 5 (nodeL x) = due then (if x.n = s then (last, x.v, last) else r) else (false, ⟨#[]⟩, false)
def ckF (s : ByteArray) : List Int → List Nd → Bool × ByteArray × Bool
  | due, [] => (false, ⟨#[]⟩, decide (due = emptyL))
  | due, x :: r => ckS s due x r.isEmpty (ckF s (if ltB s x.n then x.l else x.r) r)
theorem ckF_nil (s : ByteArray) (due : List Int) : ckF s due [] = (false, ⟨#[]⟩, decide (due = emptyL)) := rfl
theorem ckF_cons (s : ByteArray) (due : List Int) (x : Nd) (r : List Nd) : ckF s due (x :: r) = ckS s due x r.isEmpty (ckF s (if ltB s x.n then x.l else x.r) r) := rfl
attribute [irreducible] ckF
theorem ckS_bad {s : ByteArray} {due : List Int} {x : Nd} (last : Bool) (r : Bool × ByteArray × Bool) (h : hashL 5 (nodeL x) ≠ due) : ckS s due x last r = (false, ⟨#[]⟩, false) := by rw [ckS, if_neg h]
theorem ckS_hit {s : ByteArray} {due : List Int} {x : Nd} (last : Bool) (r : Bool × ByteArray × Bool) (h : hashL 5 (nodeL x) = due) (h2 : x.n = s) : ckS s due x last r = (last, x.v, last) := by rw [ckS, if_pos h, if_pos h2]
theorem ckS_on {s : ByteArray} {due : List Int} {x : Nd} (last : Bool) (r : Bool × ByteArray × Bool) (h : hashL 5 (nodeL x) = due) (h2 : x.n ≠ s) : ckS s due x last r = r := by rw [ckS, if_pos h, if_neg h2]
/-- what CheckName returns -/
def chkR (root : List Int) (s : ByteArray) (L : List Nd) : Bool × ByteArray × Int :=
  if nameB s && okNs L then (if 64 < L.length then (false, ⟨#[]⟩, 3) else if (ckF s root L).2.2 then ((ckF s root L).1, (ckF s root L).2.1, 0) else (false, ⟨#[]⟩, 8)) else (false, ⟨#[]⟩, 1)
/-- the code of some nodes -/
def givenR (L : List Nd) : Int := if okNs L then (if 64 < L.length then 3 else 0) else 1
theorem Nd.at64' {x : Nd} (h : x.ok) : x.enc.toArray[64]? = some (.string x.n) := Nd.at64 h
set_option maxHeartbeats 1000000 in
set_option maxRecDepth 100000 in
theorem l04Given_any (v : Value) (L : List Nd) (w : World) (S : Nat → Prop) (h : RdL tNd w S v L) :
    Calls Try.prog 95 #[v] w fun e w' => e = .returned (.int .i64 (givenR L)) ∧ Ext w w' := by
  obtain ⟨A, cap, rfl, hcap, hlen, hrd, hok⟩ := h
  have Hrd := Lib.hid hrd
  have Hok := Lib.hid hok
  have HR := Lib.hid (show givenR L = if okNs L then (if 64 < L.length then 3 else 0) else 1 from rfl)
  clear hrd hok
  go_enter Try.func95, Try.ntmps95
  go_wp2
  go_loopw [3] (fun i wr => ∃ k : Nat, k ≤ L.length ∧ i = .int .i64 k ∧ (∀ p (hp : p < L.length), p < k → entB L[p].n L[p].v = true) ∧ Ext w wr) (fun i _ => L.length - (intOf i).toNat)
  case atStart => exact ⟨0, by omega, rfl, fun p hp h => by omega, Ext.refl _⟩
  case round =>
    obtain ⟨k, hk, rfl, hm, hx⟩ := hrel
    have HX := Lib.hid hx
    have HM := Lib.hid hm
    clear hx hm
    by_cases hlt : k < L.length
    · obtain ⟨g, o, rfl, hs0, hc⟩ := Hrd.out.elem Hok.out k hlt
      have hx0 : L[k].ok := Hok.out _ (List.getElem_mem hlt)
      have c0 : wr.cell? ⟨g, o + k * 66 + 64, none⟩ = some (.string L[k].n) := HX.out.cell (hc 64 _ (by have := Nd.at64 hx0; rwa [List.getElem?_toArray] at this))
      have c1 : wr.cell? ⟨g, o + k * 66 + 64 + 1, none⟩ = some (.string L[k].v) := HX.out.cell (hc 65 _ (by have := Nd.at65 hx0; rwa [List.getElem?_toArray] at this))
      have hen := l04Entry_any L[k].n L[k].v hx0.2.2.1 hx0.2.2.2 g (o + k * 66 + 64) wr c0 c1
      have hi : (0 : Int) ≤ (k : Int) := by omega
      have hi2 : (k : Int) < (L.length : Int) := by omega
      clear hc c0 c1 hx0
      cases hb : entB L[k].n L[k].v with
      | true =>
        simp only [hb] at hen
        go_wp2_with fail
        refine hen.mono ?_
        rintro e w' ⟨rfl, rfl⟩
        clear hen
        go_wp2
        go_roundw
        case rel => exact ⟨k + 1, by omega, by go_num, fun p hp h => by
          by_cases e : p = k
          · subst e; exact hb
          · exact HM.out p hp (by omega), HX.out⟩
        case measure => simp [intOf]; omega
      | false =>
        simp only [hb] at hen
        have HQ := Lib.hid (show givenR L = 1 by rw [HR.out, okNs_bad hlt hb]; rfl)
        go_wp2_with fail
        refine hen.mono ?_
        rintro e w' ⟨rfl, rfl⟩
        clear hen
        go_wp2
        go_ret
        exact ⟨by rw [HQ.out]; rfl, HX.out⟩
    · obtain rfl : k = L.length := by omega
      have hg : okNs L = true := okNs_good fun p hp => HM.out p hp hp
      by_cases h64 : 64 < L.length
      · have HQ := Lib.hid (show givenR L = 3 by rw [HR.out, hg, if_pos rfl, if_pos h64])
        have h2 : (64 : Int) < (L.length : Int) := by omega
        go_wp2
        go_ret
        exact ⟨by rw [HQ.out]; rfl, HX.out⟩
      · have HQ := Lib.hid (show givenR L = 0 by rw [HR.out, hg, if_pos rfl, if_neg h64])
        have h2 : ¬ (64 : Int) < (L.length : Int) := by omega
        go_wp2
        go_ret
        exact ⟨by rw [HQ.out]; rfl, HX.out⟩
end Go.Proofs.Ytbippohfinbngaa
