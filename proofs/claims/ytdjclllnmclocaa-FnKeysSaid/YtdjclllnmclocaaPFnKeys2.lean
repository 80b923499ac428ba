/- What the walk of the law FnKeys needs, part 2 of 2. No condition. -/
import Derived.OrdersHeld
import Derived.Deep.RegionHeld
import Derived.Great.BuildSlice
import Derived.Laws.BytesArg
import Derived.Deep.RegionWith
import Derived.Laws.Externs
import Derived.Laws.StructEq
import Derived.BigFrame
import Derived.Test.YtdjclllnmclocaaPFnKeys1
/- Regions that draw their order and end in a few operations L that wait for all others: behind these the region's condition is not asked. No condition. -/
namespace Go.Proofs.Ytdjclllnmclocaa
open Go.RowKit
set_option linter.unusedVariables false
set_option linter.unusedSimpArgs false

section
variable {P : Program} {ops : Array Oper} {Q : Exit → Act → World → Prop} {md : Region.Mode} {S : World → Prop} {f : Nat} {L : List Nat}
/-- j waits for i, directly or by others, so many steps -/
def needB (md : Region.Mode) (ops : Array Oper) : Nat → Nat → Nat → Bool
  | 0, _, _ => false
  | k + 1, i, j => match ops[j]? with
    | none => false
    | some o => o.after.toList.any fun e => Region.binds md e && (e.on == i || needB md ops k i e.on)
/-- whatever has come up, all that it waits for has come up -/
def closedB (md : Region.Mode) (ops : Array Oper) (l : Array Bool) : Bool :=
  (List.range ops.size).all fun j => match ops[j]? with
    | none => true
    | some o => !(l.getD j false) || o.after.toList.all fun e => !(Region.binds md e) || l.getD e.on false
theorem closed_dep {l : Array Bool} (h : closedB md ops l = true) {j : Nat} {o : Oper} (ho : ops[j]? = some o) (hj : l.getD j false = true) : ∀ e ∈ o.after, Region.binds md e = true → l.getD e.on false = true := by
  intro e he hb
  have hlt : j < ops.size := (Array.getElem?_eq_some_iff.1 ho).1
  have h1 := List.all_eq_true.1 h j (List.mem_range.2 hlt)
  rw [ho] at h1
  simp only [hj, Bool.not_true, Bool.false_or, List.all_eq_true] at h1
  have h2 := h1 e (Array.mem_toList_iff.2 he)
  rw [hb] at h2
  simpa using h2
theorem need_listed {l : Array Bool} (h : closedB md ops l = true) : ∀ (k i j : Nat) (o : Oper), ops[j]? = some o → (∀ e ∈ o.after, Region.binds md e = true → l.getD e.on false = true) → needB md ops k i j = true → l.getD i false = true
  | 0, _, _, _, _, _, hn => by cases hn
  | k + 1, i, j, o, ho, hd, hn => by
    rw [needB, ho] at hn
    obtain ⟨e, he0, hbe⟩ := List.any_eq_true.1 hn
    have he := Array.mem_toList_iff.1 he0
    rw [Bool.and_eq_true, Bool.or_eq_true] at hbe
    have hl := hd e he hbe.1
    rcases hbe.2 with h1 | h1
    · rw [beq_iff_eq] at h1
      rw [← h1]
      exact hl
    · cases h3 : ops[e.on]? with
      | none =>
        cases k with
        | zero => cases h1
        | succ k => rw [needB, h3] at h1; cases h1
      | some o' => exact need_listed h k i e.on o' h3 (closed_dep h h3 hl) h1
theorem closed_set {l : Array Bool} (h : closedB md ops l = true) {j : Nat} (hj : j ∈ Region.ready md ops l) : closedB md ops (l.setIfInBounds j true) = true := by
  refine List.all_eq_true.2 fun q hq => ?_
  cases ho : ops[q]? with
  | none => rfl
  | some o =>
    simp only [Bool.or_eq_true, Bool.not_eq_true', List.all_eq_true]
    by_cases e : q = j
    · subst e
      obtain ⟨_, o', ho', hall⟩ := mem_ready.1 hj
      rw [ho] at ho'
      injection ho' with ho'
      subst ho'
      refine .inr fun e he0 => ?_
      have he := Array.mem_toList_iff.1 he0
      cases hb : Region.binds md e
      · exact .inl rfl
      · exact .inr (getD_set_true (hall e he hb))
    · cases hl : (l.setIfInBounds j true).getD q false with
      | false => exact .inl rfl
      | true =>
        rw [getD_set_ne false (Ne.symm e)] at hl
        refine .inr fun e he0 => ?_
        have he := Array.mem_toList_iff.1 he0
        cases hb : Region.binds md e
        · exact .inl rfl
        · exact .inr (getD_set_true (closed_dep h ho hl e he hb))
theorem need_not_ready {l : Array Bool} (h : closedB md ops l = true) {k i : Nat} (hn : needB md ops k i f = true) (hi : i ∈ Region.ready md ops l) : ¬ f ∈ Region.ready md ops l := fun hf => by
  obtain ⟨_, o, ho, hall⟩ := mem_ready.1 hf
  have h1 := need_listed h k i f o ho hall hn
  have h0 := (mem_ready.1 hi).1
  rcases Nat.lt_or_ge i l.size with h' | h'
  · simp [h'] at h0 h1; rw [h0] at h1; cases h1
  · simp [Array.getElem?_eq_none h'] at h1
/-- behind every operation but those of L, the last ones, the condition holds -/
def wpF (P : Program) (md : Region.Mode) (ops : Array Oper) (Q : Exit → Act → World → Prop) (S : World → Prop) (L : List Nat) : Nat → Array Bool → Act → World → Prop
  | 0, l, a, w => Region.ready md ops l = [] ∧ Q .normal a w
  | n + 1, l, a, w => (Region.ready md ops l = [] → Q .normal a w) ∧ ∀ i ∈ Region.ready md ops l, wpOp P ops Q i (fun a' w' => (i ∉ L → S w → S w') ∧ wpF P md ops Q S L n (l.setIfInBounds i true) a' w') a w
theorem wpF_any : ∀ (n : Nat) (l : Array Bool) (a : Act) (w : World), wpF P md ops Q S L n l a w → wpAny P md ops Q n l a w
  | 0, _, _, _, h => h
  | n + 1, l, a, w, h => ⟨h.1, fun i hi => wpOp_mono (fun a' w' k => wpF_any n _ a' w' k.2) (h.2 i hi)⟩
theorem not_on {l : Array Bool} {i j : Nat} {oj : Oper} (hr : i ∈ Region.ready md ops l) (hall : ∀ e ∈ oj.after, Region.binds md e = true → l.getD e.on false = true) : ∀ e ∈ oj.after, Region.binds md e = true → e.on ≠ i := fun e he hb heq => by
  have h1 := hall e he hb
  have h0 := (mem_ready.1 hr).1
  rw [heq] at h1
  rcases Nat.lt_or_ge i l.size with h' | h'
  · simp [h'] at h0 h1; rw [h0] at h1; cases h1
  · simp [Array.getElem?_eq_none h'] at h1
theorem wpF_first {i k : Nat} {oi : Oper} {v : Value} (hi : ops[i]? = some oi) (hsel : ∀ (j : Nat) (o : Oper) cs b, ops[j]? = some o → o.op ≠ .select cs b) (hQ : ∀ c a w, Q (.panic c) (a.put oi.dst v) w → Q (.panic c) a w) (hif : ∀ f ∈ L, needB md ops k i f = true) :
    ∀ (n : Nat) (l : Array Bool) (a : Act) (w : World), closedB md ops l = true → (∀ j oj, ops[j]? = some oj → j ≠ i → l.getD j true = false → (∀ e ∈ oj.after, Region.binds md e = true → e.on ≠ i) → oi.apart ops oj = true) → i ∈ Region.ready md ops l → YieldsIf P ops S oi v a → S w →
      wpF P md ops Q S L n (l.setIfInBounds i true) (a.put oi.dst v) w → wpF P md ops Q S L (n + 1) l a w := by
  intro n
  induction n with
  | zero =>
    intro l a w hcl _ hr hy hS H
    refine ⟨fun h => (by rw [h] at hr; cases hr), fun j hj => ?_⟩
    by_cases e : j = i
    · subst e; exact hy.wpOp hi hS ⟨fun _ h => h, H⟩
    · have := ready_mono hj e
      rw [H.1] at this
      cases this
  | succ n ih =>
    intro l a w hcl hfree hr hy hS H
    refine ⟨fun h => (by rw [h] at hr; cases hr), fun j hj => ?_⟩
    by_cases e : j = i
    · subst e; exact hy.wpOp hi hS ⟨fun _ h => h, H⟩
    · have hjf : j ∉ L := fun h => need_not_ready hcl (hif j h) hr hj
      have h1 := H.2 j (ready_mono hj e)
      obtain ⟨hjun, oj, hoj, hall⟩ := mem_ready.1 hj
      have hnot := not_on (i := i) (oj := oj) (j := j) hr hall
      have h2 := wpOp_putIf hoj (hfree j oj hoj e hjun hnot) (fun cs b => hsel i oi cs b hi) (fun cs b => hsel j oj cs b hoj) hQ hy h1
      have hfree' : ∀ k ok, ops[k]? = some ok → k ≠ i → (l.setIfInBounds j true).getD k true = false → (∀ e ∈ ok.after, Region.binds md e = true → e.on ≠ i) → oi.apart ops ok = true := fun k ok hk hki hun hno => by
        refine hfree k ok hk hki ?_ hno
        by_cases hjk : j = k
        · subst hjk; exact hjun
        · rw [getD_set_ne true hjk] at hun; exact hun
      refine wpOp_mono (fun a' w' h3 => ⟨fun _ _ => h3.2.1 hjf hS, ih (l.setIfInBounds j true) a' w' (closed_set hcl hj) hfree' (ready_mono hr (Ne.symm e)) h3.1 (h3.2.1 hjf hS) ?_⟩) h2
      rw [Array.setIfInBounds_comm _ _ e]
      exact h3.2.2
/-- operation i is taken first -/
theorem wpF_take {i : Nat} {oi : Oper} {v : Value} {n : Nat} {l : Array Bool} {a : Act} {w : World} (hi : ops[i]? = some oi) (hs : Region.noSelect ops = true) (hf : Region.free md ops l i = true) (hr : (Region.ready md ops l).contains i = true) (hc : (L.all (fun f => needB md ops ops.size i f) && closedB md ops l) = true)
    (hQ : ∀ c a w, Q (.panic c) (a.put oi.dst v) w → Q (.panic c) a w) (hy : YieldsIf P ops S oi v a) (hS : S w) (h : wpF P md ops Q S L n (l.setIfInBounds i true) (a.put oi.dst v) w) : wpF P md ops Q S L (n + 1) l a w := by
  rw [Bool.and_eq_true] at hc
  exact wpF_first hi (Region.noSelect_spec hs) hQ (List.all_eq_true.1 hc.1) n l a w hc.2 (Region.free_spec hi hf) (by simpa using hr) hy hS h
def AllF (P : Program) (md : Region.Mode) (ops : Array Oper) (Q : Exit → Act → World → Prop) (S : World → Prop) (L : List Nat) (n : Nat) (l : Array Bool) (a : Act) (w : World) (rs : List Nat) : Prop :=
  ∀ i ∈ rs, wpOp P ops Q i (fun a' w' => (i ∉ L → S w → S w') ∧ wpF P md ops Q S L n (l.setIfInBounds i true) a' w') a w
theorem AllF.nil {n : Nat} {l : Array Bool} {a : Act} {w : World} : AllF P md ops Q S L n l a w [] := fun _ h => by cases h
theorem AllF.cons {n : Nat} {l : Array Bool} {a : Act} {w : World} {i : Nat} {o : Oper} {rs : List Nat} (ho : ops[i]? = some o)
    (h : ∀ K' : Act → World → Prop, Shut (∀ a' w', (i ∉ L → S w → S w') → wpF P md ops Q S L n (l.setIfInBounds i true) a' w' → K' a' w') → if Region.wanted o (yielded ops a.tmps) = true then Oper.wp P o a w K' Q else K' (a.put o.dst undef) w)
    (hs : AllF P md ops Q S L n l a w rs) : AllF P md ops Q S L n l a w (i :: rs) := fun j hj => by
  rcases List.mem_cons.1 hj with rfl | hj
  · exact wpOp_step ho (fun K' hK => h K' (fun a' w' hS hW => hK a' w' ⟨hS, hW⟩))
  · exact hs j hj
theorem wpF_ready {rs : List Nat} {n : Nat} {l : Array Bool} {a : Act} {w : World} (hr : Region.ready md ops l = rs) (hne : rs ≠ []) (h : AllF P md ops Q S L n l a w rs) : wpF P md ops Q S L (n + 1) l a w := ⟨fun h0 => absurd (hr ▸ h0) hne, hr ▸ h⟩
theorem wpF_done {l : Array Bool} {a : Act} {w : World} (hr : Region.ready md ops l = []) (h : Q .normal a w) : ∀ n, wpF P md ops Q S L n l a w
  | 0 => ⟨hr, h⟩
  | _ + 1 => ⟨fun _ => h, by rw [hr]; simp⟩
/-- the beginning -/
theorem wp_region_f (L : List Nat) {id : Nat} {a : Act} {w : World} (hm : P.follows .mixedOrders = true) (hS : S w.drew) (h : S w.drew → wpF P .any ops Q S L ops.size (Array.replicate ops.size false) a w.drew) : (Code.region id ops true).wp P Q a w :=
  wp_region_any hm (wpF_any _ _ _ _ (h hS))
end
/-- a slice literal of one element, a struct or an array: one step of a region -/
theorem run_one {α : Type} {P : Program} {T : Ty α} {t e : TypeId} {bytes : Nat} (R : Row P T t e bytes) (hb : T.sz ≤ 16777216) (x : α) (hx : T.ok x) (w : World) :
    (Instr.buildSlice t 1 #[(0, .agg (T.enc x).toArray)]).run P w = .ok (.slice (some ⟨w.heap.size, 0, none⟩) 1 1) (w.alloc (.cells (T.enc x).toArray e)) := by
  obtain ⟨i, z, hi, hz, hs, hby, hzs⟩ := R.info
  have hp := R.sz
  refine run_buildSlice w t e 1 _ _ i z R.ht hi hz (by rw [hs]; omega) (by rw [hs]; omega) ?_
  have h := Great.fill_whole (s := i.size) (by rw [hs]; exact hp) [.agg (T.enc x).toArray] ((Array.range (1 * i.size)).map (z.cells[· % z.cells.size]!)) (fun v hv => by rw [List.mem_singleton.1 hv]; simp [Value.cells, T.len x hx, hs]) (by simp)
  simpa [Value.cells] using h
theorem wpl_one {α : Type} {P : Program} {T : Ty α} {t e : TypeId} {bytes : Nat} (R : Row P T t e bytes) (hb : T.sz ≤ 16777216) (x : α) (hx : T.ok x) {ops : Array Oper} {rest : List Oper} {o : Oper} {a : Act} {w : World} {Q : Exit → Act → World → Prop} (hgd : o.guard = none) (y : Operand)
    (ho : o.op = .buildSlice t 1 #[(0, y)]) (hy : a.eval y = .agg (T.enc x).toArray) (h : wpList P ops Q rest (a.put o.dst (.slice (some ⟨w.heap.size, 0, none⟩) 1 1)) (w.alloc (.cells (T.enc x).toArray e))) : wpList P ops Q (o :: rest) a w := by
  refine wpList_plain hgd fun K hK => ?_
  have hrun := run_one R hb x hx w
  unfold Oper.wp execOp
  simp only [ho, Sem.run_bind, List.map_toArray, List.map_cons, List.map_nil, hy, hrun, Result.andThen_ok]
  exact hK _ _ h
end Go.Proofs.Ytdjclllnmclocaa
/- The length of a number in bits. No condition. -/
namespace Go.Proofs.Ytdjclllnmclocaa
open Go.RowKit
set_option linter.unusedVariables false
set_option linter.unusedSimpArgs false

def lenT (x : Nat) : Nat := if x = 0 then 0 else Nat.log2 x + 1
theorem bytes_getD (T : ByteArray) (x : Nat) (h : x < T.size) : T[x]'h = T.data.toList.getD x 0 := by
  rw [List.getD_eq_getElem?_getD, Array.getElem?_toList, Array.getElem?_eq_getElem (show x < T.data.size from h)]
  rfl
end Go.Proofs.Ytdjclllnmclocaa
/- Keys: their exclusive-or, the bits that they share, their texts. Plain. No condition. -/
namespace Go.Proofs.Ytdjclllnmclocaa
open Go.RowKit
set_option linter.unusedVariables false
set_option linter.unusedSimpArgs false

theorem cmpL_vals : ∀ (a b : List Int), cmpL a b = -1 ∨ cmpL a b = 0 ∨ cmpL a b = 1
  | [], b => by rw [cmpL7_nil]; exact .inr (.inl rfl)
  | x :: a, [] => by rw [cmpL7_nil']; exact .inr (.inl rfl)
  | x :: a, y :: b => by
    rw [cmpL7_cons]
    split
    · exact cmpL_vals a b
    · split
      · exact .inl rfl
      · exact .inr (.inr rfl)
@[irreducible] def xB (x y : Int) : Int := bits .xor .u8 x y
theorem xB_eq (x y : Int) : bits .xor .u8 x y = xB x y := by rw [xB]
theorem u8_inP (x : Int) (h0 : 0 ≤ x) (h1 : x ≤ 255) : IntKind.u8.wrap x = x := by simp [IntKind.wrap, IntKind.bits, IntKind.signed]; omega
theorem xB_nat (a b : Nat) (ha : a < 256) (hb : b < 256) : xB (a : Int) (b : Int) = ((a ^^^ b : Nat) : Int) := by
  have hx : a ^^^ b < 2 ^ 8 := Nat.xor_lt_two_pow (by omega) (by omega)
  have h4 : (BitVec.ofInt 8 (a : Int)).toNat = a := by
    rw [BitVec.ofInt_natCast, BitVec.toNat_ofNat]; exact Nat.mod_eq_of_lt (by omega)
  have h5 : (BitVec.ofInt 8 (b : Int)).toNat = b := by
    rw [BitVec.ofInt_natCast, BitVec.toNat_ofNat]; exact Nat.mod_eq_of_lt (by omega)
  rw [xB]
  show IntKind.u8.wrap ((BitVec.ofInt 8 (a : Int) ^^^ BitVec.ofInt 8 (b : Int)).toNat : Int) = _
  rw [BitVec.toNat_xor, h4, h5]
  exact u8_inP _ (by omega) (by omega)
theorem byteN {x : Int} (h : 0 ≤ x ∧ x ≤ 255) : ∃ a : Nat, x = a ∧ a < 256 := ⟨x.toNat, by omega, by omega⟩
theorem xB_ok {x y : Int} (hx : 0 ≤ x ∧ x ≤ 255) (hy : 0 ≤ y ∧ y ≤ 255) : 0 ≤ xB x y ∧ xB x y ≤ 255 := by
  obtain ⟨a, rfl, ha⟩ := byteN hx
  obtain ⟨b, rfl, hb⟩ := byteN hy
  have h : a ^^^ b < 2 ^ 8 := Nat.xor_lt_two_pow (by omega) (by omega)
  rw [xB_nat a b ha hb]
  omega
theorem xB_inv {x y : Int} (hx : 0 ≤ x ∧ x ≤ 255) (hy : 0 ≤ y ∧ y ≤ 255) : xB (xB x y) y = x := by
  obtain ⟨a, rfl, ha⟩ := byteN hx
  obtain ⟨b, rfl, hb⟩ := byteN hy
  have h : a ^^^ b < 2 ^ 8 := Nat.xor_lt_two_pow (by omega) (by omega)
  rw [xB_nat a b ha hb, xB_nat _ b (by omega) hb, Nat.xor_assoc, Nat.xor_self, Nat.xor_zero]
theorem xB_comm {x y : Int} (hx : 0 ≤ x ∧ x ≤ 255) (hy : 0 ≤ y ∧ y ≤ 255) : xB x y = xB y x := by
  obtain ⟨a, rfl, ha⟩ := byteN hx
  obtain ⟨b, rfl, hb⟩ := byteN hy
  rw [xB_nat a b ha hb, xB_nat b a hb ha, Nat.xor_comm]
theorem xB_self {x : Int} (hx : 0 ≤ x ∧ x ≤ 255) : xB x x = 0 := by
  obtain ⟨a, rfl, ha⟩ := byteN hx
  rw [xB_nat a a ha ha, Nat.xor_self]
  rfl
theorem xB_zero {x y : Int} (hx : 0 ≤ x ∧ x ≤ 255) (hy : 0 ≤ y ∧ y ≤ 255) : xB x y = 0 ↔ x = y := by
  constructor
  · intro h
    have h1 := xB_inv hx hy
    rw [h] at h1
    obtain ⟨b, rfl, hb⟩ := byteN hy
    rw [show (0 : Int) = ((0 : Nat) : Int) from rfl, xB_nat 0 b (by omega) hb, Nat.zero_xor] at h1
    exact h1.symm
  · rintro rfl
    exact xB_self hx
/-- bit k of a byte, the highest one first -/
def bitN (x : Int) (k : Nat) : Int := x / 2 ^ (7 - k) % 2
theorem bitN_nat (a k : Nat) : bitN (a : Int) k = ((a.testBit (7 - k)).toNat : Nat) := by
  unfold bitN
  rw [Nat.toNat_testBit]
  norm_cast
theorem bitN_xor {x y : Int} (hx : 0 ≤ x ∧ x ≤ 255) (hy : 0 ≤ y ∧ y ≤ 255) (k : Nat) : bitN x k = bitN y k ↔ bitN (xB x y) k = 0 := by
  obtain ⟨a, rfl, ha⟩ := byteN hx
  obtain ⟨b, rfl, hb⟩ := byteN hy
  rw [xB_nat a b ha hb, bitN_nat, bitN_nat, bitN_nat, Nat.testBit_xor]
  cases a.testBit (7 - k) <;> cases b.testBit (7 - k) <;> decide
/-- the number of zeros ahead of a byte's first one -/
def lzB (z : Int) : Nat := 8 - lenT z.toNat
theorem lzB_bits {z : Int} (hz : 0 ≤ z ∧ z ≤ 255) : (∀ k, k < lzB z → bitN z k = 0) ∧ (z ≠ 0 → lzB z < 8 ∧ bitN z (lzB z) = 1) := by
  obtain ⟨a, rfl, ha⟩ := byteN hz
  have key : ∀ a : Fin 256, (∀ k : Fin 8, k.1 < lzB (a.1 : Nat) → bitN (a.1 : Nat) k.1 = 0) ∧ (((a.1 : Nat) : Int) ≠ 0 → lzB (a.1 : Nat) < 8 ∧ bitN (a.1 : Nat) (lzB (a.1 : Nat)) = 1) := by decide +kernel
  obtain ⟨h1, h2⟩ := key ⟨a, ha⟩
  refine ⟨fun k hk => ?_, h2⟩
  have hk8 : k < 8 := by unfold lzB at hk; omega
  exact h1 ⟨k, hk8⟩ hk
/-- the number of zeros ahead of the first one of a row of bytes -/
def cbN : List Int → Nat
  | [] => 0
  | z :: r => if z = 0 then 8 + cbN r else lzB z
theorem gI_cons (z : Int) (r : List Int) (i : Nat) : gI (z :: r) (i + 1) = gI r i := by simp [gI]
theorem gI_head (z : Int) (r : List Int) : gI (z :: r) 0 = z := rfl
theorem cbN_le : ∀ x : List Int, cbN x ≤ 8 * x.length
  | [] => by simp [cbN]
  | z :: r => by
    have := cbN_le r
    have h2 : lzB z ≤ 8 := by unfold lzB; omega
    rw [cbN, List.length_cons]
    split <;> omega
theorem cbN_at : ∀ (x : List Int) (i : Nat), i < x.length → (∀ j, j < i → gI x j = 0) → gI x i ≠ 0 → cbN x = 8 * i + lzB (gI x i)
  | [], i, h, _, _ => by simp at h
  | z :: r, 0, _, _, h => by
    rw [gI_head] at h ⊢
    rw [cbN, if_neg h]
    omega
  | z :: r, i + 1, h, h0, h1 => by
    rw [gI_cons] at h1 ⊢
    have hz : z = 0 := h0 0 (by omega)
    rw [cbN, if_pos hz, cbN_at r i (by simpa using h) (fun j hj => by have := h0 (j + 1) (by omega); rwa [gI_cons] at this) h1]
    omega
theorem cbN_zero : ∀ (x : List Int), (∀ j, j < x.length → gI x j = 0) → cbN x = 8 * x.length
  | [], _ => rfl
  | z :: r, h => by
    rw [cbN, if_pos (show z = 0 from h 0 (by simp)), cbN_zero r (fun j hj => by have := h (j + 1) (by simpa using hj); rwa [gI_cons] at this), List.length_cons]
    omega
theorem cbN_full : ∀ (x : List Int), B8 x → cbN x = 8 * x.length → ∀ z ∈ x, z = 0
  | [], _, _ => by simp
  | z :: r, hb, h => by
    have hz := hb z (by simp)
    have hle := cbN_le r
    rw [cbN, List.length_cons] at h
    by_cases h0 : z = 0
    · rw [if_pos h0] at h
      have ih := cbN_full r (fun y hy => hb y (by simp [hy])) (by omega)
      intro y hy
      rcases List.mem_cons.1 hy with rfl | hy
      · exact h0
      · exact ih y hy
    · rw [if_neg h0] at h
      have := ((lzB_bits hz).2 h0).1
      omega
@[irreducible] def xorL (a b : List Int) : List Int := List.zipWith xB a b
theorem xorL_nil (b : List Int) : xorL [] b = [] := by simp [xorL]
theorem xorL_cons (x y : Int) (a b : List Int) : xorL (x :: a) (y :: b) = xB x y :: xorL a b := by simp [xorL]
theorem xorL_length {a b : List Int} (h : a.length = b.length) : (xorL a b).length = a.length := by simp [xorL, h]
theorem xorL_at {a b : List Int} (h : a.length = b.length) (i : Nat) (hi : i < a.length) : gI (xorL a b) i = xB (gI a i) (gI b i) := by
  rw [gI_lt (by rw [xorL_length h]; exact hi), gI_lt hi, gI_lt (h ▸ hi)]
  simp [xorL]
theorem xorL_ok {a b : List Int} (ha : K32 a) (hb : K32 b) : K32 (xorL a b) := by
  have h : a.length = b.length := by rw [ha.1, hb.1]
  refine ⟨by rw [xorL_length h, ha.1], fun z hz => ?_⟩
  obtain ⟨i, hi, rfl⟩ := List.getElem_of_mem hz
  have hi2 := hi
  rw [xorL_length h] at hi2
  rw [← gI_lt hi, xorL_at h i hi2]
  exact xB_ok (ha.2.get i) (hb.2.get i)
theorem gI_ext {a b : List Int} (h : a.length = b.length) (hh : ∀ i, i < a.length → gI a i = gI b i) : a = b :=
  List.ext_getElem h fun i h1 h2 => by have := hh i h1; rwa [gI_lt h1, gI_lt h2] at this
theorem xorL_inv {a b : List Int} (ha : K32 a) (hb : K32 b) : xorL (xorL a b) b = a := by
  have h : a.length = b.length := by rw [ha.1, hb.1]
  have h2 : (xorL a b).length = b.length := by rw [xorL_length h, h]
  refine gI_ext (by rw [xorL_length h2, xorL_length h]) fun i hi => ?_
  rw [xorL_length h2, xorL_length h] at hi
  rw [xorL_at h2 i (by rw [xorL_length h]; exact hi), xorL_at h i hi, xB_inv (ha.2.get i) (hb.2.get i)]
theorem xorL_comm {a b : List Int} (ha : K32 a) (hb : K32 b) : xorL a b = xorL b a := by
  have h : a.length = b.length := by rw [ha.1, hb.1]
  refine gI_ext (by rw [xorL_length h, xorL_length h.symm, h]) fun i hi => ?_
  rw [xorL_length h] at hi
  rw [xorL_at h i hi, xorL_at h.symm i (h ▸ hi), xB_comm (ha.2.get i) (hb.2.get i)]
/-- the number of bits that two keys share -/
@[irreducible] def cbL (a b : List Int) : Nat := cbN (xorL a b)
theorem cbL_eq (a b : List Int) : cbL a b = cbN (xorL a b) := by rw [cbL]
theorem cbL_le {a b : List Int} (ha : K32 a) (hb : K32 b) : cbL a b ≤ 256 := by
  have := cbN_le (xorL a b)
  rw [(xorL_ok ha hb).1] at this
  rw [cbL_eq]
  omega
theorem cbL_comm {a b : List Int} (ha : K32 a) (hb : K32 b) : cbL a b = cbL b a := by rw [cbL_eq, cbL_eq, xorL_comm ha hb]
theorem cbL_full {a b : List Int} (ha : K32 a) (hb : K32 b) : cbL a b = 256 ↔ a = b := by
  have h : a.length = b.length := by rw [ha.1, hb.1]
  have hk := xorL_ok ha hb
  rw [cbL_eq]
  constructor
  · intro e
    have := cbN_full _ hk.2 (by rw [hk.1]; exact e)
    refine gI_ext h fun i hi => ?_
    have h1 : gI (xorL a b) i = 0 := by
      rw [gI_lt (by rw [xorL_length h]; exact hi)]
      exact this _ (List.getElem_mem _)
    rw [xorL_at h i hi] at h1
    exact (xB_zero (ha.2.get i) (hb.2.get i)).1 h1
  · rintro rfl
    rw [cbN_zero, hk.1]
    intro j hj
    rw [xorL_length h] at hj
    rw [xorL_at h j hj]
    exact xB_self (ha.2.get j)
theorem cbN_same : ∀ (a b : List Int), a.length = b.length → B8 a → B8 b → ∀ k, k < cbN (xorL a b) → bitN (gI a (k / 8)) (k % 8) = bitN (gI b (k / 8)) (k % 8)
  | [], _, _, _, _, k, h => by rw [xorL_nil] at h; simp [cbN] at h
  | x :: a, [], h, _, _, _, _ => by simp at h
  | x :: a, y :: b, hl, ha, hb, k, h => by
    have hx := ha x (by simp)
    have hy := hb y (by simp)
    rw [xorL_cons, cbN] at h
    by_cases hz : xB x y = 0
    · rw [if_pos hz] at h
      by_cases hk : k < 8
      · rw [show k / 8 = 0 by omega, gI_head, gI_head, (xB_zero hx hy).1 hz]
      · obtain ⟨q, rfl⟩ : ∃ q, k = q + 8 := ⟨k - 8, by omega⟩
        rw [show (q + 8) / 8 = q / 8 + 1 by omega, gI_cons, gI_cons, show (q + 8) % 8 = q % 8 by omega]
        exact cbN_same a b (by simpa using hl) (fun z hz => ha z (by simp [hz])) (fun z hz => hb z (by simp [hz])) q (by omega)
    · rw [if_neg hz] at h
      have h2 : lzB (xB x y) ≤ 8 := by unfold lzB; omega
      rw [show k / 8 = 0 by omega, gI_head, gI_head, show k % 8 = k by omega, bitN_xor hx hy]
      exact (lzB_bits (xB_ok hx hy)).1 k h
theorem cbN_diff : ∀ (a b : List Int), a.length = b.length → B8 a → B8 b → cbN (xorL a b) < 8 * a.length → bitN (gI a (cbN (xorL a b) / 8)) (cbN (xorL a b) % 8) ≠ bitN (gI b (cbN (xorL a b) / 8)) (cbN (xorL a b) % 8)
  | [], _, _, _, _, h => by simp at h
  | x :: a, [], h, _, _, _ => by simp at h
  | x :: a, y :: b, hl, ha, hb, h => by
    have hx := ha x (by simp)
    have hy := hb y (by simp)
    rw [xorL_cons, cbN] at h ⊢
    by_cases hz : xB x y = 0
    · rw [if_pos hz] at h ⊢
      rw [show (8 + cbN (xorL a b)) / 8 = cbN (xorL a b) / 8 + 1 by omega, gI_cons, gI_cons, show (8 + cbN (xorL a b)) % 8 = cbN (xorL a b) % 8 by omega]
      exact cbN_diff a b (by simpa using hl) (fun z hz => ha z (by simp [hz])) (fun z hz => hb z (by simp [hz])) (by rw [List.length_cons] at h; omega)
    · rw [if_neg hz] at h ⊢
      obtain ⟨h1, h2⟩ := (lzB_bits (xB_ok hx hy)).2 hz
      rw [show lzB (xB x y) / 8 = 0 by omega, gI_head, gI_head, show lzB (xB x y) % 8 = lzB (xB x y) by omega]
      intro e
      rw [bitN_xor hx hy, h2] at e
      cases e
theorem cbL_same {a b : List Int} (ha : K32 a) (hb : K32 b) (k : Nat) (hk : k < cbL a b) : bitN (gI a (k / 8)) (k % 8) = bitN (gI b (k / 8)) (k % 8) := by
  rw [cbL_eq] at hk
  exact cbN_same a b (by rw [ha.1, hb.1]) ha.2 hb.2 k hk
theorem cbL_diff {a b : List Int} (ha : K32 a) (hb : K32 b) (h : cbL a b < 256) : bitN (gI a (cbL a b / 8)) (cbL a b % 8) ≠ bitN (gI b (cbL a b / 8)) (cbL a b % 8) := by
  rw [cbL_eq] at h ⊢
  exact cbN_diff a b (by rw [ha.1, hb.1]) ha.2 hb.2 (by rw [ha.1]; omega)
/-! texts -/
def hexD (n : Int) : Int := if n < 10 then 48 + n else 87 + n
theorem hexD_ok {n : Int} (h : 0 ≤ n ∧ n ≤ 15) : 48 ≤ hexD n ∧ hexD n ≤ 102 := by unfold hexD; split <;> omega
@[irreducible] def textK (k : List Int) : List Int := k.flatMap fun b => [hexD (b / 16), hexD (b % 16)]
theorem textK_nil : textK [] = [] := by simp [textK]
theorem textK_cons (b : Int) (k : List Int) : textK (b :: k) = hexD (b / 16) :: hexD (b % 16) :: textK k := by simp [textK]
theorem textK_snoc (k : List Int) (b : Int) : textK (k ++ [b]) = textK k ++ [hexD (b / 16), hexD (b % 16)] := by simp [textK]
theorem textK_length : ∀ k : List Int, (textK k).length = 2 * k.length
  | [] => by rw [textK_nil]; rfl
  | b :: k => by rw [textK_cons, List.length_cons, List.length_cons, textK_length k, List.length_cons]; omega
theorem textK_dig {k : List Int} (h : B8 k) : ∀ c ∈ textK k, ∃ n, 0 ≤ n ∧ n ≤ 15 ∧ c = hexD n := by
  induction k with
  | nil => rw [textK_nil]; simp
  | cons b k ih =>
    have hb := h b (by simp)
    rw [textK_cons]
    intro c hc
    rcases List.mem_cons.1 hc with rfl | hc
    · exact ⟨_, by omega, by omega, rfl⟩
    · rcases List.mem_cons.1 hc with rfl | hc
      · exact ⟨_, by omega, by omega, rfl⟩
      · exact ih (fun z hz => h z (by simp [hz])) c hc
theorem textK_ok {k : List Int} (h : B8 k) : B8 (textK k) := fun c hc => by
  obtain ⟨n, h0, h1, rfl⟩ := textK_dig h c hc
  have := hexD_ok ⟨h0, h1⟩
  omega
theorem textK_at : ∀ (k : List Int) (i : Nat), i < k.length → gI (textK k) (2 * i) = hexD (gI k i / 16) ∧ gI (textK k) (2 * i + 1) = hexD (gI k i % 16)
  | [], i, h => by simp at h
  | b :: k, 0, _ => by rw [textK_cons]; exact ⟨rfl, rfl⟩
  | b :: k, i + 1, h => by
    rw [textK_cons, show 2 * (i + 1) = 2 * i + 1 + 1 by omega, gI_cons, gI_cons, gI_cons, gI_cons, gI_cons]
    exact textK_at k i (by simpa using h)
theorem cmpL_text : ∀ (a b : List Int), a.length = b.length → B8 a → B8 b → cmpL (textK a) (textK b) = cmpL a b
  | [], [], _, _, _ => by rw [textK_nil]
  | [], _ :: _, h, _, _ => by simp at h
  | _ :: _, [], h, _, _ => by simp at h
  | x :: a, y :: b, hl, ha, hb => by
    have hx := ha x (by simp)
    have hy := hb y (by simp)
    have ih := cmpL_text a b (by simpa using hl) (fun z hz => ha z (by simp [hz])) (fun z hz => hb z (by simp [hz]))
    rw [textK_cons, textK_cons, cmpL7_cons, cmpL7_cons, cmpL7_cons, ih]
    have hi : ∀ n m : Int, 0 ≤ n → n ≤ 15 → 0 ≤ m → m ≤ 15 → (hexD n = hexD m ↔ n = m) ∧ (hexD n < hexD m ↔ n < m) := by
      intro n m h1 h2 h3 h4
      unfold hexD
      refine ⟨?_, ?_⟩ <;> (split <;> split <;> omega)
    obtain ⟨e1, l1⟩ := hi (x / 16) (y / 16) (by omega) (by omega) (by omega) (by omega)
    obtain ⟨e2, l2⟩ := hi (x % 16) (y % 16) (by omega) (by omega) (by omega) (by omega)
    simp only [e1, l1, e2, l2]
    by_cases h : x = y
    · subst h; simp
    · rw [if_neg h]
      by_cases h16 : x / 16 = y / 16
      · rw [if_pos h16, if_neg (by omega)]
        by_cases hlt : x < y
        · rw [if_pos hlt, if_pos (by omega)]
        · rw [if_neg hlt, if_neg (by omega)]
      · rw [if_neg h16]
        by_cases hlt : x < y
        · rw [if_pos hlt, if_pos (by omega)]
        · rw [if_neg hlt, if_neg (by omega)]
theorem less_cmp : ∀ (a b : List Int), a.length = b.length → B8 a → B8 b → Op.bytesLess (strOfNums a).toList (strOfNums b).toList = decide (cmpL a b < 0) := by
  intro a b hl ha hb
  rw [ByteArray.toList_eq, ByteArray.toList_eq, strOfNums_data, strOfNums_data]
  induction a generalizing b with
  | nil =>
    cases b with
    | nil => rw [cmpL7_nil]; rfl
    | cons _ _ => simp at hl
  | cons x a ih =>
    cases b with
    | nil => simp at hl
    | cons y b =>
      have hx := ha x (by simp)
      have hy := hb y (by simp)
      have ih := ih b (by simpa using hl) (fun z hz => ha z (by simp [hz])) (fun z hz => hb z (by simp [hz]))
      rw [cmpL7_cons, List.map_cons, List.map_cons, Op.bytesLess, ih]
      obtain ⟨p, rfl, hp⟩ := byteN hx
      obtain ⟨q, rfl, hq⟩ := byteN hy
      have e1 : UInt8.ofNat (p : Int).toNat < UInt8.ofNat (q : Int).toNat ↔ p < q := by
        rw [UInt8.lt_iff_toNat_lt, UInt8.toNat_ofNat', UInt8.toNat_ofNat']
        simp only [Int.toNat_natCast]
        omega
      have e2 : UInt8.ofNat (p : Int).toNat = UInt8.ofNat (q : Int).toNat ↔ p = q := by
        rw [← UInt8.toNat_inj, UInt8.toNat_ofNat', UInt8.toNat_ofNat']
        simp only [Int.toNat_natCast]
        omega
      by_cases h : p = q
      · subst h; simp
      · have h1 : ¬ ((p : Int) = (q : Int)) := by omega
        rw [if_neg h1, beq_eq_false_iff_ne.2 (fun e => h (e2.1 e)), Bool.false_and, Bool.or_false]
        by_cases hlt : p < q
        · rw [if_pos (by omega), decide_eq_true (e1.2 hlt)]; rfl
        · rw [if_neg (by omega), decide_eq_false (fun e => hlt (e1.1 e))]; rfl
end Go.Proofs.Ytdjclllnmclocaa
/- Lists of entries: copied, counted, held against each other. No condition. -/
namespace Go.Proofs.Ytdjclllnmclocaa
open Go.RowKit
set_option linter.unusedVariables false
set_option linter.unusedSimpArgs false

abbrev En := ByteArray × ByteArray
def tEnt : Ty En := ⟨2, fun e => [.string e.1, .string e.2], fun e => e.1.size ≤ 140737488351232 ∧ e.2.size ≤ 140737488351232, fun _ _ => rfl, fun _ u hu => by simp at hu; rcases hu with rfl | rfl <;> rfl⟩
end Go.Proofs.Ytdjclllnmclocaa
/- A source of choices: what is drawn lies in its bounds. No condition. -/
namespace Go.Proofs.Ytdjclllnmclocaa
open Go.RowKit
set_option linter.unusedVariables false
set_option linter.unusedSimpArgs false

/-- a source in block g that has been asked at most b times; what it reads lies in older blocks -/
def Src (w : World) (g : Nat) (b : Int) : Prop :=
  ∃ (A : Option Addr) (cap : Nat) (xs : List Int) (p q : Int), Blk w g 110 #[.slice A xs.length cap, .int .i64 p, .int .u64 q] ∧ RdL tByte w (fun k => k < g) (.slice A xs.length cap) xs ∧ 0 ≤ p ∧ p ≤ b
theorem Src.lt {w : World} {g : Nat} {b : Int} (h : Src w g b) : g < w.heap.size := by
  obtain ⟨A, cap, xs, p, q, hB, _⟩ := h
  exact hB.lt
theorem Src.le {w : World} {g : Nat} {b c : Int} (h : Src w g b) (hc : b ≤ c) : Src w g c := by
  obtain ⟨A, cap, xs, p, q, hB, hr, h0, h1⟩ := h
  exact ⟨A, cap, xs, p, q, hB, hr, h0, by omega⟩
theorem Src.later {w w' : World} {g : Nat} {b : Int} {row : Option Nat} (h : Src w g b) (hg : w.grownBy w' row) (hr : ∀ k, row = some k → g < k) : Src w' g b := by
  obtain ⟨A, cap, xs, p, q, hB, hrd, h0, h1⟩ := h
  refine ⟨A, cap, xs, p, q, hB.grown hg (fun e => ?_), hrd.keep (fun k hk => hg.block k (Nat.lt_trans hk hB.lt) (fun e => ?_)), h0, h1⟩
  · have := hr g e.symm; omega
  · have := hr k e.symm; omega
theorem Src.ext {w w' : World} {g : Nat} {b : Int} (h : Src w g b) (hx : Ext w w') : Src w' g b := h.later (ext_grown none hx) (fun k e => by cases e)
theorem srcEnd {w w' : World} {g : Nat} {b p q : Int} {A : Option Addr} {cap : Nat} {xs : List Int} (hr : RdL tByte w (fun k => k < g) (.slice A xs.length cap) xs) (hg : w.grownBy w' (some g)) (hl : g < w.heap.size)
    (hB : Blk w' g 110 #[.slice A xs.length cap, .int .i64 p, .int .u64 q]) (h0 : 0 ≤ p) (h1 : p ≤ b) : Src w' g b :=
  ⟨A, cap, xs, p, q, hB, hr.keep (fun k hk => hg.block k (Nat.lt_trans hk hl) (fun e => by injection e with e; omega)), h0, h1⟩
theorem srcBoth {w w' : World} {g : Nat} {b p q : Int} {A : Option Addr} {cap : Nat} {xs : List Int} (hr : RdL tByte w (fun k => k < g) (.slice A xs.length cap) xs) (hg : w.grownBy w' (some g)) (hl : g < w.heap.size)
    (hB : Blk w' g 110 #[.slice A xs.length cap, .int .i64 p, .int .u64 q]) (h0 : 0 ≤ p) (h1 : p ≤ b) : Src w' g b ∧ w.grownBy w' (some g) := ⟨srcEnd hr hg hl hB h0 h1, hg⟩
theorem grown_drewN {w w' : World} {row : Option Nat} (h : w.grownBy w' row) (n : Nat) : w.grownBy (w'.drewN n) row := ⟨h.os, h.tape, h.output, h.size, h.block⟩
theorem and_255 (E : Int) (h0 : 0 ≤ E) (h1 : E ≤ 18446744073709551615) : bits BinOp.and IntKind.u64 E 255 = E % 256 := by
  have h := bits_and_u64_nat E.toNat 255 (by omega) (by omega)
  rw [show (255 : Nat) = 2 ^ 8 - 1 from rfl, Nat.and_two_pow_sub_one_eq_mod, Int.toNat_of_nonneg h0] at h
  have h2 : ((E.toNat % 2 ^ 8 : Nat) : Int) = E % 256 := by omega
  exact h.trans h2
set_option maxHeartbeats 1000000 in
set_option maxRecDepth 100000 in
theorem srcNext_any (g : Nat) (b : Int) (hb : b ≤ 4611686018427387904) (w : World) (h : Src w g b) :
    Calls Try.prog 89 #[.pointer (some ⟨g, 0, none⟩)] w fun e w' => ∃ n : Int, e = .returned (.int .i64 n) ∧ 0 ≤ n ∧ n ≤ 255 ∧ Src w' g (b + 1) ∧ w.grownBy w' (some g) := by
  obtain ⟨A, cap, xs, p, q, hB, hr, h0, h1⟩ := h
  obtain ⟨A', cap', e1, hcap, hlen, hrd, hok⟩ := id hr
  injection e1 with e1 e2 e3
  subst e1 e3
  have HR := Lib.hid hr
  have HB := Lib.hid hB
  have hgl := hB.lt
  have c0 : w.cell? ⟨g, 0, none⟩ = some (.slice A xs.length cap) := hB.at_ 0 rfl
  have c1 : w.cell? ⟨g, 1, none⟩ = some (.int .i64 p) := hB.at_ 1 rfl
  have c2 : w.cell? ⟨g, 2, none⟩ = some (.int .u64 q) := hB.at_ 2 rfl
  have f1 : w.frozen? ⟨g, 1, none⟩ = false := hB.free 1
  have f2 : w.frozen? ⟨g, 2, none⟩ = false := hB.free 2
  clear hr hB
  by_cases hlt : p < xs.length
  · obtain ⟨k, rfl⟩ := Int.eq_ofNat_of_zero_le h0
    have hrd' : Rd w (fun k => k < g) 1 A xs.length (nums .u8 xs) := by rw [← flat_bytes]; exact hrd
    obtain ⟨g2, o2, rfl, hs, hc⟩ := hrd'.byte k (by omega)
    have hbyte := B8.get hok k
    have hk2 : (k : Int) + 1 ≤ (xs.length : Int) := by omega
    clear hok hrd hrd' e2
    go_enter Try.func89, Try.ntmps89
    go_wp2
    go_quiet (fail)
    go_wp2
    go_quiet (fail)
    go_wp2
    go_quiet (fail)
    go_wp2
    go_ret
    refine ⟨_, rfl, hbyte.1, hbyte.2, ?hS⟩
    case hS => exact srcBoth HR.out (grown_drewN (grown_set (grown_set (ext_grown (some g) ((Ext.refl w).drewN _)) _) _) _) hgl ((((HB.out.drewN _).set 1 _).set 2 _).drewN _) (by omega) (by omega)
  · have hk2 : ¬ p + 1 ≤ (xs.length : Int) := by omega
    have hwq : ∀ z : Int, 0 ≤ IntKind.u64.wrap z / 1099511627776 ∧ IntKind.u64.wrap z / 1099511627776 ≤ 18446744073709551615 := fun z => by rw [IntKind.wrap_u64]; omega
    go_enter Try.func89, Try.ntmps89
    go_wp2
    go_quiet (fail)
    go_wp2
    go_quiet (fail)
    go_wp2
    go_ret
    rw [and_255 _ (hwq _).1 (hwq _).2]
    have hm : ∀ z : Int, wrap64 (z % 256) = z % 256 := fun z => by rw [wrap64]; omega
    rw [hm]
    refine ⟨_, rfl, by omega, by omega, ?hS⟩
    case hS => exact srcBoth HR.out (grown_drewN (grown_set (grown_set (ext_grown (some g) ((Ext.refl w).drewN _)) _) _) _) hgl ((((HB.out.drewN _).set 1 _).set 2 _).drewN _) (by omega) (by omega)
set_option maxHeartbeats 1000000 in
set_option maxRecDepth 100000 in
theorem srcPick_any (g : Nat) (b : Int) (hb : b ≤ 4611686018427387902) (n : Int) (hn : n ≤ 4611686018427387904) (w : World) (h : Src w g b) :
    Calls Try.prog 59 #[.pointer (some ⟨g, 0, none⟩), .int .i64 n] w fun e w' => ∃ r : Int, e = .returned (.int .i64 r) ∧ 0 ≤ r ∧ (r < n ∨ r = 0) ∧ Src w' g (b + 2) ∧ w.grownBy w' (some g) := by
  by_cases h1 : n ≤ 1
  · go_enter Try.func59, Try.ntmps59
    go_wp2
    go_ret
    exact ⟨0, rfl, by omega, .inr rfl, h.le (by omega), grown_refl _ _⟩
  · by_cases h2 : 200 < n
    · go_enter Try.func59, Try.ntmps59
      go_wp2_with fail
      refine (srcNext_any g b (by omega) _ h).mono ?_
      rintro e w1 ⟨x, rfl, hx0, hx1, hs, hg⟩
      have HS := Lib.hid hs
      have HG := Lib.hid hg
      clear hs hg h
      go_wp2_with fail
      refine (srcNext_any g (b + 1) (by omega) _ HS.out).mono ?_
      rintro e w2 ⟨y, rfl, hy0, hy1, hs, hg⟩
      replace HS := Lib.hid hs
      replace HG := Lib.hid (grown_trans HG.out hg)
      clear hs hg
      go_wp2
      go_ret
      exact ⟨_, rfl, Int.emod_nonneg _ (by omega), .inl (Int.emod_lt_of_pos _ (by omega)), HS.out.le (by omega), HG.out⟩
    · go_enter Try.func59, Try.ntmps59
      go_wp2_with fail
      refine (srcNext_any g b (by omega) _ h).mono ?_
      rintro e w1 ⟨x, rfl, hx0, hx1, hs, hg⟩
      have HS := Lib.hid hs
      have HG := Lib.hid hg
      clear hs hg h
      go_wp2
      go_ret
      exact ⟨_, rfl, Int.emod_nonneg _ (by omega), .inl (Int.emod_lt_of_pos _ (by omega)), HS.out.le (by omega), HG.out⟩
set_option maxHeartbeats 1000000 in
set_option maxRecDepth 100000 in
theorem srcOne_any (g : Nat) (b : Int) (hb : b ≤ 4611686018427387902) (n : Int) (hn : n ≤ 4611686018427387904) (w : World) (h : Src w g b) :
    Calls Try.prog 86 #[.pointer (some ⟨g, 0, none⟩), .int .i64 n] w fun e w' => ∃ r : Bool, e = .returned (.bool r) ∧ Src w' g (b + 2) ∧ w.grownBy w' (some g) := by
  go_enter Try.func86, Try.ntmps86
  go_wp2_with fail
  refine (srcPick_any g b hb n hn _ h).mono ?_
  rintro e w1 ⟨x, rfl, hx0, hx1, hs, hg⟩
  have HS := Lib.hid hs
  have HG := Lib.hid hg
  clear hs hg h
  go_wp2
  go_ret
  exact ⟨_, rfl, HS.out, HG.out⟩
set_option maxHeartbeats 1000000 in
set_option maxRecDepth 100000 in
theorem l00From_any (v : Value) (xs : List Int) (w : World) (S : Nat → Prop) (h : RdL tByte w S v xs) :
    Calls Try.prog 46 #[v] w fun e w' => e = .returned (.pointer (some ⟨w.heap.size, 0, none⟩)) ∧ Src w' w.heap.size 0 ∧ Ext w w' := by
  have H := Lib.hid h
  obtain ⟨A, cap, rfl, _⟩ := h
  go_enter Try.func46, Try.ntmps46
  go_wp2
  go_ret
  refine ⟨rfl, ⟨A, cap, xs, 0, 0, Blk.new w _ _, ?_, by decide, by decide⟩, ext_alloc _ _⟩
  obtain ⟨A', cap', e1, h1, h2, h3, h4⟩ := H.out
  exact ⟨A', cap', e1, h1, h2, ((h3.old (by decide)).mono (fun k hk => hk.2)).ext (by decide) (ext_alloc _ _), h4⟩
end Go.Proofs.Ytdjclllnmclocaa
/- Texts in order; their comparison. No condition. -/
namespace Go.Proofs.Ytdjclllnmclocaa
open Go.RowKit
set_option linter.unusedVariables false
set_option linter.unusedSimpArgs false

end Go.Proofs.Ytdjclllnmclocaa
/- Which lists of entries are maps: the reference and the program. No condition. -/
namespace Go.Proofs.Ytdjclllnmclocaa
open Go.RowKit
set_option linter.unusedVariables false
set_option linter.unusedSimpArgs false

def gE (L : List En) (i : Nat) : En := L.getD i (⟨#[]⟩, ⟨#[]⟩)
theorem gE_lt {L : List En} {i : Nat} (h : i < L.length) : gE L i = L[i] := by simp [gE, List.getD_eq_getElem?_getD, h]
end Go.Proofs.Ytdjclllnmclocaa
/- The tree of a map, plainly. No condition. -/
namespace Go.Proofs.Ytdjclllnmclocaa
open Go.RowKit
set_option linter.unusedVariables false
set_option linter.unusedSimpArgs false

inductive Tr where
  | leaf : Tr
  | node : Nd → Tr → Tr → Tr
def Tr.key : Tr → List Int
  | .leaf => emptyL
  | .node x _ _ => hashL 5 (nodeL x)
def Tr.all : Tr → List Nd
  | .leaf => []
  | .node x l r => x :: (l.all ++ r.all)
def Tr.ok : Tr → Prop
  | .leaf => True
  | .node x l r => x.ok ∧ entB x.n x.v = true ∧ x.l = l.key ∧ x.r = r.key ∧ l.ok ∧ r.ok
/-- the place of the greatest of the first k priorities -/
def gK (ps : List (List Int)) (k : Nat) : List Int := ps.getD k []
def topS (ps : List (List Int)) (k t : Nat) : Nat := if 0 < cmpL (gK ps k) (gK ps t) then k else t
def topI (ps : List (List Int)) : Nat → Nat
  | 0 => 0
  | k + 1 => topS ps k (topI ps k)
attribute [irreducible] topI
def prios (L : List En) : List (List Int) := L.map fun e => prioL e.1
def topE (L : List En) : Nat := topI (prios L) L.length
/-- the tree -/
def trS (L : List En) (l r : Tr) : Tr := if L.length = 0 then .leaf else .node ⟨l.key, r.key, (gE L (topE L)).1, (gE L (topE L)).2⟩ l r
def trF : Nat → List En → Tr
  | 0, _ => .leaf
  | f + 1, L => trS L (trF f (L.take (topE L))) (trF f (L.drop (topE L + 1)))
attribute [irreducible] trF
/-- entries that a map may hold -/
def good (L : List En) : Prop := ∀ e ∈ L, tEnt.ok e ∧ entB e.1 e.2 = true
theorem good.take {L : List En} (h : good L) (k : Nat) : good (L.take k) := fun e he => h e (List.mem_of_mem_take he)
theorem good.drop {L : List En} (h : good L) (k : Nat) : good (L.drop k) := fun e he => h e (List.mem_of_mem_drop he)
theorem good.at_ {L : List En} (h : good L) {k : Nat} (hk : k < L.length) : tEnt.ok (gE L k) ∧ entB (gE L k).1 (gE L k).2 = true := by rw [gE_lt hk]; exact h _ (List.getElem_mem hk)
theorem Rd.cutL {α : Type} {T : Ty α} {w : World} {S : Nat → Prop} {A : Option Addr} {xs : List α} (h : Rd w S T.sz A xs.length (xs.flatMap T.enc)) (hok : ∀ x ∈ xs, T.ok x) {k cap : Nat} (hk : k ≤ xs.length) (hc : xs.length ≤ cap) :
    Rd w S T.sz (if cap = k then A else A.map (·.add (k * T.sz))) (xs.drop k).length ((xs.drop k).flatMap T.enc) := by
  have h1 := h.cut hk hc
  have e : (xs.flatMap T.enc).drop (k * T.sz) = (xs.drop k).flatMap T.enc := by
    conv => lhs; rw [← List.take_append_drop k xs, List.flatMap_append]
    rw [List.drop_append_of_le_length (by rw [flat_length T _ (fun x hx => hok x (List.mem_of_mem_take hx)), List.length_take, Nat.min_eq_left hk]; exact Nat.le_refl _), List.drop_eq_nil_of_le (by rw [flat_length T _ (fun x hx => hok x (List.mem_of_mem_take hx)), List.length_take, Nat.min_eq_left hk]; exact Nat.le_refl _), List.nil_append]
  rw [e, ← List.length_drop] at h1
  exact h1
theorem Rd.headL {α : Type} {T : Ty α} {w : World} {S : Nat → Prop} {A : Option Addr} {xs : List α} (h : Rd w S T.sz A xs.length (xs.flatMap T.enc)) (hok : ∀ x ∈ xs, T.ok x) {k : Nat} (hk : k ≤ xs.length) :
    Rd w S T.sz A (xs.take k).length ((xs.take k).flatMap T.enc) := by
  have h1 := h.head hk
  have e : (xs.flatMap T.enc).take (k * T.sz) = (xs.take k).flatMap T.enc := by
    conv => lhs; rw [← List.take_append_drop k xs, List.flatMap_append]
    rw [List.take_append_of_le_length (by rw [flat_length T _ (fun x hx => hok x (List.mem_of_mem_take hx)), List.length_take, Nat.min_eq_left hk]; exact Nat.le_refl _), List.take_of_length_le (by rw [flat_length T _ (fun x hx => hok x (List.mem_of_mem_take hx)), List.length_take, Nat.min_eq_left hk]; exact Nat.le_refl _)]
  have hl : (xs.take k).length = k := by rw [List.length_take]; omega
  rw [e] at h1
  rw [hl]
  exact h1
/-- the first k of a list that is read -/
theorem RdL.head {α : Type} {T : Ty α} {w : World} {S : Nat → Prop} {A : Option Addr} {xs : List α} {cap : Nat} (h : RdL T w S (.slice A xs.length cap) xs) {k : Nat} (hk : k ≤ xs.length) : RdL T w S (.slice A k cap) (xs.take k) := by
  obtain ⟨A', cap', e, h1, h2, h3, h4⟩ := h
  injection e with e1 _ e3
  subst e1 e3
  have hl : (xs.take k).length = k := by rw [List.length_take]; omega
  exact ⟨A, cap, by rw [hl], by omega, by omega, h3.headL h4 hk, fun x hx => h4 x (List.mem_of_mem_take hx)⟩
theorem RdL.cut {α : Type} {T : Ty α} {w : World} {S : Nat → Prop} {A : Option Addr} {xs : List α} {cap : Nat} (h : RdL T w S (.slice A xs.length cap) xs) {k : Nat} (hk : k ≤ xs.length) :
    RdL T w S (.slice (if cap = k then A else A.map (·.add (k * T.sz))) (xs.length - k) (cap - k)) (xs.drop k) := by
  obtain ⟨A', cap', e, h1, h2, h3, h4⟩ := h
  injection e with e1 _ e3
  subst e1 e3
  exact ⟨_, cap - k, by rw [List.length_drop], by rw [List.length_drop]; omega, by rw [List.length_drop]; omega, h3.cutL h4 hk h1, fun x hx => h4 x (List.mem_of_mem_drop hx)⟩
end Go.Proofs.Ytdjclllnmclocaa
/- A name's place in a map: the reference and the program. No condition. -/
namespace Go.Proofs.Ytdjclllnmclocaa
open Go.RowKit
set_option linter.unusedVariables false
set_option linter.unusedSimpArgs false

end Go.Proofs.Ytdjclllnmclocaa
/- The entries of a range: the reference. No condition. -/
namespace Go.Proofs.Ytdjclllnmclocaa
open Go.RowKit
set_option linter.unusedVariables false
set_option linter.unusedSimpArgs false

end Go.Proofs.Ytdjclllnmclocaa
/- Rows of entries, entry by entry: read out of an owned row, written, shut again. No condition. -/
namespace Go.Proofs.Ytdjclllnmclocaa
open Go.RowKit
set_option linter.unusedVariables false
set_option linter.unusedSimpArgs false

end Go.Proofs.Ytdjclllnmclocaa
/- Steps of regions that make and fill variables; structs built of parts. No condition. -/
namespace Go.Proofs.Ytdjclllnmclocaa
open Go.RowKit
set_option linter.unusedVariables false
set_option linter.unusedSimpArgs false

section
variable {P : Program} {ops : Array Oper} {o : Oper} {a : Act} {w : World} {K : Act → World → Prop} {Q : Exit → Act → World → Prop} {E : Prop}
/-- a struct is stored: one step of a region -/
theorem stp_storeP {t g e n off : Nat} {cs cur : Array Value} (hb : Blk w g e cur) (ht : Agg P t n) (hs : St n cs) (hl : off + n ≤ cur.size) (hgd : o.guard = none) (x y : Operand) (ho : o.op = .store t x y)
    (hx : a.eval x = .pointer (some ⟨g, off, none⟩)) (hy : a.eval y = .agg cs) (hd : o.dst = none) (h : K a (w.setRow g (splice cur off cs.toList))) :
    if Region.wanted o (yielded ops a.tmps) = true then Oper.wp P o a w K Q else E := by
  have hw : Region.wanted o (yielded ops a.tmps) = true := by simp [Region.wanted, hgd]
  rw [if_pos hw]
  have hsz : cs.toList.length = n := by rw [Array.length_toList, hs.size]
  have hrun := run_storeCells_at P g off e cs.toList 0 cur w hb (by rw [hsz]; simpa using hl) hs.one
  simp only [Nat.add_zero] at hrun
  have ht2 := ht.2
  cases hq : P.info? t with
  | none => simp [hq] at ht2
  | some i =>
    have hs' : i.size = cs.toList.length := by rw [hsz]; simpa [hq] using ht2
    unfold Oper.wp execOp
    simp only [ho, hx, hy, Instr.storeAt, Instr.sureAddr, Sem.run_bind, Sem.run_pure, Result.andThen_ok]
    have hst : (storeVar t ⟨g, off, none⟩ (.agg cs)).run P w = .ok () (w.setRow g (splice cur off cs.toList)) := by
      simp only [storeVar, Sem.run_bind, sizeOf, typeInfo]
      simp only [Array.length_toList] at hs'
      simp [hq, hs', Value.cells, hrun, splice]
    rw [hst]
    simp only [Result.andThen_ok, Sem.run_pure]
    simpa [hd, Act.put, Oper.upon] using h
theorem wpl_buildN {rest : List Oper} {t : TypeId} {parts : Array (Nat × Operand)} {cells : Array Value} (hgd : o.guard = none) (ho : o.op = .build t parts)
    (hb : P.built t (parts.toList.map fun p => (p.1, a.eval p.2)) = some cells) (h : wpList P ops Q rest (a.put o.dst (.agg cells)) w) : wpList P ops Q (o :: rest) a w := by
  replace hb : P.built t (parts.map fun (i, x) => (i, a.eval x)).toList = some cells := by rw [Array.toList_map]; exact hb
  refine wpList_plain hgd fun K hK => ?_
  refine wp_build t parts ho (by rw [hb]; rfl) ?_
  rw [hb]
  exact hK _ _ h
end
end Go.Proofs.Ytdjclllnmclocaa
/- Marks laid on lists of keys, and read. No condition. -/
namespace Go.Proofs.Ytdjclllnmclocaa
open Go.RowKit
set_option linter.unusedVariables false
set_option linter.unusedSimpArgs false

/-- the keys of v hold the marks m, m + 1, .. -/
def MarkedK (w : World) (S : Nat → Prop) (v : Value) (n : Nat) (m : Int) : Prop :=
  ∃ A cap, v = .slice A n cap ∧ n ≤ 140737488355328 ∧ (0 < n → ∃ g o, A = some ⟨g, o, none⟩ ∧ S g ∧ ∀ j, j < n * 32 → w.cell? ⟨g, o + j, none⟩ = some (.int .u8 ((m + j) % 256)))
theorem MarkedK.ext {w w' : World} {S : Nat → Prop} {v : Value} {n : Nat} {m : Int} (h : MarkedK w S v n m) (e : Ext w w') : MarkedK w' S v n m := by
  obtain ⟨A, cap, h1, h2, h3⟩ := h
  refine ⟨A, cap, h1, h2, fun hn => ?_⟩
  obtain ⟨g, o, h4, h5, h6⟩ := h3 hn
  exact ⟨g, o, h4, h5, fun j hj => e.cell (h6 j hj)⟩
end Go.Proofs.Ytdjclllnmclocaa
/- Data and keys that are drawn from a source; numbers out of bytes. No condition. -/
namespace Go.Proofs.Ytdjclllnmclocaa
open Go.RowKit
set_option linter.unusedVariables false
set_option linter.unusedSimpArgs false

theorem grownR {a b c : World} {row r2 : Option Nat} (h : a.grownBy b row) (hg : b.grownBy c r2) (hk : ∀ k, r2 = some k → a.heap.size ≤ k) : a.grownBy c row :=
  ⟨hg.os.trans h.os, hg.tape.trans h.tape, hg.output.trans h.output, Nat.le_trans h.size hg.size, fun i hi hn => (hg.block i (Nat.lt_of_lt_of_le hi h.size) (fun e => by have := hk i e.symm; omega)).trans (h.block i hi hn)⟩
theorem Own.ne_sA {α : Type} {T : Ty α} {e : TypeId} {w : World} {base : Nat} {v : Value} {xs : List α} {g : Nat} (h : Own T e w base v xs) (hg : g < base) : v.ownBlock = none ∨ v.ownBlock ≠ some g := by
  refine .inr fun q => ?_
  have := (h.base_le g q).1
  omega
theorem rowByteA : Row Try.prog tByte 22 5 1 := Row.mk' Try.underlying22 (.int .u8 0) (by kernel_rfl) rfl (by decide) (by decide)
theorem rowKeyA : Row Try.prog tKey 47 28 32 := Row.mk' Try.underlying47 (.agg (numsA .u8 (List.replicate 32 0))) (by kernel_rfl) rfl (by decide) (by decide)
theorem built_zeroA : Try.prog.built 28 [] = some (numsA .u8 (List.replicate 32 0)) := by kernel_rfl
theorem u8_in (x : Int) (h0 : 0 ≤ x) (h1 : x ≤ 255) : IntKind.u8.wrap x = x := by simp [IntKind.wrap, IntKind.bits, IntKind.signed]; omega
set_option maxHeartbeats 1000000 in
set_option maxRecDepth 100000 in
theorem a2Long_any (A A' : Option Addr) (n m c c' : Nat) (w : World) (b : Bool) (hb : (decide (3000 < n) || decide (3000 < m)) = b) :
    Calls Try.prog 8 #[.slice A n c, .slice A' m c'] w fun e w' => e = .returned (.bool b) ∧ w = w' := by
  by_cases h1 : 3000 < n
  · have h1' : (3000 : Int) < (n : Int) := by omega
    have e : b = true := by rw [← hb, decide_eq_true h1]; rfl
    subst e
    clear hb
    go_enter Try.func8, Try.ntmps8
    go_wp2
    go_ret
    exact ⟨rfl, rfl⟩
  · have h1' : ¬ (3000 : Int) < (n : Int) := by omega
    by_cases h2 : 3000 < m
    · have h2' : (3000 : Int) < (m : Int) := by omega
      have e : b = true := by rw [← hb, decide_eq_true h2]; simp
      subst e
      clear hb
      go_enter Try.func8, Try.ntmps8
      go_wp2
      go_ret
      exact ⟨rfl, rfl⟩
    · have h2' : ¬ (3000 : Int) < (m : Int) := by omega
      have e : b = false := by rw [← hb, decide_eq_false h1, decide_eq_false h2]; rfl
      subst e
      clear hb
      go_enter Try.func8, Try.ntmps8
      go_wp2
      go_ret
      exact ⟨rfl, rfl⟩
set_option maxHeartbeats 1000000 in
set_option maxRecDepth 100000 in
theorem a2At_any (v : Value) (xs : List Int) (i : Nat) (n : Int) (hn : n ≤ 4611686018427387904) (w : World) (S : Nat → Prop) (h : RdL tByte w S v xs) (hi : i ≤ 1000) :
    Calls Try.prog 11 #[v, .int .i64 i, .int .i64 n] w fun e w' => ∃ r : Int, e = .returned (.int .i64 r) ∧ 0 ≤ r ∧ (r < n ∨ r = 0) ∧ w = w' := by
  obtain ⟨A, cap, rfl, hcap, hlen, hrd, hok⟩ := h
  have hrd' : Rd w S 1 A xs.length (nums .u8 xs) := by rw [← flat_bytes]; exact hrd
  clear hrd
  by_cases h1 : i < xs.length
  · have h1' : ¬ (xs.length : Int) ≤ (i : Int) := by omega
    have h1'' : (i : Int) < (xs.length : Int) := by omega
    have hi0 : (0 : Int) ≤ (i : Int) := by omega
    by_cases h2 : n < 1
    · go_enter Try.func11, Try.ntmps11
      go_wp2
      go_ret
      exact ⟨0, rfl, by omega, .inr rfl, rfl⟩
    · obtain ⟨g, o, rfl, hs, hc⟩ := hrd'.byte i h1
      have hb := B8.get hok i
      have hn0 : ¬ n = 0 := by omega
      obtain ⟨z, hz⟩ : ∃ z, gI xs i = z := ⟨_, rfl⟩
      rw [hz] at hc hb
      have hw : IntKind.i64.wrap z = z := IntWalk.i64_in _ (by omega)
      have hm := Int.tmod_nonneg n (a := z) hb.1
      have hm2 := Int.tmod_lt_of_pos z (b := n) (by omega)
      clear hok hrd' hz
      go_enter Try.func11, Try.ntmps11
      go_wp2
      go_ret
      first
        | exact ⟨_, rfl, Int.emod_nonneg _ (by omega), .inl (Int.emod_lt_of_pos _ (by omega)), rfl⟩
        | exact ⟨_, rfl, hm, .inl hm2, rfl⟩
  · have h1' : (xs.length : Int) ≤ (i : Int) := by omega
    go_enter Try.func11, Try.ntmps11
    go_wp2
    go_ret
    exact ⟨0, rfl, by omega, .inr rfl, rfl⟩
set_option maxHeartbeats 4000000 in
set_option maxRecDepth 100000 in
theorem l01Data_any (g : Nat) (b : Int) (hb : b ≤ 4611686018427380000) (most : Nat) (hm : most ≤ 100) (w : World) (h : Src w g b) :
    Calls Try.prog 45 #[.pointer (some ⟨g, 0, none⟩), .int .i64 most] w fun e w' => ∃ v' xs, e = .returned v' ∧ Own tByte 5 w' w.heap.size v' xs ∧ xs.length ≤ most ∧ Src w' g (b + 404) ∧ w.grownBy w' (some g) := by
  have hgl := h.lt
  have hm1 : (most : Int) + 1 ≤ 4611686018427387904 := by omega
  have hw1 : IntKind.i64.wrap ((most : Int) + 1) = (most : Int) + 1 := IntWalk.i64_in _ (by omega)
  go_enter Try.func45, Try.ntmps45
  go_wp2_with fail
  refine (srcOne_any g b (by omega) 2 (by omega) _ (h.ext (ext_alloc _ _))).mono ?_
  rintro e w1 ⟨few, rfl, hs, hg⟩
  have HO := Lib.hid ((Own.empty tByte w 5 w.heap.size (Nat.le_refl _)).kept hg ((Own.empty tByte w 5 w.heap.size (Nat.le_refl _)).ne_sA hgl))
  have HS := Lib.hid hs
  have HG := Lib.hid (grown_trans (ext_grown (some g) (ext_alloc w (Obj.cells #[] 5))) hg)
  clear hs hg h
  go_wp2_with fail
  refine (srcPick_any g (b + 2) (by omega) (most + 1) (by omega) _ HS.out).mono ?_
  rintro e w2 ⟨n, rfl, hn0, hn1, hs, hg⟩
  obtain ⟨n, rfl⟩ := Int.eq_ofNat_of_zero_le hn0
  have hn2 : n ≤ most := by omega
  replace HO := Lib.hid (HO.out.kept hg (HO.out.ne_sA hgl))
  replace HS := Lib.hid hs
  replace HG := Lib.hid (grown_trans HG.out hg)
  clear hs hg hw1
  go_wp2
  go_loopw [5, 7, 8] (fun a i _ wr => ∃ (k : Nat) (xs : List Int), k ≤ n ∧ i = .int .i64 k ∧ Own tByte 5 wr w.heap.size a xs ∧ xs.length + k ≤ most ∧ Src wr g (b + 4 + 4 * (n - k)) ∧ w.grownBy wr (some g)) (fun _ i _ _ => (intOf i).toNat)
  case atStart => exact ⟨n, [], by omega, rfl, HO.out, by simp; omega, HS.out.le (by omega), HG.out⟩
  case round =>
    obtain ⟨k, xs, hk, rfl, ho, hl, hs, hg⟩ := hrel
    obtain ⟨C, cn, cc, rfl⟩ := ho.shape3
    clear HO HS HG
    have HO := Lib.hid ho
    have HS := Lib.hid hs
    have HG := Lib.hid hg
    have HL := Lib.hid hl
    clear ho hs hg hl
    by_cases h0 : 0 < k
    · have hi : (0 : Int) < (k : Int) := by omega
      go_wp2_with fail
      refine (srcPick_any g _ (by omega) 256 (by omega) _ HS.out).mono ?_
      rintro e w3 ⟨x, rfl, hx0, hx1, hs, hg⟩
      have hx2 : x ≤ 255 := by omega
      replace HO := Lib.hid (HO.out.kept hg (HO.out.ne_sA hgl))
      replace HS := Lib.hid hs
      replace HG := Lib.hid (grown_trans HG.out hg)
      have hu := u8_in x hx0 hx2
      clear hs hg hx1
      cases few with
      | false =>
        have hxok : tByte.ok x := ⟨hx0, hx2⟩
        go_wp2_with (at_builtin; refine wpl_append rowByteA rfl _ _ rfl (v := .slice C cn cc) rfl (HO.out.alloc (.cells #[.int .u8 x] 5)) _ _ rfl (A := some ⟨w3.heap.size, 0, none⟩) (ys := [x]) rfl (rd_one (T := tByte) w3 x hxok _) (by intro y hy; obtain rfl := List.mem_singleton.1 hy; exact hxok) (by have := HL.out; simp; omega) (by have := HG.out.size; simp; omega) ?_; intro v5 w5 ho5 hg5 hat5; have HS5 := Lib.hid ((HS.out.ext (ext_alloc w3 (.cells #[.int .u8 x] 5))).later hg5 (fun q hq => Nat.lt_of_lt_of_le hgl (HO.out.base_le q hq).1)); have HG5 := Lib.hid (grownR (grown_ext HG.out (ext_alloc w3 (.cells #[.int .u8 x] 5))) hg5 (fun q hq => (HO.out.base_le q hq).1)); have HO5 := Lib.hid ho5; obtain ⟨C5, n5, c5, rfl⟩ := ho5.shape3; clear ho5 hg5 hat5)
        go_roundw
        case rel => exact ⟨k - 1, _, by omega, by go_num, HO5.out, by have := HL.out; simp; omega, HS5.out.le (by omega), HG5.out⟩
        case measure => simp [intOf]; omega
      | true =>
        go_wp2_with fail
        refine (srcPick_any g _ (by omega) 3 (by omega) _ HS.out).mono ?_
        rintro e w4 ⟨y, rfl, hy0, hy1, hs, hg⟩
        have hy2 : y ≤ 255 := by omega
        replace HO := Lib.hid (HO.out.kept hg (HO.out.ne_sA hgl))
        replace HS := Lib.hid hs
        replace HG := Lib.hid (grown_trans HG.out hg)
        have hu2 := u8_in y hy0 hy2
        have hxok : tByte.ok y := ⟨hy0, hy2⟩
        clear hs hg hy1 hu
        go_wp2_with (at_builtin; refine wpl_append rowByteA rfl _ _ rfl (v := .slice C cn cc) rfl (HO.out.alloc (.cells #[.int .u8 y] 5)) _ _ rfl (A := some ⟨w4.heap.size, 0, none⟩) (ys := [y]) rfl (rd_one (T := tByte) w4 y hxok _) (by intro q hq; obtain rfl := List.mem_singleton.1 hq; exact hxok) (by have := HL.out; simp; omega) (by have := HG.out.size; simp; omega) ?_; intro v5 w5 ho5 hg5 hat5; have HS5 := Lib.hid ((HS.out.ext (ext_alloc w4 (.cells #[.int .u8 y] 5))).later hg5 (fun q hq => Nat.lt_of_lt_of_le hgl (HO.out.base_le q hq).1)); have HG5 := Lib.hid (grownR (grown_ext HG.out (ext_alloc w4 (.cells #[.int .u8 y] 5))) hg5 (fun q hq => (HO.out.base_le q hq).1)); have HO5 := Lib.hid ho5; obtain ⟨C5, n5, c5, rfl⟩ := ho5.shape3; clear ho5 hg5 hat5)
        go_roundw
        case rel => exact ⟨k - 1, _, by omega, by go_num, HO5.out, by have := HL.out; simp; omega, HS5.out.le (by omega), HG5.out⟩
        case measure => simp [intOf]; omega
    · obtain rfl : k = 0 := by omega
      go_wp2
      go_ret
      exact ⟨_, xs, rfl, HO.out, by have := HL.out; omega, HS.out.le (by omega), HG.out⟩
end Go.Proofs.Ytdjclllnmclocaa
/- Slices whose elements hold slices themselves: how they read. No condition. -/
namespace Go.Proofs.Ytdjclllnmclocaa
open Go.RowKit
set_option linter.unusedVariables false
set_option linter.unusedSimpArgs false

/-- how the cells of an element read -/
structure NR (α : Type) where
  sz : Nat
  R : World → (Nat → Prop) → Array Value → α → Prop
  pos : 0 < sz
  keep : ∀ {w w' : World} {S : Nat → Prop} {cs : Array Value} {x : α}, R w S cs x → (∀ g, S g → w'.heap[g]? = w.heap[g]?) → R w' S cs x
  ext : ∀ {w w' : World} {S : Nat → Prop} {cs : Array Value} {x : α}, R w S cs x → Ext w w' → R w' S cs x
  mono : ∀ {w : World} {S S' : Nat → Prop} {cs : Array Value} {x : α}, R w S cs x → (∀ g, S g → S' g) → R w S' cs x
  st : ∀ {w : World} {S : Nat → Prop} {cs : Array Value} {x : α}, R w S cs x → St sz cs
/-- the value v is a slice whose elements read as xs -/
def RdN {α : Type} (N : NR α) (w : World) (S : Nat → Prop) (v : Value) (xs : List α) : Prop :=
  ∃ A cap, v = .slice A xs.length cap ∧ xs.length ≤ cap ∧ xs.length ≤ 140737488355328 ∧
    (0 < xs.length → ∃ g o, A = some ⟨g, o, none⟩ ∧ S g ∧ ∀ i (h : i < xs.length), ∃ es : List Value, es.length = N.sz ∧ (∀ j u, es[j]? = some u → w.cell? ⟨g, o + i * N.sz + j, none⟩ = some u) ∧ N.R w S es.toArray xs[i])
section
variable {α : Type} {N : NR α} {w w' : World} {S S' : Nat → Prop} {v : Value} {xs : List α}
theorem RdN.ext (h : RdN N w S v xs) (e : Ext w w') : RdN N w' S v xs := by
  obtain ⟨A, cap, h1, h2, h3, h4⟩ := h
  refine ⟨A, cap, h1, h2, h3, fun hn => ?_⟩
  obtain ⟨g, o, h5, h6, h7⟩ := h4 hn
  refine ⟨g, o, h5, h6, fun i hi => ?_⟩
  obtain ⟨es, h8, h9, h10⟩ := h7 i hi
  exact ⟨es, h8, fun j u hu => e.cell (h9 j u hu), N.ext h10 e⟩
theorem RdN.keep (h : RdN N w S v xs) (e : ∀ g, S g → w'.heap[g]? = w.heap[g]?) : RdN N w' S v xs := by
  obtain ⟨A, cap, h1, h2, h3, h4⟩ := h
  refine ⟨A, cap, h1, h2, h3, fun hn => ?_⟩
  obtain ⟨g, o, h5, h6, h7⟩ := h4 hn
  refine ⟨g, o, h5, h6, fun i hi => ?_⟩
  obtain ⟨es, h8, h9, h10⟩ := h7 i hi
  exact ⟨es, h8, fun j u hu => (World.cell?_of_block (w := w) (e g h6)).trans (h9 j u hu), N.keep h10 e⟩
theorem RdN.far (h : RdN N w S v xs) {p : Addr} (hp : ∀ g, S g → g ≠ p.block) (u : Value) : RdN N (w.setCell p u) S v xs := h.keep fun g hg => Below.heap_setCell w p u g (hp g hg)
theorem RdN.mono (h : RdN N w S v xs) (e : ∀ g, S g → S' g) : RdN N w S' v xs := by
  obtain ⟨A, cap, h1, h2, h3, h4⟩ := h
  refine ⟨A, cap, h1, h2, h3, fun hn => ?_⟩
  obtain ⟨g, o, h5, h6, h7⟩ := h4 hn
  refine ⟨g, o, h5, e g h6, fun i hi => ?_⟩
  obtain ⟨es, h8, h9, h10⟩ := h7 i hi
  exact ⟨es, h8, h9, N.mono h10 e⟩
theorem RdN.shape (h : RdN N w S v xs) : ∃ A cap, v = .slice A xs.length cap ∧ xs.length ≤ cap ∧ xs.length ≤ 140737488355328 := by
  obtain ⟨A, cap, h1, h2, h3, _⟩ := h
  exact ⟨A, cap, h1, h2, h3⟩
/-- element i -/
theorem RdN.elem {A : Option Addr} {cap : Nat} (h : RdN N w S (.slice A xs.length cap) xs) (i : Nat) (hi : i < xs.length) :
    ∃ g o, A = some ⟨g, o, none⟩ ∧ S g ∧ ∃ es : List Value, es.length = N.sz ∧ (∀ j u, es[j]? = some u → w.cell? ⟨g, o + i * N.sz + j, none⟩ = some u) ∧ N.R w S es.toArray xs[i] := by
  obtain ⟨A', cap', h1, h2, h3, h4⟩ := h
  injection h1 with h1 _ _
  subst h1
  obtain ⟨g, o, h5, h6, h7⟩ := h4 (by omega)
  exact ⟨g, o, h5, h6, h7 i hi⟩
theorem RdN.nil (N : NR α) (w : World) (S : Nat → Prop) : RdN N w S (.slice none 0 0) [] := ⟨none, 0, rfl, Nat.le_refl _, by simp, fun h => absurd h (by simp)⟩
end
/-- the first of the elements of a row have been filled in -/
structure FillN {α : Type} (N : NR α) (w : World) (g e : Nat) (S : Nat → Prop) (xs : List α) (CS : List (List Value)) (m : Nat) : Prop where
  fill : Fill w g e CS.flatten m
  rel : ∀ (i : Nat) (es : List Value) (x : α), CS[i]? = some es → xs[i]? = some x → es.length = N.sz ∧ N.R w S es.toArray x
  lens : ∀ es ∈ CS, es.length = N.sz
section
variable {α : Type} {N : NR α} {w w' : World} {g e m : Nat} {S : Nat → Prop} {xs : List α} {CS : List (List Value)}
theorem FillN.ext (h : FillN N w g e S xs CS m) (x : Ext w w') : FillN N w' g e S xs CS m := ⟨h.fill.ext x, fun i es y h1 h2 => ⟨(h.rel i es y h1 h2).1, N.ext (h.rel i es y h1 h2).2 x⟩, h.lens⟩
end
/-- a whole struct or array is stored into the variable that has just been made, its place as the walk shows it -/
theorem wpl_storeNewG {P : Program} {ops : Array Oper} {rest : List Oper} {o : Oper} {a : Act} {w : World} {Q : Exit → Act → World → Prop} {t e n g : Nat} {cs cur : Array Value} (hg : w.heap.size = g) (ht : Agg P t n) (hs : St n cs) (hl : cur.size = n) (hgd : o.guard = none) (x y : Operand) (ho : o.op = .store t x y) (hx : a.eval x = .pointer (some ⟨g, 0, none⟩))
    (hy : a.eval y = .agg cs) (hd : o.dst = none) (h : wpList P ops Q rest a (w.alloc (.cells cs e))) : wpList P ops Q (o :: rest) a (w.alloc (.cells cur e)) := by
  subst hg
  exact wpl_storeNewB ht hs hl hgd x y ho hx hy hd h
end Go.Proofs.Ytdjclllnmclocaa
/- The key of two keys; of a node. No condition. -/
namespace Go.Proofs.Ytdjclllnmclocaa
open Go.RowKit
set_option linter.unusedVariables false
set_option linter.unusedSimpArgs false

theorem rdl_blkA {w : World} {g t n : Nat} {xs : List Int} (hb : Blk w g t (numsA .u8 xs)) (hn : xs.length = n) (h1 : B8 xs) (h2 : n ≤ 1000) : RdL tByte w (fun _ => True) (.slice (some ⟨g, 0, none⟩) n n) xs := by
  subst hn
  refine ⟨_, _, rfl, Nat.le_refl _, by omega, ⟨by rw [flat_bytes, nums_length]; exact (Nat.mul_one _).symm, fun _ => ⟨g, 0, rfl, trivial, fun j u hu => ?_⟩⟩, h1⟩
  rw [hb.cell, Nat.zero_add]
  rw [flat_bytes] at hu
  simpa [numsA] using hu
set_option maxHeartbeats 4000000 in
set_option maxRecDepth 100000 in
theorem pairKey_any (t : Int) (ht : 0 ≤ t ∧ t ≤ 255) (a b : List Int) (ha : K32 a) (hb : K32 b) (w : World) :
    Calls Try.prog 22 #[.int .u8 t, .agg (numsA .u8 a), .agg (numsA .u8 b)] w fun e w' => e = .returned (.agg (numsA .u8 (hashL t (a ++ b)))) ∧ Ext w w' := by
  have HA := Lib.hid ha
  have HB := Lib.hid hb
  have hk := (hashL_ok t (a ++ b)).1
  have hab : (a ++ b).length = 64 := by rw [List.length_append, ha.1, hb.1]
  have HAB := Lib.hid hab
  have HKS := Lib.hid hk
  clear ha hb hab hk
  obtain ⟨k, hk⟩ : ∃ k, hashL t (a ++ b) = k := ⟨_, rfl⟩
  have HK := Lib.hid hk
  rw [hk] at HKS ⊢
  clear hk
  have hzA : (Try.prog.info? 28).map (·.zero) = some (some (.agg (numsA .u8 (List.replicate 32 0)))) := by kernel_rfl
  have hzs : (numsA .u8 (List.replicate 32 0)).size = 32 := by simp [numsA, nums]
  generalize numsA .u8 (List.replicate 32 0) = Z at hzA hzs
  have HZS := Lib.hid hzs
  clear hzs
  go_enter Try.func22, Try.ntmps22
  go_wp2_with (refine wpl_alloc Z hzA rfl rfl ?_)
  have BA := Lib.hid (((Blk.new w 28 (numsA .u8 a)).alloc (.cells (numsA .u8 b) 28)).alloc (.cells Z 28))
  have BB := Lib.hid ((Blk.new' (g := w.heap.size + 1) (w := w.alloc (.cells (numsA .u8 a) 28)) (by simp) 28 (numsA .u8 b)).alloc (.cells Z 28))
  have BR := Lib.hid (Blk.new' (g := w.heap.size + 2) (w := (w.alloc (.cells (numsA .u8 a) 28)).alloc (.cells (numsA .u8 b) 28)) (by simp) 28 Z)
  have HX := Lib.hid (((ext_alloc w (.cells (numsA .u8 a) 28)).alloc (.cells (numsA .u8 b) 28)).alloc (.cells Z 28))
  clear hzA
  generalize ((w.alloc (.cells (numsA .u8 a) 28)).alloc (.cells (numsA .u8 b) 28)).alloc (.cells Z 28) = w3 at BA BB BR HX ⊢
  refine wp_region_held_drew (S := fun W => Ext w W) (by kernel_rfl) HX.out.drew (fun hHeld => ?_)
  iterate 3
    refine tkD 0 (by simp only [List.size_toArray, List.length_cons, List.length_nil]; rfl) (by simp only [List.getElem?_toArray, List.getElem?_cons_zero, List.getElem?_cons_succ]; rfl) (by kernel_rfl) (by exact fun _ _ _ h => h) (by first | (exact Or.inl ⟨by rfl, by intro w hSw; (try dsimp only at hSw); go_simp; with_reducible rfl⟩) | (exact Or.inr ⟨by rfl, by rfl⟩)) (by assumption) ?_
    try simp only [Act.put, List.setIfInBounds_toArray, List.set_cons_zero, List.set_cons_succ]
  have hE : Ext w3 w3.drew := (Ext.refl w3).drew
  replace BA := Lib.hid (BA.out.ext hE)
  replace BB := Lib.hid (BB.out.ext hE)
  replace BR := Lib.hid (BR.out.ext hE)
  clear hE
  generalize w3.drew = w4 at hHeld BA BB BR ⊢
  refine wpAnyH_ready (rs := [3]) (by kernel_rfl) (by simp) (AllReadyH.cons (o := ?oy43) ?hy43 (fun K hK => ?sy43) AllReadyH.nil)
  case hy43 => simp only [List.getElem?_toArray, List.getElem?_cons_zero, List.getElem?_cons_succ]; rfl
  go_simp
  have hE := ext_alloc w4 (.cells #[.slice (some ⟨w.heap.size, 0, none⟩) 32 32, .slice (some ⟨w.heap.size + 1, 0, none⟩) 32 32] 22)
  have BA5 := Lib.hid (BA.out.ext hE)
  have BB5 := Lib.hid (BB.out.ext hE)
  have BR5 := Lib.hid (BR.out.ext hE)
  have BS5 := Lib.hid (Blk.new w4 22 #[.slice (some ⟨w.heap.size, 0, none⟩) 32 32, .slice (some ⟨w.heap.size + 1, 0, none⟩) 32 32])
  have hH2 := hHeld.trans hE
  refine hK.out _ _ hH2 (fun _ => ?_)
  clear hHeld hK K BA BB BR hE
  have hHeld := hH2
  clear hH2
  generalize w4.alloc (.cells #[.slice (some ⟨w.heap.size, 0, none⟩) 32 32, .slice (some ⟨w.heap.size + 1, 0, none⟩) 32 32] 22) = w5 at hHeld BA5 BB5 BR5 BS5 ⊢
  try simp only [Act.put, List.setIfInBounds_toArray, List.set_cons_zero, List.set_cons_succ]
  refine wpAnyH_ready (rs := [4]) (by kernel_rfl) (by simp) (AllReadyH.cons (o := ?oy54) ?hy54 (fun K hK => ?sy54) AllReadyH.nil)
  case hy54 => simp only [List.getElem?_toArray, List.getElem?_cons_zero, List.getElem?_cons_succ]; rfl
  go_simp
  refine (concat2_any w4.heap.size 0 _ _ a b _ _ _ (rdl_blkA BA5.out HA.out.1 HA.out.2 (by omega)) (rdl_blkA BB5.out HB.out.1 HB.out.2 (by omega)) (by have := HA.out.1; omega) (by have h1 := HA.out.1; have h2 := HB.out.1; omega) (BS5.out.at_ 0 rfl) (BS5.out.at_ 1 rfl)).mono ?_
  rintro e w6 ⟨v6, rfl, ho, hx⟩
  obtain ⟨A6, n6, c6, rfl⟩ := ho.shape3
  have HO6 := Lib.hid ho
  have BR6 := Lib.hid (BR5.out.ext hx)
  clear ho BA5 BB5 BR5 BS5
  have hH2 := hHeld.trans hx
  refine hK.out _ _ hH2 (fun _ => ?_)
  clear hHeld hK K
  have hHeld := hH2
  clear hH2
  try simp only [Act.put, List.setIfInBounds_toArray, List.set_cons_zero, List.set_cons_succ]
  refine wpAnyH_ready (rs := [5]) (by kernel_rfl) (by simp) (AllReadyH.cons (o := ?oy65) ?hy65 (fun K hK => ?sy65) AllReadyH.nil)
  case hy65 => simp only [List.getElem?_toArray, List.getElem?_cons_zero, List.getElem?_cons_succ]; rfl
  go_simp
  refine (hash_any t ht _ (a ++ b) _ _ HO6.out.rd (by have := HAB.out; omega)).mono ?_
  rintro e w7 ⟨rfl, hx⟩
  rw [HK.out]
  have BR7 := Lib.hid (BR6.out.ext hx)
  clear BR6 HO6
  have hH2 := hHeld.trans hx
  refine hK.out _ _ hH2 (fun _ => ?_)
  clear hHeld hK K
  have hHeld := hH2
  clear hH2
  try simp only [Act.put, List.setIfInBounds_toArray, List.set_cons_zero, List.set_cons_succ]
  refine wpAnyH_ready (rs := [6]) (by kernel_rfl) (by simp) (AllReadyH.cons (o := ?oy76) ?hy76 (fun K hK => ?sy76) AllReadyH.nil)
  case hy76 => simp only [List.getElem?_toArray, List.getElem?_cons_zero, List.getElem?_cons_succ]; rfl
  refine stp_storeP (off := 0) BR7.out aggKey (St.nums HKS.out) (by have := HZS.out; omega) rfl _ _ rfl rfl rfl rfl ?_
  rw [splice_all _ _ (by rw [Array.length_toList, HZS.out, (St.nums (k := .u8) HKS.out).size])]
  have e9 : (numsA .u8 k).toList.toArray = numsA .u8 k := by simp
  rw [e9]
  have HX8 := Lib.hid (hHeld.setRow (g := w.heap.size + 2) (by omega) (numsA .u8 k))
  have BR8 := Lib.hid (BR7.out.setRow (numsA .u8 k))
  refine hK.out _ _ HX8.out (fun _ => ?_)
  clear hHeld hK K e9
  try simp only [Act.put, List.setIfInBounds_toArray, List.set_cons_zero, List.set_cons_succ]
  refine wpAnyH_done (by kernel_rfl) ?_ _
  go_wp2_with fail
  refine bodyPost_ret (results_blk rfl _ rfl aggKey HKS.out BR8.out) rfl ?_
  exact ⟨rfl, HX8.out⟩
end Go.Proofs.Ytdjclllnmclocaa
/- Blobs: what the laws, the reference and the program say of one. No condition. -/
namespace Go.Proofs.Ytdjclllnmclocaa
open Go.RowKit
set_option linter.unusedVariables false
set_option linter.unusedSimpArgs false


/-! ### a valid blob -/

end Go.Proofs.Ytdjclllnmclocaa
/- Whether two blobs are equal: the reference and the program. No condition. -/
namespace Go.Proofs.Ytdjclllnmclocaa
open Go.RowKit
set_option linter.unusedVariables false
set_option linter.unusedSimpArgs false

theorem conv_str {v : Value} {xs : List Int} {w : World} {S : Nat → Prop} (h : RdL tByte w S v xs) : (convert 22 9 v).run Try.prog w = .ok (.string (strOfNums xs)) w := by
  obtain ⟨A, cap, rfl, hcap, hlen, hrd, hok⟩ := h
  rw [flat_bytes] at hrd
  rcases Nat.eq_zero_or_pos xs.length with h0 | h0
  · obtain rfl : xs = [] := List.eq_nil_of_length_eq_zero h0
    rw [run_convert_bytes_string w _ _ _ A _ cap Try.underlying22 Try.underlying5 Try.underlying9]
    cases A <;> simp [Conv.bytesToString, loadCells] <;> rfl
  · obtain ⟨g, o, rfl, _, hc⟩ := hrd.2 h0
    exact run_convert_bytes_arg w _ _ Try.underlying22 Try.underlying5 g o xs.length cap xs rfl (fun i hi => hc i _ (nums_at _ _ _ hi)) _ Try.underlying9

end Go.Proofs.Ytdjclllnmclocaa
/- The key of a list: the program. No condition. -/
namespace Go.Proofs.Ytdjclllnmclocaa
open Go.RowKit
set_option linter.unusedVariables false
set_option linter.unusedSimpArgs false

end Go.Proofs.Ytdjclllnmclocaa
/- Ones of a number; halves of a number. No condition. -/
namespace Go.Proofs.Ytdjclllnmclocaa
open Go.RowKit
set_option linter.unusedVariables false
set_option linter.unusedSimpArgs false
end Go.Proofs.Ytdjclllnmclocaa
/- Rows of keys, key by key: read out of an owned row, written, shut again; struck runs of equal keys. No condition. -/
namespace Go.Proofs.Ytdjclllnmclocaa
open Go.RowKit
set_option linter.unusedVariables false
set_option linter.unusedSimpArgs false

end Go.Proofs.Ytdjclllnmclocaa
/- A copy of a list of keys: the program. No condition. -/
namespace Go.Proofs.Ytdjclllnmclocaa
open Go.RowKit
set_option linter.unusedVariables false
set_option linter.unusedSimpArgs false

end Go.Proofs.Ytdjclllnmclocaa
/- The peaks of a list: the program. No condition. -/
namespace Go.Proofs.Ytdjclllnmclocaa
open Go.RowKit
set_option linter.unusedVariables false
set_option linter.unusedSimpArgs false

theorem yields_loadBSP {P : Program} {ops : Array Oper} {o : Oper} {a : Act} {S : World → Prop} {t g e n : Nat} {cs : Array Value} (hb : ∀ W, S W → Blk W g e cs) (ht : Agg P t n) (hn : cs.size = n) (hw : Region.wanted o (yielded ops a.tmps) = true) (x : Operand) (ho : o.op = .load t x) (hx : a.eval x = .pointer (some ⟨g, 0, none⟩)) :
    YieldsIf P ops S o (.agg cs) a := Or.inl ⟨hw, fun W hW => by
  unfold execOp
  simp only [ho, hx, Instr.loadAt, Instr.sureAddr, Sem.run_bind, Sem.run_pure, Result.andThen_ok, run_loadB (hb W hW) ht hn]⟩
end Go.Proofs.Ytdjclllnmclocaa
/- Peaks and keys with codes; a further leaf: the program. No condition. -/
namespace Go.Proofs.Ytdjclllnmclocaa
open Go.RowKit
set_option linter.unusedVariables false
set_option linter.unusedSimpArgs false

theorem results_kc {P : Program} {w : World} {fn : Func} {c d : Tmp} {t g e n : Nat} {cs : Array Value} (hr : fn.results = #[.cell c t, .tmp d]) (tmps : Array Value) (hp : tmps.getD c undef = .pointer (some ⟨g, 0, none⟩)) (ht : Agg P t n) (hn : cs.size = n) (hb : Blk w g e cs) {v : Value} (hv : tmps.getD d undef = v) :
    (results fn tmps).run P w = .ok (.tuple #[.agg cs, v]) w := results_blkB2 hr tmps hp ht hn hb hv
end Go.Proofs.Ytdjclllnmclocaa
/- The program's functions of keys: their texts, read back, exclusive-or, shared bits. No condition. -/
namespace Go.Proofs.Ytdjclllnmclocaa
open Go.RowKit
set_option linter.unusedVariables false
set_option linter.unusedSimpArgs false

/-- the digits -/
abbrev D16 : ByteArray := { data := #[48, 49, 50, 51, 52, 53, 54, 55, 56, 57, 97, 98, 99, 100, 101, 102] }
theorem fin16 {n : Int} (h : 0 ≤ n ∧ n ≤ 15) : ∃ k : Fin 16, n = (k.1 : Int) := ⟨⟨n.toNat, by omega⟩, by show n = (n.toNat : Int); omega⟩
theorem run_idxS (s : ByteArray) (k : IntKind) (i : Nat) (hi : i < s.size) (W : World) : (Instr.index 9 (.string s) (.int k i)).run Try.prog W = .ok (.int .u8 (s.data.toList.getD i 0).toNat) W := by
  rw [run_index_string W _ s k i Try.underlying9]
  rw [dif_pos (by omega)]
  simp only [bytes_getD, Int.toNat_natCast]
theorem run_digit {n : Int} (h : 0 ≤ n ∧ n ≤ 15) (k : IntKind) (W : World) : (Instr.index 9 (.string D16) (.int k n)).run Try.prog W = .ok (.int .u8 (hexD n)) W := by
  obtain ⟨q, rfl⟩ := fin16 h
  rw [run_idxS D16 k q.1 q.2 W]
  have key : ∀ q : Fin 16, ((D16.data.toList.getD q.1 0).toNat : Int) = hexD (q.1 : Int) := by decide
  rw [key q]
theorem run_textAt (k : List Int) (hb : B8 k) (i : Nat) (hi : i < (textK k).length) (W : World) : (Instr.index 9 (.string (strOfNums (textK k))) (.int .i64 i)).run Try.prog W = .ok (.int .u8 (gI (textK k) i)) W := by
  rw [run_idxS _ _ _ (by rw [strOfNums_size]; exact hi), strOfNums_data]
  have h1 := (textK_ok hb).get i
  rw [List.getD_eq_getElem?_getD, List.getElem?_map, List.getElem?_eq_getElem hi, ← gI_lt hi]
  simp
  omega
theorem firstIdx_dig {n : Int} (h : 0 ≤ n ∧ n ≤ 15) : firstIdx D16 (hexD n).toNat.toUInt8 = n := by
  obtain ⟨q, rfl⟩ := fin16 h
  have key : ∀ q : Fin 16, firstIdx D16 (hexD (q.1 : Int)).toNat.toUInt8 = (q.1 : Int) := by decide
  exact key q
theorem and15 {b : Int} (h : 0 ≤ b ∧ b ≤ 255) : bits .and .u8 b 15 = b % 16 := by
  obtain ⟨a, rfl, ha⟩ := byteN h
  have key : ∀ a : Fin 256, bits .and .u8 ((a.1 : Nat) : Int) 15 = ((a.1 : Nat) : Int) % 16 := by decide +kernel
  exact key ⟨a, ha⟩
set_option maxHeartbeats 1000000 in
set_option maxRecDepth 100000 in
theorem idxLite_any (n : Int) (h : 0 ≤ n ∧ n ≤ 15) (w : World) : Calls Try.prog 91 #[.string D16, .int .u8 (hexD n)] w fun e w' => e = .returned (.int .i64 n) ∧ w = w' := by
  have hx : ∀ W, (callFunc 108 #[.string D16, .int .u8 (hexD n)]).run Try.prog W = .ok (.value (.int .i64 n)) W := fun W => by
    rw [run_callFunc_extern Try.func108 (by kernel_rfl) (by kernel_rfl) (by kernel_rfl) (e := Extern.BytealgIndexByte.indexByte) (by kernel_rfl), run_indexByte_string, firstIdx_dig h]
    rfl
  go_enter Try.func91, Try.ntmps91
  go_wp2
  go_ret
  exact ⟨rfl, rfl⟩
set_option maxHeartbeats 1000000 in
set_option maxRecDepth 100000 in
theorem idxByte_any (n : Int) (h : 0 ≤ n ∧ n ≤ 15) (w : World) : Calls Try.prog 62 #[.string D16, .int .u8 (hexD n)] w fun e w' => e = .returned (.int .i64 n) ∧ w = w' := by
  have hc := fun W => idxLite_any n h W
  generalize hexD n = c at hc ⊢
  go_enter Try.func62, Try.ntmps62
  go_wp2_with fail
  refine (hc _).mono ?_
  rintro e w' ⟨rfl, rfl⟩
  go_wp2
  go_ret
  exact ⟨rfl, rfl⟩
set_option maxHeartbeats 1000000 in
set_option maxRecDepth 100000 in
theorem isDigits_any (t : List Int) (ht : ∀ c ∈ t, ∃ n, 0 ≤ n ∧ n ≤ 15 ∧ c = hexD n) (hl : t.length ≤ 1000) (w : World) : Calls Try.prog 61 #[.string (strOfNums t)] w fun e w' => e = .returned (.bool true) ∧ w = w' := by
  have hat : ∀ i (hi : i < t.length) W, (Instr.index 9 (.string (strOfNums t)) (.int .i64 i)).run Try.prog W = .ok (.int .u8 t[i]) W := fun i hi W => by
    rw [run_idxS _ _ _ (by rw [strOfNums_size]; exact hi), strOfNums_data]
    obtain ⟨n, h0, h1, h2⟩ := ht _ (List.getElem_mem hi)
    have h3 := hexD_ok ⟨h0, h1⟩
    rw [List.getD_eq_getElem?_getD, List.getElem?_map, List.getElem?_eq_getElem hi, h2]
    simp
    omega
  have HAT := Lib.hid hat
  have HT := Lib.hid ht
  have hsz := strOfNums_size t
  obtain ⟨n, hn⟩ : ∃ n, t.length = n := ⟨_, rfl⟩
  have HN := Lib.hid hn
  rw [hn] at hsz
  generalize strOfNums t = T at HAT hsz ⊢
  have hn9 : n ≤ 1000 := by omega
  clear hat ht hl hn
  go_enter Try.func61, Try.ntmps61
  go_wp2
  go_loopw [3, 6] (fun _ i wr => ∃ k : Nat, k ≤ n ∧ i = .int .i64 k ∧ wr = w) (fun _ i _ => n - (intOf i).toNat)
  case atStart => exact ⟨0, by omega, rfl, rfl⟩
  case round =>
    obtain ⟨k, hk, rfl, rfl⟩ := hrel
    by_cases hlt : k < n
    · have hkI : (k : Int) < (n : Int) := by omega
      have hk0 : (0 : Int) ≤ (k : Int) := by omega
      have hi := HAT.out k (by rw [HN.out]; exact hlt)
      obtain ⟨q, h0, h1, h2⟩ := HT.out _ (List.getElem_mem (show k < t.length by rw [HN.out]; exact hlt))
      have hc := idxByte_any q ⟨h0, h1⟩
      rw [h2] at hi
      generalize hexD q = c at hi hc
      clear h2
      have HC := Lib.hid hc
      clear hc
      go_wp2_with fail
      refine (HC.out _).mono ?_
      rintro e w' ⟨rfl, rfl⟩
      have hq : ¬ q < 0 := by omega
      go_wp2
      go_roundw
      case rel => exact ⟨k + 1, by omega, by go_num, by simp⟩
      case measure => simp [intOf]; omega
    · obtain rfl : k = n := by omega
      go_wp2
      go_ret
      exact ⟨rfl, rfl⟩
theorem rd_two8 {w : World} {a b : Int} (ha : 0 ≤ a ∧ a ≤ 255) (hb : 0 ≤ b ∧ b ≤ 255) (t : TypeId) : Rd (w.alloc (.cells #[.int .u8 a, .int .u8 b] t)) (fun _ => True) tByte.sz (some ⟨w.heap.size, 0, none⟩) [a, b].length ([a, b].flatMap tByte.enc) := by
  refine ⟨rfl, fun _ => ⟨_, 0, rfl, trivial, fun j u hu => ?_⟩⟩
  rw [Nat.zero_add, (Blk.new w t _).cell]
  simpa [tByte] using hu
set_option maxHeartbeats 1000000 in
set_option maxRecDepth 100000 in
theorem keyText_any (k : List Int) (hk : K32 k) (w : World) : Calls Try.prog 24 #[.agg (numsA .u8 k)] w fun e w' => e = .returned (.string (strOfNums (textK k))) ∧ Ext w w' := by
  have hks := sizeN (k := .u8) hk.1
  have HK := Lib.hid hk
  have B0 := Lib.hid (Blk.new w 28 (numsA .u8 k))
  go_enter Try.func24, Try.ntmps24
  go_wp2_with (refine wpl_loadB ((Blk.new w 28 (numsA .u8 k)).alloc _) aggKey hks rfl _ rfl rfl ?_)
  go_loopw [3, 5, 8] (fun o _ i wr => ∃ q : Nat, q ≤ 32 ∧ i = .int .i64 q ∧ Own tByte 5 wr w.heap.size o (textK (k.take q)) ∧ Ext w wr) (fun _ _ i _ => 32 - (intOf i).toNat)
  case atStart => exact ⟨0, by omega, rfl, by rw [List.take_zero, textK_nil]; exact Own.empty' tByte (by simp) _ _ (by simp), (ext_alloc _ _).alloc _⟩
  case round =>
    obtain ⟨q, hq, rfl, ho, hx⟩ := hrel
    obtain ⟨C, cn, cc, rfl⟩ := ho.shape3
    have HX := Lib.hid hx
    have HO := Lib.hid ho
    clear hx ho B0
    by_cases hlt : q < 32
    · have hqI : (q : Int) < 32 := by omega
      have hq0 : (0 : Int) ≤ (q : Int) := by omega
      have hat := numsA_at .u8 k q (by rw [HK.out.1]; exact hlt)
      have hidx : (Instr.index 28 (.agg (numsA .u8 k)) (.int .i64 q)).run Try.prog wr = .ok (.int .u8 (gI k q)) wr := by
        have h1 : (isAgg 5).run Try.prog wr = .ok false wr := by kernel_rfl
        have h2 : (sizeOf 5).run Try.prog wr = .ok 1 wr := by kernel_rfl
        simp [Instr.index, asIntOf, run_underlying (show Try.prog.underlying 28 = some (.array 32 5) by kernel_rfl), hqI, hlt, part, h1, h2, hat]
      have HTS := Lib.hid (show textK (k.take (q + 1)) = textK (k.take q) ++ [hexD (gI k q / 16), hexD (gI k q % 16)] by rw [take_snoc k q (by rw [HK.out.1]; exact hlt), textK_snoc])
      have HTL := Lib.hid (show (textK (k.take q)).length ≤ 64 by rw [textK_length, List.length_take]; omega)
      have hz := HK.out.2.get q
      clear hat
      generalize gI k q = z at hidx HTS hz
      have ha := hexD_ok (n := z / 16) (by omega)
      have hb := hexD_ok (n := z % 16) (by omega)
      have hand := and15 hz
      have hd1 := fun W => run_digit (n := z / 16) (by omega) .u8 W
      have hd2 := fun W => run_digit (n := z % 16) (by omega) .u8 W
      generalize hexD (z / 16) = da at hd1 HTS ha
      generalize hexD (z % 16) = db at hd2 HTS hb
      go_wp2_with fail
      refine wp_region_held_drew (S := fun W => Ext w W) (by kernel_rfl) HX.out.drew (fun hHeld => ?_)
      iterate 7
        refine tkD 0 (by simp only [List.size_toArray, List.length_cons, List.length_nil]; rfl) (by simp only [List.getElem?_toArray, List.getElem?_cons_zero, List.getElem?_cons_succ]; rfl) (by kernel_rfl) (by exact fun _ _ _ h => h) (by first | (exact Or.inl ⟨by rfl, by intro w hSw; (try dsimp only at hSw); go_simp; with_reducible rfl⟩) | (exact Or.inr ⟨by rfl, by rfl⟩)) (by assumption) ?_
        try simp only [Act.put, List.setIfInBounds_toArray, List.set_cons_zero, List.set_cons_succ]
      refine wpAnyH_ready (rs := [7]) (by kernel_rfl) (by simp) (AllReadyH.cons (o := ?oy87) ?hy87 (fun K hK => ?sy87) AllReadyH.nil)
      case hy87 => simp only [List.getElem?_toArray, List.getElem?_cons_zero, List.getElem?_cons_succ]; rfl
      go_simp
      have hE := ext_alloc wr.drew (.cells #[.int .u8 da, .int .u8 db] 5)
      have hH2 := hHeld.trans hE
      refine hK.out _ _ hH2 (fun _ => ?_)
      clear hHeld hK K
      have hHeld := hH2
      clear hH2
      try simp only [Act.put, List.setIfInBounds_toArray, List.set_cons_zero, List.set_cons_succ]
      clear hE
      refine wpAnyH_ready (rs := [8]) (by kernel_rfl) (by simp) (AllReadyH.cons (o := ?oy98) ?hy98 (fun K hK => ?sy98) AllReadyH.nil)
      case hy98 => simp only [List.getElem?_toArray, List.getElem?_cons_zero, List.getElem?_cons_succ]; rfl
      refine stp_append rowByteA rfl _ _ rfl (v := .slice C cn cc) rfl (HO.out.drew.alloc (.cells #[.int .u8 da, .int .u8 db] 5)) _ _ rfl (ys := [da, db]) rfl (rd_two8 (by omega) (by omega) _) (by intro y hy; rcases List.mem_cons.1 hy with rfl | hy; exact ⟨by omega, by omega⟩; obtain rfl := List.mem_singleton.1 hy; exact ⟨by omega, by omega⟩) (by have := HTL.out; simp; omega) hHeld.size ?_
      intro v9 w9 ho9 hg9 hat9
      have HO9 := Lib.hid ho9
      obtain ⟨C9, n9, c9, rfl⟩ := ho9.shape3
      have hX9 := (HO.out.drew.alloc (.cells #[.int .u8 da, .int .u8 db] 5)).ext_app hHeld hg9
      clear ho9 hg9 hat9
      have hH2 := hX9
      refine hK.out _ _ hH2 (fun _ => ?_)
      clear hHeld hK K
      have hHeld := hH2
      clear hH2
      try simp only [Act.put, List.setIfInBounds_toArray, List.set_cons_zero, List.set_cons_succ]
      refine tkI 9 (by simp only [List.getElem?_toArray, List.getElem?_cons_zero, List.getElem?_cons_succ]; rfl) (by kernel_rfl) (by exact fun _ _ _ h => h) (by first | (exact Or.inl ⟨by rfl, by intro w hSw; (try dsimp only at hSw); go_simp; with_reducible rfl⟩) | (exact Or.inr ⟨by rfl, by rfl⟩)) (by assumption) ?_
      try simp only [Act.put, List.setIfInBounds_toArray, List.set_cons_zero, List.set_cons_succ]
      refine wpAnyH_done (by kernel_rfl) ?_ _
      go_wp2_with fail
      go_roundw
      case rel => exact ⟨q + 1, by omega, by go_num, by rw [HTS.out]; exact HO9.out, hHeld⟩
      case measure => simp [intOf]; omega
    · obtain rfl : q = 32 := by omega
      have hT : textK (k.take 32) = textK k := by rw [List.take_of_length_le (by rw [HK.out.1]; decide)]
      rw [hT] at HO
      have hcv := conv_str HO.out.rd
      clear hT
      obtain ⟨T, hT⟩ : ∃ T, strOfNums (textK k) = T := ⟨_, rfl⟩
      have HT := Lib.hid hT
      rw [hT] at hcv
      clear hT
      go_wp2
      go_ret
      exact ⟨by rw [HT.out]; rfl, HX.out⟩
set_option maxHeartbeats 1000000 in
set_option maxRecDepth 100000 in
theorem xorKeys_any (a b : List Int) (ha : K32 a) (hb : K32 b) (w : World) : Calls Try.prog 25 #[.agg (numsA .u8 a), .agg (numsA .u8 b)] w fun e w' => e = .returned (.agg (numsA .u8 (xorL a b))) ∧ Ext w w' := by
  have hsa := sizeN (k := .u8) ha.1
  have hsb := sizeN (k := .u8) hb.1
  have HA := Lib.hid ha
  have HB := Lib.hid hb
  have HXL := Lib.hid (fun i (h : i < 32) => xorL_at (a := a) (b := b) (by rw [ha.1, hb.1]) i (by rw [ha.1]; exact h))
  have HXO := Lib.hid (xorL_ok ha hb).1
  generalize xorL a b = X at HXL HXO ⊢
  have hzA : (Try.prog.info? 28).map (·.zero) = some (some (.agg (numsA .u8 (List.replicate 32 0)))) := by kernel_rfl
  have HZS := Lib.hid (show (numsA .u8 (List.replicate 32 0)).size = 32 by simp [numsA, nums])
  generalize numsA .u8 (List.replicate 32 0) = Z at hzA HZS
  have B0 := Lib.hid (((Blk.new w 28 (numsA .u8 a)).alloc (.cells (numsA .u8 b) 28)).alloc (.cells Z 28))
  have B1 := Lib.hid ((Blk.new' (g := w.heap.size + 1) (w := w.alloc (.cells (numsA .u8 a) 28)) (by simp) 28 (numsA .u8 b)).alloc (.cells Z 28))
  have B2 := Lib.hid (Blk.new' (g := w.heap.size + 2) (w := (w.alloc (.cells (numsA .u8 a) 28)).alloc (.cells (numsA .u8 b) 28)) (by simp) 28 Z)
  have HX := Lib.hid (((ext_alloc w (.cells (numsA .u8 a) 28)).alloc (.cells (numsA .u8 b) 28)).alloc (.cells Z 28))
  clear ha hb
  go_enter Try.func25, Try.ntmps25
  go_wp2_with (first
    | (refine wpl_alloc Z hzA rfl rfl ?_)
    | (refine wpl_loadB B1.out aggKey hsb rfl _ rfl rfl ?_))
  generalize ((w.alloc (.cells (numsA .u8 a) 28)).alloc (.cells (numsA .u8 b) 28)).alloc (.cells Z 28) = w3 at B0 B1 B2 HX ⊢
  go_loopw [5, 6, 8] (fun _ _ i wr => ∃ (q : Nat) (z : List Int), q ≤ 32 ∧ i = .int .i64 q ∧ z.length = 32 ∧ (∀ j, j < q → gI z j = xB (gI a j) (gI b j)) ∧ (∀ j, q ≤ j → gI z j = gI a j) ∧ Blk wr w.heap.size 28 (numsA .u8 z) ∧ Blk wr (w.heap.size + 2) 28 Z ∧ Ext w wr) (fun _ _ i _ => 32 - (intOf i).toNat)
  case atStart => exact ⟨0, a, by omega, rfl, HA.out.1, fun j h => by omega, fun j _ => rfl, B0.out, B2.out, HX.out⟩
  case round =>
    clear B0 B1 B2 HX
    obtain ⟨q, z, hq, rfl, hzl, hz1, hz2, hb0, hb2, hx⟩ := hrel
    have HX := Lib.hid hx
    have B0 := Lib.hid hb0
    have B2 := Lib.hid hb2
    have HZ1 := Lib.hid hz1
    have HZ2 := Lib.hid hz2
    have HZL := Lib.hid hzl
    clear hx hb0 hb2 hz1 hz2 hzl
    by_cases hlt : q < 32
    · have hqI : (q : Int) < 32 := by omega
      have hq0 : (0 : Int) ≤ (q : Int) := by omega
      have hat := numsA_at .u8 b q (by rw [HB.out.1]; exact hlt)
      have hidx : (Instr.index 28 (.agg (numsA .u8 b)) (.int .i64 q)).run Try.prog wr = .ok (.int .u8 (gI b q)) wr := by
        have h1 : (isAgg 5).run Try.prog wr = .ok false wr := by kernel_rfl
        have h2 : (sizeOf 5).run Try.prog wr = .ok 1 wr := by kernel_rfl
        simp [Instr.index, asIntOf, run_underlying (show Try.prog.underlying 28 = some (.array 32 5) by kernel_rfl), hqI, hlt, part, h1, h2, hat]
      have c0 := B0.out.num q (by rw [HZL.out]; exact hlt)
      have f0 := B0.out.free q
      rw [HZ2.out q (Nat.le_refl _)] at c0
      have hxe := xB_eq (gI a q) (gI b q)
      have BS := Lib.hid (show Blk (wr.setCell ⟨w.heap.size, q, none⟩ (.int .u8 (xB (gI a q) (gI b q)))) w.heap.size 28 (numsA .u8 (z.set q (xB (gI a q) (gI b q)))) by
        have := B0.out.set q (.int .u8 (xB (gI a q) (gI b q)))
        rwa [numsA_set] at this)
      have BS2 := Lib.hid (B2.out.far (p := ⟨w.heap.size, q, none⟩) (by show w.heap.size + 2 ≠ w.heap.size; omega) (.int .u8 (xB (gI a q) (gI b q))))
      have HXS := Lib.hid (HX.out.set (p := ⟨w.heap.size, q, none⟩) (Nat.le_refl _) (.int .u8 (xB (gI a q) (gI b q))))
      clear hat
      go_wp2
      go_roundw
      case rel =>
        refine ⟨q + 1, z.set q (xB (gI a q) (gI b q)), by omega, by go_num, by rw [List.length_set]; exact HZL.out, fun j hj => ?_, fun j hj => ?_, BS.out, BS2.out, HXS.out⟩
        · rw [gI_set _ _ _ _ (by rw [HZL.out]; exact hlt)]
          by_cases e : q = j
          · rw [if_pos e, e]
          · rw [if_neg e]; exact HZ1.out j (by omega)
        · rw [gI_set _ _ _ _ (by rw [HZL.out]; exact hlt), if_neg (by omega)]
          exact HZ2.out j (by omega)
      case measure => simp [intOf]; omega
    · obtain rfl : q = 32 := by omega
      have e : z = X := gI_ext (by rw [HZL.out, HXO.out]) (fun j hj => by rw [HZ1.out j (by rw [HZL.out] at hj; exact hj), HXL.out j (by rw [HZL.out] at hj; exact hj)])
      have HE := Lib.hid e
      have hzs := sizeN (k := .u8) HZL.out
      have hzl := HZL.out
      clear e
      go_wp2_with (first
        | (refine wpl_loadB B0.out aggKey hzs rfl _ rfl rfl ?_)
        | (refine wpl_storeN B2.out aggKey hzl HZS.out rfl _ _ rfl rfl rfl rfl ?_))
      refine bodyPost_ret (results_blk rfl _ rfl aggKey hzl (B2.out.setRow _)) rfl ?_
      exact ⟨by rw [HE.out], HX.out.setRow (by omega) _⟩
set_option maxHeartbeats 1000000 in
set_option maxRecDepth 100000 in
theorem compareKeysI_any (a b : List Int) (ha : K32 a) (hb : K32 b) (w : World) : Calls Try.prog 27 #[.agg (numsA .u8 a), .agg (numsA .u8 b)] w fun e w' => e = .returned (.int .i64 (cmpL a b)) ∧ Ext w w' := by
  have hsa := sizeN (k := .u8) ha.1
  have hsb := sizeN (k := .u8) hb.1
  have HC := Lib.hid (fun W => compareKeys_any a b ha hb W)
  have B0 := Lib.hid ((Blk.new w 28 (numsA .u8 a)).alloc (.cells (numsA .u8 b) 28))
  have B1 := Lib.hid (Blk.new' (g := w.heap.size + 1) (w := w.alloc (.cells (numsA .u8 a) 28)) (by simp) 28 (numsA .u8 b))
  have hc3 := cmpL_vals a b
  generalize cmpL a b = c at HC hc3 ⊢
  have hcw : IntKind.i64.wrap c = c := IntWalk.i64_in _ (by omega)
  clear ha hb hc3
  go_enter Try.func27, Try.ntmps27
  go_wp2_with (first
    | (refine wpl_loadB B0.out aggKey hsa rfl _ rfl rfl ?_)
    | (refine wpl_loadB B1.out aggKey hsb rfl _ rfl rfl ?_))
  refine (HC.out _).mono ?_
  rintro e w1 ⟨rfl, hx⟩
  have HX := Lib.hid (((ext_alloc w (.cells (numsA .u8 a) 28)).alloc (.cells (numsA .u8 b) 28)).trans hx)
  clear hx
  go_wp2
  go_ret
  exact ⟨rfl, HX.out⟩
set_option maxHeartbeats 1000000 in
set_option maxRecDepth 100000 in
theorem len8_any (x : Nat) (hx : x ≤ 255) (w : World) : Calls Try.prog 92 #[.int .u8 x] w fun e w' => e = .returned (.int .i64 (lenT x)) ∧ w = w' := by
  have h5 : (x : Int) < 256 := by omega
  have h6 : (0 : Int) ≤ (x : Int) := by omega
  go_enter Try.func92, Try.ntmps92
  go_wp2
  go_ret
  refine ⟨ret_int ?_, rfl⟩
  simp only [bytes_getD]
  obtain ⟨y, rfl⟩ : ∃ y : Fin 256, x = y.1 := ⟨⟨x, by omega⟩, rfl⟩
  clear h5 h6 hx w
  revert y
  decide +kernel
theorem lenT_le (x : Nat) (hx : x ≤ 255) : lenT x ≤ 8 := by
  have key : ∀ y : Fin 256, lenT y.1 ≤ 8 := by decide +kernel
  exact key ⟨x, by omega⟩
set_option maxHeartbeats 1000000 in
set_option maxRecDepth 100000 in
theorem lz8_any (z : Int) (hz : 0 ≤ z ∧ z ≤ 255) (w : World) : Calls Try.prog 63 #[.int .u8 z] w fun e w' => e = .returned (.int .i64 (lzB z : Nat)) ∧ w = w' := by
  obtain ⟨x, rfl, hx⟩ := byteN hz
  have hc := fun W => len8_any x (by omega) W
  have hle := lenT_le x (by omega)
  have HE := Lib.hid (show ((lzB (x : Int) : Nat) : Int) = 8 - (lenT x : Int) by unfold lzB; rw [Int.toNat_natCast]; omega)
  generalize lenT x = L at hc hle HE
  have hw : IntKind.i64.wrap (8 - (L : Int)) = 8 - (L : Int) := IntWalk.i64_in _ (by omega)
  go_enter Try.func63, Try.ntmps63
  go_wp2_with fail
  refine (hc _).mono ?_
  rintro e w' ⟨rfl, rfl⟩
  go_wp2
  go_ret
  exact ⟨ret_int HE.out.symm, rfl⟩
set_option maxHeartbeats 1000000 in
set_option maxRecDepth 100000 in
theorem commonBits_any (a b : List Int) (ha : K32 a) (hb : K32 b) (w : World) : Calls Try.prog 26 #[.agg (numsA .u8 a), .agg (numsA .u8 b)] w fun e w' => e = .returned (.int .i64 (cbL a b : Nat)) ∧ Ext w w' := by
  have hsa := sizeN (k := .u8) ha.1
  have hsb := sizeN (k := .u8) hb.1
  have HC := Lib.hid (fun W => xorKeys_any a b ha hb W)
  have B0 := Lib.hid ((Blk.new w 28 (numsA .u8 a)).alloc (.cells (numsA .u8 b) 28))
  have B1 := Lib.hid (Blk.new' (g := w.heap.size + 1) (w := w.alloc (.cells (numsA .u8 a) 28)) (by simp) 28 (numsA .u8 b))
  have HXO := Lib.hid (xorL_ok ha hb)
  rw [cbL_eq]
  generalize xorL a b = X at HC HXO ⊢
  clear ha hb
  go_enter Try.func26, Try.ntmps26
  go_wp2_with (first
    | (refine wpl_loadB B0.out aggKey hsa rfl _ rfl rfl ?_)
    | (refine wpl_loadB B1.out aggKey hsb rfl _ rfl rfl ?_))
  refine (HC.out _).mono ?_
  rintro e w1 ⟨rfl, hx⟩
  have HX1 := Lib.hid (((ext_alloc w (.cells (numsA .u8 a) 28)).alloc (.cells (numsA .u8 b) 28)).trans hx)
  clear hx HC B0 B1
  go_wp2_with fail
  go_loopw [5, 6, 10] (fun _ _ i wr => ∃ q : Nat, q ≤ 32 ∧ i = .int .i64 q ∧ (∀ j, j < q → gI X j = 0) ∧ wr = w1) (fun _ _ i _ => 32 - (intOf i).toNat)
  case atStart => exact ⟨0, by omega, rfl, fun j h => by omega, rfl⟩
  case round =>
    obtain ⟨q, hq, rfl, h0, rfl⟩ := hrel
    have H0 := Lib.hid h0
    clear h0
    by_cases hlt : q < 32
    · have hqI : (q : Int) < 32 := by omega
      have hq0 : (0 : Int) ≤ (q : Int) := by omega
      have hat := numsA_at .u8 X q (by rw [HXO.out.1]; exact hlt)
      have hidx : (Instr.index 28 (.agg (numsA .u8 X)) (.int .i64 q)).run Try.prog wr = .ok (.int .u8 (gI X q)) wr := by
        have h1 : (isAgg 5).run Try.prog wr = .ok false wr := by kernel_rfl
        have h2 : (sizeOf 5).run Try.prog wr = .ok 1 wr := by kernel_rfl
        simp [Instr.index, asIntOf, run_underlying (show Try.prog.underlying 28 = some (.array 32 5) by kernel_rfl), hqI, hlt, part, h1, h2, hat]
      clear hat
      by_cases hz : gI X q = 0
      · have HZ := Lib.hid hz
        rw [hz] at hidx
        clear hz
        go_wp2
        go_roundw
        case rel => exact ⟨q + 1, by omega, by go_num, fun j hj => by
          by_cases e : j = q
          · rw [e]; exact HZ.out
          · exact H0.out j (by omega), by simp⟩
        case measure => simp [intOf]; omega
      · have HR := Lib.hid (cbN_at X q (by rw [HXO.out.1]; exact hlt) H0.out hz)
        have HLZ := Lib.hid (fun W => lz8_any (gI X q) (HXO.out.2.get q) W)
        have hle : lzB (gI X q) ≤ 8 := by unfold lzB; omega
        have hzb : (gI X q != 0) = true := by rw [bne_iff_ne]; exact hz
        generalize gI X q = z at hidx HR HLZ hle hzb
        generalize lzB z = L at HR HLZ hle
        have hw1 : IntKind.i64.wrap (8 * (q : Int)) = 8 * (q : Int) := IntWalk.i64_in _ (by omega)
        have hw2 : IntKind.i64.wrap (8 * (q : Int) + (L : Int)) = 8 * (q : Int) + (L : Int) := IntWalk.i64_in _ (by omega)
        clear hz
        go_wp2_with fail
        refine (HLZ.out _).mono ?_
        rintro e w' ⟨rfl, rfl⟩
        go_wp2
        go_ret
        exact ⟨ret_int (by rw [HR.out]; omega), HX1.out⟩
    · obtain rfl : q = 32 := by omega
      have HR := Lib.hid (cbN_zero X (fun j hj => H0.out j (by rw [HXO.out.1] at hj; exact hj)))
      have HL := Lib.hid HXO.out.1
      go_wp2
      go_ret
      exact ⟨ret_int (by rw [HR.out, HL.out]; rfl), HX1.out⟩
set_option maxHeartbeats 2000000 in
set_option maxRecDepth 100000 in
theorem readKey_any (k : List Int) (hk : K32 k) (w : World) : Calls Try.prog 23 #[.string (strOfNums (textK k))] w fun e w' => e = .returned (.tuple #[.agg (numsA .u8 k), .int .i64 0]) ∧ Ext w w' := by
  have hks := sizeN (k := .u8) hk.1
  have hkl := hk.1
  have HK := Lib.hid hk
  have htl : (textK k).length = 64 := by rw [textK_length, hk.1]
  have HDG := Lib.hid (fun W => isDigits_any (textK k) (textK_dig hk.2) (by omega) W)
  have HAT := Lib.hid (fun i (hi : i < 32) => textK_at k i (by rw [hkl]; exact hi))
  have hsz : (strOfNums (textK k)).size = 64 := by rw [strOfNums_size, htl]
  have HIX := Lib.hid (fun i (hi : i < 64) W => run_textAt k hk.2 i (by rw [htl]; exact hi) W)
  generalize strOfNums (textK k) = T at HDG hsz HIX ⊢
  have HZK := Lib.hid (show K32 (List.replicate 32 (0 : Int)) from zero_ok)
  have hzA : (Try.prog.info? 28).map (·.zero) = some (some (.agg (numsA .u8 (List.replicate 32 0)))) := by kernel_rfl
  have hbz := built_zeroA
  have hzl : (List.replicate 32 (0 : Int)).length = 32 := by simp
  generalize List.replicate 32 (0 : Int) = Z at hzA hbz hzl HZK
  have hzst := St.nums (k := .u8) hzl
  have HZS := Lib.hid (sizeN (k := .u8) hzl)
  clear hk htl
  go_enter Try.func23, Try.ntmps23
  go_wp2_with (refine wpl_alloc (numsA .u8 Z) hzA rfl rfl ?_)
  refine (HDG.out _).mono ?_
  rintro e w' ⟨rfl, rfl⟩
  have BR := Lib.hid ((Blk.new w 28 (numsA .u8 Z)).alloc (.cells (numsA .u8 Z) 28))
  have BK := Lib.hid (Blk.new' (g := w.heap.size + 1) (w := w.alloc (.cells (numsA .u8 Z) 28)) (by simp) 28 (numsA .u8 Z))
  have HX := Lib.hid ((ext_alloc w (.cells (numsA .u8 Z) 28)).alloc (.cells (numsA .u8 Z) 28))
  clear HDG
  go_wp2_with (first
    | (refine wpl_buildN rfl rfl hbz ?_)
    | (refine wpl_alloc (numsA .u8 Z) hzA rfl rfl ?_)
    | (refine wpl_storeNewB aggKey hzst HZS.out rfl _ _ rfl rfl rfl rfl ?_))
  generalize (w.alloc (.cells (numsA .u8 Z) 28)).alloc (.cells (numsA .u8 Z) 28) = w3 at BR BK HX ⊢
  go_loopw [5, 16] (fun _ i wr => ∃ (q : Nat) (z : List Int), q ≤ 32 ∧ i = .int .i64 q ∧ z.length = 32 ∧ (∀ j, j < q → gI z j = gI k j) ∧ Blk wr w.heap.size 28 (numsA .u8 Z) ∧ Blk wr (w.heap.size + 1) 28 (numsA .u8 z) ∧ Ext w wr) (fun _ i _ => 32 - (intOf i).toNat)
  case atStart => exact ⟨0, Z, by omega, rfl, hzl, fun j h => by omega, BR.out, BK.out, HX.out⟩
  case round =>
    clear BR BK HX
    obtain ⟨q, z, hq, rfl, hzl, hz1, hbr, hbk, hx⟩ := hrel
    have HX := Lib.hid hx
    have BR := Lib.hid hbr
    have BK := Lib.hid hbk
    have HZ1 := Lib.hid hz1
    have HZL := Lib.hid hzl
    clear hx hbr hbk hz1 hzl
    by_cases hlt : q < 32
    · have hqI : (q : Int) < 32 := by omega
      have hq0 : (0 : Int) ≤ (q : Int) := by omega
      obtain ⟨t0, t1⟩ := HAT.out q hlt
      have i0 := HIX.out (2 * q) (by omega)
      have i1 := HIX.out (2 * q + 1) (by omega)
      rw [t0] at i0
      rw [t1] at i1
      have hz := HK.out.2.get q
      have HI0 := Lib.hid (fun W => idxByte_any (gI k q / 16) (by omega) W)
      have HI1 := Lib.hid (fun W => idxByte_any (gI k q % 16) (by omega) W)
      obtain ⟨y, hy⟩ : ∃ y, gI k q = y := ⟨_, rfl⟩
      have HY := Lib.hid hy
      rw [hy] at i0 i1 hz HI0 HI1
      clear hy t0 t1
      have p1 : ((2 * q : Nat) : Int) = 2 * (q : Int) := by omega
      have p2 : ((2 * q + 1 : Nat) : Int) = 2 * (q : Int) + 1 := by omega
      rw [p1] at i0
      rw [p2] at i1
      generalize hexD (y / 16) = da at i0 HI0
      generalize hexD (y % 16) = db at i1 HI1
      have m1 : IntKind.i64.wrap (2 * (q : Int)) = 2 * (q : Int) := IntWalk.i64_in _ (by omega)
      have m2 : IntKind.i64.wrap (2 * (q : Int) + 1) = 2 * (q : Int) + 1 := IntWalk.i64_in _ (by omega)
      have m3 : IntKind.i64.wrap (16 * (y / 16)) = 16 * (y / 16) := IntWalk.i64_in _ (by omega)
      have m4 : IntKind.i64.wrap (16 * (y / 16) + y % 16) = y := by rw [IntWalk.i64_in _ (by omega)]; omega
      have m5 : IntKind.u8.wrap y = y := u8_inP _ hz.1 hz.2
      clear p1 p2
      go_wp2_with fail
      refine wp_region_f [16] (S := fun W => Ext wr W) (by kernel_rfl) (Ext.refl _).drew (fun hHeld => ?_)
      refine wpF_take (i := 0) (oi := ?oiz11) (v := ?vz11) ?hiz11 (by kernel_rfl) (by kernel_rfl) (by kernel_rfl) (by kernel_rfl) ?hQz11 ?hyz11 (by assumption) ?restz11
      case hiz11 => simp only [List.getElem?_toArray, List.getElem?_cons_zero, List.getElem?_cons_succ]; rfl
      case hQz11 => exact fun _ _ _ h => h
      case hyz11 => exact Or.inl ⟨by rfl, by intro w hSw; (try dsimp only at hSw); go_simp; with_reducible rfl⟩
      try simp only [Act.put, List.setIfInBounds_toArray, List.set_cons_zero, List.set_cons_succ]
      refine wpF_take (i := 1) (oi := ?oiz12) (v := ?vz12) ?hiz12 (by kernel_rfl) (by kernel_rfl) (by kernel_rfl) (by kernel_rfl) ?hQz12 ?hyz12 (by assumption) ?restz12
      case hiz12 => simp only [List.getElem?_toArray, List.getElem?_cons_zero, List.getElem?_cons_succ]; rfl
      case hQz12 => exact fun _ _ _ h => h
      case hyz12 => exact Or.inl ⟨by rfl, by intro w hSw; (try dsimp only at hSw); go_simp; with_reducible rfl⟩
      try simp only [Act.put, List.setIfInBounds_toArray, List.set_cons_zero, List.set_cons_succ]
      refine wpF_take (i := 2) (oi := ?oiz13) (v := ?vz13) ?hiz13 (by kernel_rfl) (by kernel_rfl) (by kernel_rfl) (by kernel_rfl) ?hQz13 ?hyz13 (by assumption) ?restz13
      case hiz13 => simp only [List.getElem?_toArray, List.getElem?_cons_zero, List.getElem?_cons_succ]; rfl
      case hQz13 => exact fun _ _ _ h => h
      case hyz13 => exact Or.inl ⟨by rfl, by intro w hSw; (try dsimp only at hSw); go_simp; with_reducible rfl⟩
      try simp only [Act.put, List.setIfInBounds_toArray, List.set_cons_zero, List.set_cons_succ]
      refine wpF_take (i := 3) (oi := ?oiz14) (v := ?vz14) ?hiz14 (by kernel_rfl) (by kernel_rfl) (by kernel_rfl) (by kernel_rfl) ?hQz14 ?hyz14 (by assumption) ?restz14
      case hiz14 => simp only [List.getElem?_toArray, List.getElem?_cons_zero, List.getElem?_cons_succ]; rfl
      case hQz14 => exact fun _ _ _ h => h
      case hyz14 => exact Or.inl ⟨by rfl, by intro w hSw; (try dsimp only at hSw); go_simp; with_reducible rfl⟩
      try simp only [Act.put, List.setIfInBounds_toArray, List.set_cons_zero, List.set_cons_succ]
      refine wpF_take (i := 4) (oi := ?oiz15) (v := ?vz15) ?hiz15 (by kernel_rfl) (by kernel_rfl) (by kernel_rfl) (by kernel_rfl) ?hQz15 ?hyz15 (by assumption) ?restz15
      case hiz15 => simp only [List.getElem?_toArray, List.getElem?_cons_zero, List.getElem?_cons_succ]; rfl
      case hQz15 => exact fun _ _ _ h => h
      case hyz15 => exact Or.inl ⟨by rfl, by intro W hSw; have i0 := i0 W; go_simp; with_reducible rfl⟩
      try simp only [Act.put, List.setIfInBounds_toArray, List.set_cons_zero, List.set_cons_succ]
      refine wpF_take (i := 7) (oi := ?oiz16) (v := ?vz16) ?hiz16 (by kernel_rfl) (by kernel_rfl) (by kernel_rfl) (by kernel_rfl) ?hQz16 ?hyz16 (by assumption) ?restz16
      case hiz16 => simp only [List.getElem?_toArray, List.getElem?_cons_zero, List.getElem?_cons_succ]; rfl
      case hQz16 => exact fun _ _ _ h => h
      case hyz16 => exact Or.inl ⟨by rfl, by intro w hSw; (try dsimp only at hSw); go_simp; with_reducible rfl⟩
      try simp only [Act.put, List.setIfInBounds_toArray, List.set_cons_zero, List.set_cons_succ]
      refine wpF_take (i := 8) (oi := ?oiz17) (v := ?vz17) ?hiz17 (by kernel_rfl) (by kernel_rfl) (by kernel_rfl) (by kernel_rfl) ?hQz17 ?hyz17 (by assumption) ?restz17
      case hiz17 => simp only [List.getElem?_toArray, List.getElem?_cons_zero, List.getElem?_cons_succ]; rfl
      case hQz17 => exact fun _ _ _ h => h
      case hyz17 => exact Or.inl ⟨by rfl, by intro w hSw; (try dsimp only at hSw); go_simp; with_reducible rfl⟩
      try simp only [Act.put, List.setIfInBounds_toArray, List.set_cons_zero, List.set_cons_succ]
      refine wpF_take (i := 9) (oi := ?oiz18) (v := ?vz18) ?hiz18 (by kernel_rfl) (by kernel_rfl) (by kernel_rfl) (by kernel_rfl) ?hQz18 ?hyz18 (by assumption) ?restz18
      case hiz18 => simp only [List.getElem?_toArray, List.getElem?_cons_zero, List.getElem?_cons_succ]; rfl
      case hQz18 => exact fun _ _ _ h => h
      case hyz18 => exact Or.inl ⟨by rfl, by intro w hSw; (try dsimp only at hSw); go_simp; with_reducible rfl⟩
      try simp only [Act.put, List.setIfInBounds_toArray, List.set_cons_zero, List.set_cons_succ]
      refine wpF_take (i := 10) (oi := ?oiz19) (v := ?vz19) ?hiz19 (by kernel_rfl) (by kernel_rfl) (by kernel_rfl) (by kernel_rfl) ?hQz19 ?hyz19 (by assumption) ?restz19
      case hiz19 => simp only [List.getElem?_toArray, List.getElem?_cons_zero, List.getElem?_cons_succ]; rfl
      case hQz19 => exact fun _ _ _ h => h
      case hyz19 => exact Or.inl ⟨by rfl, by intro w hSw; (try dsimp only at hSw); go_simp; with_reducible rfl⟩
      try simp only [Act.put, List.setIfInBounds_toArray, List.set_cons_zero, List.set_cons_succ]
      refine wpF_take (i := 11) (oi := ?oiz20) (v := ?vz20) ?hiz20 (by kernel_rfl) (by kernel_rfl) (by kernel_rfl) (by kernel_rfl) ?hQz20 ?hyz20 (by assumption) ?restz20
      case hiz20 => simp only [List.getElem?_toArray, List.getElem?_cons_zero, List.getElem?_cons_succ]; rfl
      case hQz20 => exact fun _ _ _ h => h
      case hyz20 => exact Or.inl ⟨by rfl, by intro W hSw; have i1 := i1 W; go_simp; with_reducible rfl⟩
      try simp only [Act.put, List.setIfInBounds_toArray, List.set_cons_zero, List.set_cons_succ]
      refine wpF_ready (rs := [5]) (by kernel_rfl) (by simp) (AllF.cons (o := ?oy215) ?hy215 (fun K hK => ?sy215) AllF.nil)
      case hy215 => simp only [List.getElem?_toArray, List.getElem?_cons_zero, List.getElem?_cons_succ]; rfl
      go_simp
      refine (HI0.out _).mono ?_
      rintro e w' ⟨rfl, rfl⟩
      have hH2 := hHeld
      refine hK.out _ _ (fun _ _ => hH2) ?_
      clear hHeld hK K
      have hHeld := hH2
      clear hH2
      try simp only [Act.put, List.setIfInBounds_toArray, List.set_cons_zero, List.set_cons_succ]
      refine wpF_take (i := 6) (oi := ?oiz22) (v := ?vz22) ?hiz22 (by kernel_rfl) (by kernel_rfl) (by kernel_rfl) (by kernel_rfl) ?hQz22 ?hyz22 (by assumption) ?restz22
      case hiz22 => simp only [List.getElem?_toArray, List.getElem?_cons_zero, List.getElem?_cons_succ]; rfl
      case hQz22 => exact fun _ _ _ h => h
      case hyz22 => exact Or.inl ⟨by rfl, by intro w hSw; (try dsimp only at hSw); go_simp; with_reducible rfl⟩
      try simp only [Act.put, List.setIfInBounds_toArray, List.set_cons_zero, List.set_cons_succ]
      refine wpF_ready (rs := [12]) (by kernel_rfl) (by simp) (AllF.cons (o := ?oy2312) ?hy2312 (fun K hK => ?sy2312) AllF.nil)
      case hy2312 => simp only [List.getElem?_toArray, List.getElem?_cons_zero, List.getElem?_cons_succ]; rfl
      go_simp
      refine (HI1.out _).mono ?_
      rintro e w' ⟨rfl, rfl⟩
      have hH2 := hHeld
      refine hK.out _ _ (fun _ _ => hH2) ?_
      clear hHeld hK K
      have hHeld := hH2
      clear hH2
      try simp only [Act.put, List.setIfInBounds_toArray, List.set_cons_zero, List.set_cons_succ]
      refine wpF_take (i := 13) (oi := ?oiz24) (v := ?vz24) ?hiz24 (by kernel_rfl) (by kernel_rfl) (by kernel_rfl) (by kernel_rfl) ?hQz24 ?hyz24 (by assumption) ?restz24
      case hiz24 => simp only [List.getElem?_toArray, List.getElem?_cons_zero, List.getElem?_cons_succ]; rfl
      case hQz24 => exact fun _ _ _ h => h
      case hyz24 => exact Or.inl ⟨by rfl, by intro w hSw; (try dsimp only at hSw); go_simp; with_reducible rfl⟩
      try simp only [Act.put, List.setIfInBounds_toArray, List.set_cons_zero, List.set_cons_succ]
      refine wpF_take (i := 14) (oi := ?oiz25) (v := ?vz25) ?hiz25 (by kernel_rfl) (by kernel_rfl) (by kernel_rfl) (by kernel_rfl) ?hQz25 ?hyz25 (by assumption) ?restz25
      case hiz25 => simp only [List.getElem?_toArray, List.getElem?_cons_zero, List.getElem?_cons_succ]; rfl
      case hQz25 => exact fun _ _ _ h => h
      case hyz25 => exact Or.inl ⟨by rfl, by intro w hSw; (try dsimp only at hSw); go_simp; with_reducible rfl⟩
      try simp only [Act.put, List.setIfInBounds_toArray, List.set_cons_zero, List.set_cons_succ]
      refine wpF_take (i := 15) (oi := ?oiz26) (v := ?vz26) ?hiz26 (by kernel_rfl) (by kernel_rfl) (by kernel_rfl) (by kernel_rfl) ?hQz26 ?hyz26 (by assumption) ?restz26
      case hiz26 => simp only [List.getElem?_toArray, List.getElem?_cons_zero, List.getElem?_cons_succ]; rfl
      case hQz26 => exact fun _ _ _ h => h
      case hyz26 => exact Or.inl ⟨by rfl, by intro w hSw; (try dsimp only at hSw); go_simp; with_reducible rfl⟩
      try simp only [Act.put, List.setIfInBounds_toArray, List.set_cons_zero, List.set_cons_succ]
      refine wpF_ready (rs := [16]) (by kernel_rfl) (by simp) (AllF.cons (o := ?oy2716) ?hy2716 (fun K hK => ?sy2716) AllF.nil)
      case hy2716 => simp only [List.getElem?_toArray, List.getElem?_cons_zero, List.getElem?_cons_succ]; rfl
      have d9 := (BK.out.ext hHeld).num q (by rw [HZL.out]; exact hlt)
      have f9 := (BK.out.ext hHeld).free q
      have BR9 := Lib.hid ((BR.out.ext hHeld).far (p := ⟨w.heap.size + 1, q, none⟩) (by show w.heap.size ≠ w.heap.size + 1; omega) (.int .u8 y))
      have BK9 := Lib.hid ((BK.out.ext hHeld).set q (.int .u8 y))
      have HX9 := Lib.hid ((HX.out.trans hHeld).set (p := ⟨w.heap.size + 1, q, none⟩) (by show w.heap.size ≤ w.heap.size + 1; omega) (.int .u8 y))
      go_simp
      refine hK.out _ _ (fun h => absurd (by decide) h) ?_
      clear hHeld hK K
      try simp only [Act.put, List.setIfInBounds_toArray, List.set_cons_zero, List.set_cons_succ]
      refine wpF_done (by kernel_rfl) ?_ _
      go_wp2_with fail
      go_roundw
      case rel =>
        refine ⟨q + 1, z.set q y, by omega, by go_num, by rw [List.length_set]; exact HZL.out, fun j hj => ?_, BR9.out, by have := BK9.out; rwa [numsA_set] at this, HX9.out⟩
        rw [gI_set _ _ _ _ (by rw [HZL.out]; exact hlt)]
        by_cases e : q = j
        · rw [if_pos e, ← e, HY.out]
        · rw [if_neg e]; exact HZ1.out j (by omega)
      case measure => simp [intOf]; omega
    · obtain rfl : q = 32 := by omega
      have e : z = k := gI_ext (by rw [HZL.out, hkl]) (fun j hj => HZ1.out j (by rw [HZL.out] at hj; exact hj))
      have HE := Lib.hid e
      have hzs := sizeN (k := .u8) HZL.out
      have hzl := HZL.out
      clear e
      go_wp2_with (first
        | (refine wpl_loadB BK.out aggKey hzs rfl _ rfl rfl ?_)
        | (refine wpl_storeN BR.out aggKey hzl HZS.out rfl _ _ rfl rfl rfl rfl ?_))
      refine bodyPost_ret (results_kc rfl _ rfl aggKey hzs (BR.out.setRow _) rfl) rfl ?_
      exact ⟨by rw [HE.out]; rfl, HX.out.setRow (by omega) _⟩
end Go.Proofs.Ytdjclllnmclocaa
/- Keys that are drawn from a source. No condition. -/
namespace Go.Proofs.Ytdjclllnmclocaa
open Go.RowKit
set_option linter.unusedVariables false
set_option linter.unusedSimpArgs false

theorem zeroA_ok : K32 (List.replicate 32 0) := zero_ok
theorem K32.setA {k : List Int} (h : K32 k) (i : Nat) {x : Int} (h0 : 0 ≤ x) (h1 : x ≤ 255) : K32 (k.set i x) := by
  refine ⟨by rw [List.length_set]; exact h.1, fun y hy => ?_⟩
  rcases List.mem_or_eq_of_mem_set hy with hy | rfl
  · exact h.2 y hy
  · exact ⟨h0, h1⟩
theorem stRowA (w : World) (g : Nat) (cs : Array Value) : w.grownBy (w.setRow g cs) (some g) := ⟨rfl, rfl, rfl, by simp, fun k _ hk => setRow_other w g k cs (fun e => hk (by rw [e]))⟩
set_option maxHeartbeats 8000000 in
set_option maxRecDepth 100000 in
theorem l01Any_any (g : Nat) (b : Int) (hb : b ≤ 4611686018427370000) (w : World) (h : Src w g b) :
    Calls Try.prog 60 #[.pointer (some ⟨g, 0, none⟩)] w fun e w' => ∃ k : List Int, e = .returned (.agg (numsA .u8 k)) ∧ K32 k ∧ Src w' g (b + 410) ∧ w.grownBy w' (some g) := by
  have hgl := h.lt
  have hzA : (Try.prog.info? 28).map (·.zero) = some (some (.agg (numsA .u8 (List.replicate 32 0)))) := by kernel_rfl
  have hbA := built_zeroA
  have hZ0 := zeroA_ok
  generalize (List.replicate 32 (0 : Int)) = Z at hzA hbA hZ0
  have HZ := Lib.hid hZ0
  clear hZ0
  have hzl := HZ.out.1
  have hzst := St.nums (k := .u8) hzl
  have H := Lib.hid h
  clear h
  go_enter Try.func60, Try.ntmps60
  go_wp2_with (first
    | (refine wpl_alloc (numsA .u8 Z) hzA rfl rfl ?_)
    | (refine wpl_buildN rfl rfl hbA ?_)
    | (refine wpl_storeNewB aggKey hzst hzst.size rfl _ _ rfl rfl rfl rfl ?_)
    | (refine wpl_storeNewG (g := w.heap.size + 1) (w := w.alloc _) (by simp) aggKey hzst hzst.size rfl _ _ rfl rfl rfl rfl ?_))
  have BR0 := Lib.hid ((Blk.new w 28 (numsA .u8 Z)).alloc (.cells (numsA .u8 Z) 28))
  have BK0 := Lib.hid (Blk.new' (g := w.heap.size + 1) (w := w.alloc (.cells (numsA .u8 Z) 28)) (by simp) 28 (numsA .u8 Z))
  have hX := (ext_alloc w (.cells (numsA .u8 Z) 28)).alloc (.cells (numsA .u8 Z) 28)
  refine (srcPick_any g b (by omega) 3 (by omega) _ (H.out.ext hX)).mono ?_
  rintro e w1 ⟨n, rfl, hn0, hn1, hs, hg⟩
  have HG := Lib.hid (grown_trans (ext_grown (some g) hX) hg)
  have HS := Lib.hid hs
  have BR := Lib.hid (BR0.out.grown hg (fun e => by injection e with e; omega))
  have BK := Lib.hid (BK0.out.grown hg (fun e => by injection e with e; omega))
  clear hs hg hX BR0 BK0 H
  have hn3 : n = 0 ∨ n = 1 ∨ n = 2 := by omega
  rcases hn3 with rfl | rfl | rfl
  · clear hn0 hn1
    go_wp2_with fail
    refine (srcPick_any g (b + 2) (by omega) 3 (by omega) _ HS.out).mono ?_
    rintro e w2 ⟨t, rfl, ht0, ht1, hs, hg⟩
    have ht2 : t ≤ 255 := by omega
    have htw := u8_in t ht0 ht2
    replace HS := Lib.hid hs
    replace BR := Lib.hid (BR.out.grown hg (fun e => by injection e with e; omega))
    replace HG := Lib.hid (grown_trans HG.out hg)
    clear hs hg ht1
    go_wp2_with fail
    refine (l01Data_any g (b + 2 + 2) (by omega) 4 (by omega) _ HS.out).mono ?_
    rintro e w3 ⟨v3, xs, rfl, ho, hl, hs, hg⟩
    obtain ⟨A3, n3, c3, rfl⟩ := ho.shape3
    have HO := Lib.hid ho
    replace HS := Lib.hid hs
    replace BR := Lib.hid (BR.out.grown hg (fun e => by injection e with e; omega))
    replace HG := Lib.hid (grown_trans HG.out hg)
    clear hs hg ho
    go_wp2_with fail
    refine (l01Hash_any t ⟨ht0, ht2⟩ _ xs _ _ HO.out.rd (by omega)).mono ?_
    rintro e w4 ⟨rfl, hx⟩
    have hk := (hashL_ok t xs).1
    replace HS := Lib.hid (HS.out.ext hx)
    replace BR := Lib.hid (BR.out.ext hx)
    replace HG := Lib.hid (grown_ext HG.out hx)
    clear hx HO
    go_wp2_with (refine wpl_storeN BR.out aggKey hk hzst.size rfl _ _ rfl rfl rfl rfl ?_)
    refine bodyPost_ret (results_blk rfl _ rfl aggKey hk (BR.out.setRow _)) rfl ?_
    exact ⟨_, rfl, hashL_ok t xs, (HS.out.later (stRowA _ _ _) (fun k e => by injection e with e; omega)).le (by omega), grownR HG.out (stRowA _ _ _) (fun k e => by injection e with e; omega)⟩
  · clear hn0 hn1
    go_wp2_with fail
    refine (srcPick_any g (b + 2) (by omega) 32 (by omega) _ HS.out).mono ?_
    rintro e w2 ⟨i, rfl, hi0, hi1, hs, hg⟩
    obtain ⟨i, rfl⟩ := Int.eq_ofNat_of_zero_le hi0
    have hi2 : i < 32 := by omega
    have hi3 : (i : Int) < 32 := by omega
    replace HS := Lib.hid hs
    replace BR := Lib.hid (BR.out.grown hg (fun e => by injection e with e; omega))
    replace BK := Lib.hid (BK.out.grown hg (fun e => by injection e with e; omega))
    replace HG := Lib.hid (grown_trans HG.out hg)
    clear hs hg hi1
    go_wp2_with fail
    refine (srcPick_any g (b + 2 + 2) (by omega) 256 (by omega) _ HS.out).mono ?_
    rintro e w3 ⟨x, rfl, hx0, hx1, hs, hg⟩
    have hx2 : x ≤ 255 := by omega
    have hxw := u8_in x hx0 hx2
    replace HS := Lib.hid hs
    replace BR := Lib.hid (BR.out.grown hg (fun e => by injection e with e; omega))
    replace BK := Lib.hid (BK.out.grown hg (fun e => by injection e with e; omega))
    replace HG := Lib.hid (grown_trans HG.out hg)
    have d := BK.out.num i (by rw [hzl]; exact hi2)
    have f := BK.out.free i
    have HK := Lib.hid (HZ.out.setA i hx0 hx2)
    have hkl := HK.out.1
    have hksz := sizeN (k := .u8) hkl
    have BK2 := Lib.hid (show Blk (w3.setCell ⟨w.heap.size + 1, i, none⟩ (.int .u8 x)) (w.heap.size + 1) 28 (numsA .u8 (Z.set i x)) by
      have := BK.out.set i (.int .u8 x)
      rwa [numsA_set] at this)
    have BR2 := Lib.hid (BR.out.far (p := ⟨w.heap.size + 1, i, none⟩) (by show w.heap.size ≠ w.heap.size + 1; omega) (.int .u8 x))
    have HG2 := Lib.hid (grownR HG.out (r2 := some (w.heap.size + 1)) (grown_set (grown_refl w3 _) (i := i) (.int .u8 x)) (fun k e => by injection e with e; omega))
    have HS2 := Lib.hid (HS.out.later (grown_set (grown_refl w3 (some (w.heap.size + 1))) (i := i) (.int .u8 x)) (fun k e => by injection e with e; omega))
    clear hs hg hx1
    go_wp2_with (first
      | (refine wpl_loadB BK2.out aggKey hksz rfl _ rfl rfl ?_)
      | (refine wpl_storeN BR2.out aggKey hkl hzst.size rfl _ _ rfl rfl rfl rfl ?_))
    refine bodyPost_ret (results_blk rfl _ rfl aggKey hkl (BR2.out.setRow _)) rfl ?_
    exact ⟨_, rfl, HK.out, (HS2.out.later (stRowA _ _ _) (fun k e => by injection e with e; omega)).le (by omega), grownR HG2.out (stRowA _ _ _) (fun k e => by injection e with e; omega)⟩
  · clear hn0 hn1
    go_wp2_with fail
    go_loopw [4] (fun q wr => ∃ (j : Nat) (ks : List Int), j ≤ 32 ∧ q = .int .i64 j ∧ K32 ks ∧ Blk wr (w.heap.size + 1) 28 (numsA .u8 ks) ∧ Blk wr w.heap.size 28 (numsA .u8 Z) ∧ Src wr g (b + 2 + 2 * j) ∧ w.grownBy wr (some g)) (fun q _ => 32 - (intOf q).toNat)
    case atStart => exact ⟨0, _, by omega, rfl, HZ.out, BK.out, BR.out, HS.out.le (by omega), HG.out⟩
    case round =>
      obtain ⟨j, ks, hj, rfl, hks, hbk, hbr, hs, hg⟩ := hrel
      clear HS HG BK BR
      have BK := Lib.hid hbk
      have BR := Lib.hid hbr
      have HS := Lib.hid hs
      have HG := Lib.hid hg
      have HK0 := Lib.hid hks
      have hksl := hks.1
      clear hbk hbr hs hg hks
      by_cases hlj : j < 32
      · have hjI : (j : Int) < 32 := by omega
        have hj0 : (0 : Int) ≤ (j : Int) := by omega
        go_wp2_with fail
        refine (srcPick_any g _ (by omega) 256 (by omega) _ HS.out).mono ?_
        rintro e w3 ⟨x, rfl, hx0, hx1, hs, hg⟩
        have hx2 : x ≤ 255 := by omega
        have hxw := u8_in x hx0 hx2
        replace HS := Lib.hid hs
        replace BR := Lib.hid (BR.out.grown hg (fun e => by injection e with e; omega))
        replace BK := Lib.hid (BK.out.grown hg (fun e => by injection e with e; omega))
        replace HG := Lib.hid (grown_trans HG.out hg)
        have d := BK.out.num j (by rw [hksl]; exact hlj)
        have f := BK.out.free j
        have HK := Lib.hid (HK0.out.setA j hx0 hx2)
        have BK2 := Lib.hid (show Blk (w3.setCell ⟨w.heap.size + 1, j, none⟩ (.int .u8 x)) (w.heap.size + 1) 28 (numsA .u8 (ks.set j x)) by
          have := BK.out.set j (.int .u8 x)
          rwa [numsA_set] at this)
        have BR2 := Lib.hid (BR.out.far (p := ⟨w.heap.size + 1, j, none⟩) (by show w.heap.size ≠ w.heap.size + 1; omega) (.int .u8 x))
        have HG2 := Lib.hid (grownR HG.out (r2 := some (w.heap.size + 1)) (grown_set (grown_refl w3 _) (i := j) (.int .u8 x)) (fun k e => by injection e with e; omega))
        have HS2 := Lib.hid (HS.out.later (grown_set (grown_refl w3 (some (w.heap.size + 1))) (i := j) (.int .u8 x)) (fun k e => by injection e with e; omega))
        clear hs hg hx1
        go_wp2
        go_roundw
        case rel => exact ⟨j + 1, _, by omega, by go_num, HK.out, BK2.out, BR2.out, HS2.out.le (by omega), HG2.out⟩
        case measure => simp [intOf]; omega
      · obtain rfl : j = 32 := by omega
        have hksz := sizeN (k := .u8) hksl
        go_wp2_with (first
          | (refine wpl_loadB BK.out aggKey hksz rfl _ rfl rfl ?_)
          | (refine wpl_storeN BR.out aggKey hksl hzst.size rfl _ _ rfl rfl rfl rfl ?_))
        refine bodyPost_ret (results_blk rfl _ rfl aggKey hksl (BR.out.setRow _)) rfl ?_
        exact ⟨_, rfl, HK0.out, (HS.out.later (stRowA _ _ _) (fun k e => by injection e with e; omega)).le (by omega), grownR HG.out (stRowA _ _ _) (fun k e => by injection e with e; omega)⟩
set_option maxHeartbeats 4000000 in
set_option maxRecDepth 100000 in
theorem a2Keys_any (v : Value) (code : List Int) (most : Nat) (hm : most ≤ 20) (w : World) (S : Nat → Prop) (h : RdL tByte w S v code) :
    Calls Try.prog 21 #[v, .int .i64 most] w fun e w' => ∃ v' ks, e = .returned v' ∧ Own tKey 28 w' w.heap.size v' ks ∧ ks.length ≤ most ∧ Ext w w' := by
  obtain ⟨A, cap, rfl, _⟩ := id h
  have hm1 : (most : Int) + 1 ≤ 4611686018427387904 := by omega
  have hw1 : IntKind.i64.wrap ((most : Int) + 1) = (most : Int) + 1 := IntWalk.i64_in _ (by omega)
  go_enter Try.func21, Try.ntmps21
  go_wp2_with fail
  refine (l00From_any _ code _ _ h).mono ?_
  rintro e w1 ⟨rfl, hs, hx⟩
  have HX1 := Lib.hid hx
  have HS := Lib.hid hs
  have hgl := hs.lt
  clear hs hx h
  obtain ⟨g, hg0⟩ : ∃ g, w.heap.size = g := ⟨_, rfl⟩
  have HG0 := Lib.hid hg0
  rw [hg0] at HS hgl ⊢
  clear hg0
  go_wp2_with fail
  refine (srcPick_any g 0 (by omega) (most + 1) (by omega) _ (HS.out.ext (ext_alloc _ _))).mono ?_
  rintro e w2 ⟨n, rfl, hn0, hn1, hs, hg⟩
  obtain ⟨n, rfl⟩ := Int.eq_ofNat_of_zero_le hn0
  have hn2 : n ≤ most := by omega
  have HO := Lib.hid ((Own.empty tKey w1 28 w1.heap.size (Nat.le_refl _)).kept hg ((Own.empty tKey w1 28 w1.heap.size (Nat.le_refl _)).ne_sA hgl))
  have HG := Lib.hid (grown_trans (ext_grown (some g) (ext_alloc w1 (Obj.cells #[] 28))) hg)
  replace HS := Lib.hid hs
  clear hs hg hw1
  go_wp2
  go_loopw [6, 7] (fun a i wr => ∃ (k : Nat) (ks : List (List Int)), k ≤ n ∧ i = .int .i64 k ∧ Own tKey 28 wr w1.heap.size a ks ∧ ks.length + k ≤ most ∧ Src wr g (2 + 410 * (n - k)) ∧ w1.grownBy wr (some g)) (fun _ i _ => (intOf i).toNat)
  case atStart => exact ⟨n, [], by omega, rfl, HO.out, by simp; omega, HS.out.le (by omega), HG.out⟩
  case round =>
    obtain ⟨k, ks, hk, rfl, ho, hl, hs, hg⟩ := hrel
    obtain ⟨C, cn, cc, rfl⟩ := ho.shape3
    clear HO HS HG
    have HO := Lib.hid ho
    have HS := Lib.hid hs
    have HG := Lib.hid hg
    have HL := Lib.hid hl
    clear ho hs hg hl
    by_cases h0 : 0 < k
    · have hi : (0 : Int) < (k : Int) := by omega
      go_wp2_with fail
      refine (l01Any_any g _ (by omega) _ HS.out).mono ?_
      rintro e w3 ⟨q7, rfl, hko, hs, hg⟩
      replace HO := Lib.hid (HO.out.kept hg (HO.out.ne_sA hgl))
      replace HS := Lib.hid hs
      replace HG := Lib.hid (grown_trans HG.out hg)
      have HKO := Lib.hid hko
      clear hs hg hko
      go_wp2_with (first
        | (refine wpl_one rowKeyA (by decide) q7 HKO.out rfl _ rfl rfl ?_)
        | (at_builtin; refine wpl_append rowKeyA rfl _ _ rfl (v := .slice C cn cc) rfl (HO.out.alloc (.cells (tKey.enc q7).toArray 28)) _ _ rfl (A := some ⟨w3.heap.size, 0, none⟩) (ys := [q7]) rfl (rd_one (T := tKey) w3 q7 HKO.out _) (by intro y hy; obtain rfl := List.mem_singleton.1 hy; exact HKO.out) (by have := HL.out; simp; omega) (by have := HG.out.size; simp; omega) ?_; intro v5 w5 ho5 hg5 hat5; have HS5 := Lib.hid ((HS.out.ext (ext_alloc w3 (.cells (tKey.enc q7).toArray 28))).later hg5 (fun q hq => Nat.lt_of_lt_of_le hgl (HO.out.base_le q hq).1)); have HG5 := Lib.hid (grownR (grown_ext HG.out (ext_alloc w3 (.cells (tKey.enc q7).toArray 28))) hg5 (fun q hq => (HO.out.base_le q hq).1)); have HO5 := Lib.hid ho5; obtain ⟨C5, n5, c5, rfl⟩ := ho5.shape3; clear ho5 hg5 hat5))
      go_roundw
      case rel => exact ⟨k - 1, _, by omega, by go_num, HO5.out, by have := HL.out; simp; omega, HS5.out.le (by omega), HG5.out⟩
      case measure => simp [intOf]; omega
    · obtain rfl : k = 0 := by omega
      have HX := Lib.hid (HX1.out.grown HG.out (fun k e => by injection e with e; have := HG0.out; omega))
      have HOL := Lib.hid (HO.out.le HX1.out.size)
      go_wp2
      go_ret
      exact ⟨_, ks, rfl, HOL.out, by have := HL.out; omega, HX.out⟩
end Go.Proofs.Ytdjclllnmclocaa
/- Arrays of bytes held against each other by == and !=. No condition. -/
namespace Go.Proofs.Ytdjclllnmclocaa
open Go.RowKit
set_option linter.unusedVariables false
set_option linter.unusedSimpArgs false

def eqArr (d : Nat) (e : TypeId) (n : Nat) (xs ys : Array Value) : List Nat → Sem Bool
  | [] => pure true
  | i :: is => do
    let a ← part e xs (i * n)
    let b ← part e ys (i * n)
    let r ← Op.equalIn d e a b
    if (!r) = true then pure false else eqArr d e n xs ys is
section
variable {P : Program} (w : World)
theorem run_equalIn_array (d : Nat) (t e : TypeId) (len n : Nat) (xs ys : Array Value) (ht : P.underlying t = some (.array len e)) (hn : ∀ w, (sizeOf e).run P w = .ok n w) :
    (Op.equalIn (d + 1) t (.agg xs) (.agg ys)).run P w = (eqArr d e n xs ys (List.range' 0 len)).run P w := by
  simp only [Op.equalIn, Sem.run_bind, run_underlying ht, Result.andThen_ok, hn]
  rw [Std.Legacy.Range.forIn_eq_forIn_range']
  simp only [Std.Legacy.Range.size, Nat.sub_zero, Nat.add_sub_cancel, Nat.div_one]
  generalize List.range' 0 len = l
  clear ht
  induction l generalizing w with
  | nil => simp [eqArr]
  | cons f fs ih =>
    simp only [List.forIn_cons, eqArr, Sem.run_bind, Sem.run_ite]
    generalize (part e xs (f * n)).run P w = r1
    cases r1 with
    | ok a w1 =>
      simp only [Result.andThen_ok]
      generalize (part e ys (f * n)).run P w1 = r2
      cases r2 with
      | ok b w2 =>
        simp only [Result.andThen_ok]
        generalize (Op.equalIn d e a b).run P w2 = r3
        cases r3 with
        | ok r w3 =>
          cases r
          · simp only [Result.andThen_ok, Bool.not_false, if_true, Sem.run_pure]
          · simp only [Result.andThen_ok, Bool.not_true, Bool.false_eq_true, if_false, Sem.run_pure]
            exact ih w3
        | halt x w3 => simp [Result.andThen]
      | halt x w2 => simp [Result.andThen]
    | halt x w1 => simp [Result.andThen]
theorem run_eqArr (d : Nat) (e : TypeId) (k' : IntKind) (he : P.underlying e = some (.int k')) (k : IntKind) (a b : List Int) (hl : a.length = b.length) (m i : Nat) (hi : i + m = a.length) :
    (eqArr (d + 1) e 1 (numsA k a) (numsA k b) (List.range' i m)).run P w = .ok (decide (a.drop i = b.drop i)) w := by
  have hagg : (isAgg e).run P w = .ok false w := by
    unfold isAgg
    rw [Sem.run_bind, run_underlying he w]
    rfl
  induction m generalizing i with
  | zero =>
    rw [List.drop_eq_nil_of_le (by omega), List.drop_eq_nil_of_le (by omega)]
    simp [eqArr]
  | succ m ih =>
    have h1 : i < a.length := by omega
    have h2 : i < b.length := by omega
    have e1 := numsA_at k a i h1
    have e2 := numsA_at k b i h2
    rw [List.range'_succ]
    simp only [eqArr, Sem.run_bind, part, hagg, Result.andThen_ok, Bool.false_eq_true, if_false, Nat.mul_one, e1, e2, Sem.run_pure, run_equalIn_int w d e k k' _ _ he, Sem.run_ite]
    rw [List.drop_eq_getElem_cons h1, List.drop_eq_getElem_cons h2]
    by_cases hq : gI a i = gI b i
    · have h3 : (gI a i == gI b i) = true := by simpa using hq
      simp only [h3, Bool.not_true, Bool.false_eq_true, if_false]
      rw [ih (i + 1) (by omega)]
      rw [gI_lt h1, gI_lt h2] at hq
      simp only [List.cons.injEq, hq, true_and]
    · have h3 : (gI a i == gI b i) = false := by simpa using hq
      simp only [h3, Bool.not_false, if_true]
      rw [gI_lt h1, gI_lt h2] at hq
      simp only [List.cons.injEq, hq, false_and, decide_false]
end
theorem run_eqKey (a b : List Int) (ha : K32 a) (hb : K32 b) (W : World) : (binOp .eql 28 (.agg (numsA .u8 a)) (.agg (numsA .u8 b))).run Try.prog W = .ok (.bool (decide (a = b))) W := by
  rw [run_eql_struct, run_equalIn_array (P := Try.prog) W 9999 28 5 32 1 _ _ (by kernel_rfl) (fun w => by kernel_rfl), run_eqArr (P := Try.prog) W 9998 5 .u8 (by kernel_rfl) .u8 a b (by rw [ha.1, hb.1]) 32 0 (by rw [ha.1])]
  simp
theorem run_neqKey (a b : List Int) (ha : K32 a) (hb : K32 b) (W : World) : (binOp .neq 28 (.agg (numsA .u8 a)) (.agg (numsA .u8 b))).run Try.prog W = .ok (.bool (!decide (a = b))) W := by
  rw [run_neq_struct, run_equalIn_array (P := Try.prog) W 9999 28 5 32 1 _ _ (by kernel_rfl) (fun w => by kernel_rfl), run_eqArr (P := Try.prog) W 9998 5 .u8 (by kernel_rfl) .u8 a b (by rw [ha.1, hb.1]) 32 0 (by rw [ha.1])]
  simp

end Go.Proofs.Ytdjclllnmclocaa
/- Two variables of a struct's type, made and filled at once. No condition. -/
namespace Go.Proofs.Ytdjclllnmclocaa
open Go.RowKit Go.BigFrame
set_option linter.unusedVariables false
set_option linter.unusedSimpArgs false

end Go.Proofs.Ytdjclllnmclocaa
/- The walk of the law FnKeys. No condition. -/
namespace Go.Proofs.Ytdjclllnmclocaa
open Go.RowKit
set_option linter.unusedVariables false
set_option linter.unusedSimpArgs false

theorem built_byteK (x : Int) : Try.prog.built 28 [(0, .int .u8 x)] = some (numsA .u8 (x :: List.replicate 31 0)) := by kernel_rfl
theorem and1 {b : Int} (h : 0 ≤ b ∧ b ≤ 255) : bits .and .u8 b 1 = b % 2 := by
  obtain ⟨a, rfl, ha⟩ := byteN h
  have key : ∀ a : Fin 256, bits .and .u8 ((a.1 : Nat) : Int) 1 = ((a.1 : Nat) : Int) % 2 := by decide +kernel
  exact key ⟨a, ha⟩
theorem bit_and {z : Int} (h : 0 ≤ z ∧ z ≤ 255) (k : Nat) : bits .and .u8 (z / 2 ^ (7 - k)) 1 = bitN z k := by
  obtain ⟨a, rfl, ha⟩ := byteN h
  have e : ((a : Int) / 2 ^ (7 - k)) = ((a / 2 ^ (7 - k) : Nat) : Int) := by norm_cast
  have h2 : a / 2 ^ (7 - k) ≤ a := Nat.div_le_self _ _
  have e2 : bitN (a : Int) k = (a : Int) / 2 ^ (7 - k) % 2 := rfl
  rw [e2, e]
  generalize a / 2 ^ (7 - k) = q at h2
  exact and1 (by omega)
theorem K32.list {w : World} {S : Nat → Prop} {A : Option Addr} {n c : Nat} {L : List (List Int)} (h : RdL tKey w S (.slice A n c) L) (hn : L.length = n) (i : Nat) (hi : i < n) :
    ∃ g o, A = some ⟨g, o, none⟩ ∧ K32 (L[i]'(by omega)) ∧ ∀ j u, (nums .u8 (L[i]'(by omega)))[j]? = some u → w.cell? ⟨g, o + i * 32 + j, none⟩ = some u := by
  obtain ⟨A', c', e, _, _, hrd, hok⟩ := h
  obtain ⟨rfl, e2, e3⟩ := Value.slice.inj e
  obtain ⟨g, o, e4, _, hc⟩ := hrd.elem hok i (by omega)
  exact ⟨g, o, e4, hok _ (List.getElem_mem _), hc⟩
set_option maxHeartbeats 8000000 in
set_option maxRecDepth 100000 in
theorem FnKeys_any (w : World) (v0 : Value) (x0 : List Int) (S0 : Nat → Prop) (h0 : RdL tByte w S0 v0 x0) (v1 : Value) (x1 : List Int) (S1 : Nat → Prop) (h1 : RdL tByte w S1 v1 x1) :
    Calls Try.prog 4 #[v0, v1] w fun e w' => e = .returned (.bool true) ∧ Ext w w' := by
  obtain ⟨A0, cap0, rfl, _⟩ := id h0
  obtain ⟨A1, cap1, rfl, _⟩ := id h1
  have H0 := Lib.hid h0
  have H1 := Lib.hid h1
  clear h0 h1
  cases hlong : (decide (3000 < x0.length) || decide (3000 < x1.length)) with
  | true =>
    have hl := fun W => a2Long_any A0 A1 x0.length x1.length cap0 cap1 W true hlong
    clear hlong
    go_enter Try.func4, Try.ntmps4
    go_wp2_with fail
    refine (hl _).mono ?_
    rintro e w' ⟨rfl, rfl⟩
    go_wp2
    go_ret
    exact ⟨rfl, Ext.refl _⟩
  | false =>
    have hl := fun W => a2Long_any A0 A1 x0.length x1.length cap0 cap1 W false hlong
    clear hlong
    go_enter Try.func4, Try.ntmps4
    go_wp2_with fail
    refine (hl _).mono ?_
    rintro e w' ⟨rfl, rfl⟩
    clear hl
    go_wp2_with fail
    refine (a2Keys_any _ x0 4 (by omega) _ _ H0.out).mono ?_
    rintro e w1 ⟨va, ka, rfl, hoa, hla, hx⟩
    have XW := Lib.hid hx
    have HOA := Lib.hid hoa
    obtain ⟨Aa, na, ca, rfl⟩ := hoa.shape3
    clear hx hoa
    go_wp2_with fail
    refine (a2At_any _ x1 0 9 (by omega) _ _ (H1.out.ext (by decide) XW.out) (by omega)).mono ?_
    rintro e w' ⟨t, rfl, ht0, ht1, rfl⟩
    have ht2 : t ≤ 255 := by omega
    have htw := u8_inP t ht0 ht2
    have HZ := Lib.hid zero_ok
    have hbz := built_zeroA
    have hbx := built_byteK
    have HBX := Lib.hid (fun (x : Int) (h : 0 ≤ x ∧ x ≤ 255) => show K32 (x :: List.replicate 31 0) from ⟨rfl, fun y hy => by
      rcases List.mem_cons.1 hy with rfl | hy
      · exact h
      · obtain rfl := (List.mem_replicate.1 hy).2; omega⟩)
    generalize hR : List.replicate 31 (0 : Int) = R at hbx HBX
    generalize List.replicate 32 (0 : Int) = Z at hbz HZ
    clear hR
    clear ht1
    go_wp2_with (refine wpl_buildN rfl rfl hbz ?_)
    refine (a2At_any _ x1 1 256 (by omega) _ _ (H1.out.ext (by decide) XW.out) (by omega)).mono ?_
    rintro e w' ⟨x, rfl, hx0, hx1, rfl⟩
    have hx2 : x ≤ 255 := by omega
    have hxw := u8_inP x hx0 hx2
    replace hbx := hbx x
    replace HBX := Lib.hid (HBX.out x ⟨hx0, hx2⟩)
    clear hx1
    generalize x :: R = XB at hbx HBX
    go_wp2_with (refine wpl_buildN rfl rfl hbx ?_)
    refine (pairKey_any t ⟨ht0, ht2⟩ Z XB HZ.out HBX.out _).mono ?_
    rintro e w2 ⟨rfl, hx⟩
    replace XW := Lib.hid (XW.out.trans hx)
    replace HOA := Lib.hid (HOA.out.ext hx)
    have HKP := Lib.hid (hashL_ok t (Z ++ XB))
    generalize hashL t (Z ++ XB) = kp at HKP ⊢
    clear hx hbz hbx HZ HBX htw hxw ht0 ht2 hx0 hx2
    go_wp2_with (first
      | (refine wpl_one rowKeyA (by decide) kp HKP.out rfl _ rfl rfl ?_)
      | (at_builtin; refine wpl_append rowKeyA rfl _ _ rfl (v := .slice Aa na ca) rfl (HOA.out.alloc (.cells (tKey.enc kp).toArray 28)) _ _ rfl (A := some ⟨w2.heap.size, 0, none⟩) (ys := [kp]) rfl (rd_one (T := tKey) w2 kp HKP.out _) (by intro y hy; obtain rfl := List.mem_singleton.1 hy; exact HKP.out) (by simp; omega) (XW.out.alloc _).size ?_; intro v3 w3 ho3 hg3 hat3; have X3 := Lib.hid ((HOA.out.alloc (.cells (tKey.enc kp).toArray 28)).ext_app (XW.out.alloc _) hg3); obtain ⟨L, hL⟩ : ∃ L, ka ++ [kp] = L := ⟨_, rfl⟩; rw [hL] at ho3; have hLp : 0 < L.length := (by rw [← hL]; simp); have hL5 : L.length ≤ 5 := (by rw [← hL]; simp; omega); obtain ⟨Al, cl, rfl⟩ := ho3.shape; have HRL := Lib.hid ho3.rd; have hcl : L.length ≤ cl := (by obtain ⟨A', c', e, h, _⟩ := ho3.rd; obtain ⟨_, _, rfl⟩ := Value.slice.inj e; exact h); obtain ⟨g, o, rfl, hk0, hc0⟩ := K32.list ho3.rd rfl 0 hLp; obtain ⟨a, ha⟩ : ∃ a, L[0] = a := ⟨_, rfl⟩; rw [ha] at hk0 hc0; have HKA := Lib.hid hk0; have HC0 := Lib.hid (show ∀ j u, (nums .u8 a)[j]? = some u → w3.cell? ((⟨g, o, none⟩ : Addr).add j) = some u from fun j u hu => (by rw [Addr.add_lit]; have := hc0 j u hu; rwa [Nat.zero_mul, Nat.add_zero] at this)); have hsta := St.nums (k := .u8) hk0.1; have hsza := sizeN (k := .u8) hk0.1; clear ho3 hg3 hat3 hL ha hk0 hc0)
      | (refine wpl_load ⟨g, o, none⟩ (nums .u8 a) (by rw [nums_length, HKA.out.1]; exact aggKey) rfl _ rfl rfl HC0.out ?_)
      | (refine wpl_storeNewB aggKey hsta rfl rfl _ _ rfl rfl rfl rfl ?_))
    have hE := ext_alloc w3 (.cells (numsA .u8 a) 28)
    have BA := Lib.hid (Blk.new w3 28 (numsA .u8 a))
    replace XW := Lib.hid (X3.out.trans hE)
    replace HRL := Lib.hid (HRL.out.ext (by decide) hE)
    obtain ⟨gA, hgA⟩ : ∃ gA, w3.heap.size = gA := ⟨_, rfl⟩
    rw [hgA] at BA ⊢
    generalize w3.alloc (.cells (numsA .u8 a) 28) = w4 at BA XW HRL ⊢
    clear hE HC0 X3 HOA HKP hla hgA
    refine (a2At_any _ x1 2 (L.length : Int) (by omega) _ _ (H1.out.ext (by decide) XW.out) (by omega)).mono ?_
    rintro e w' ⟨i, rfl, hi0, hi1, rfl⟩
    obtain ⟨i, rfl⟩ := Int.eq_ofNat_of_zero_le hi0
    have hi2 : i < L.length := by omega
    have hiI : (i : Int) < (L.length : Int) := by omega
    obtain ⟨g', o', e1, hk1, hc1⟩ := K32.list HRL.out rfl i hi2
    obtain ⟨rfl, rfl⟩ : g = g' ∧ o = o' := by injection e1 with e1; injection e1 with e2 e3; exact ⟨e2, e3⟩
    obtain ⟨b, hb⟩ : ∃ b, L[i] = b := ⟨_, rfl⟩
    rw [hb] at hk1 hc1
    have HKB := Lib.hid hk1
    have HC1 := Lib.hid (show ∀ j u, (nums .u8 b)[j]? = some u → w4.cell? ((⟨g, o + i * 32, none⟩ : Addr).add j) = some u from fun j u hu => by rw [Addr.add_lit]; exact hc1 j u hu)
    have hstb := St.nums (k := .u8) hk1.1
    have hszb := sizeN (k := .u8) hk1.1
    have hE := ext_alloc w4 (.cells (numsA .u8 b) 28)
    have BB := Lib.hid (Blk.new w4 28 (numsA .u8 b))
    have BA2 := Lib.hid (BA.out.ext hE)
    replace XW := Lib.hid (XW.out.trans hE)
    clear hi1 e1 hb hk1 hc1 hE
    go_wp2_with (first
      | (refine wpl_load ⟨g, o + i * 32, none⟩ (nums .u8 b) (by rw [nums_length, HKB.out.1]; exact aggKey) rfl _ rfl rfl HC1.out ?_)
      | (refine wpl_storeNewB aggKey hstb rfl rfl _ _ rfl rfl rfl rfl ?_)
      | (refine wpl_loadB BA2.out aggKey hsza rfl _ rfl rfl ?_))
    obtain ⟨gB, hgB⟩ : ∃ gB, w4.heap.size = gB := ⟨_, rfl⟩
    rw [hgB] at BB ⊢
    generalize w4.alloc (.cells (numsA .u8 b) 28) = w5 at BA2 BB XW ⊢
    clear HC1 BA HRL hgB
    refine (keyText_any a HKA.out _).mono ?_
    rintro e w6 ⟨rfl, hx⟩
    have BA := Lib.hid (BA2.out.ext hx)
    replace BB := Lib.hid (BB.out.ext hx)
    replace XW := Lib.hid (XW.out.trans hx)
    clear hx BA2
    have HRK := Lib.hid (fun W => readKey_any a HKA.out W)
    have HTX := Lib.hid (fun W => keyText_any a HKA.out W)
    have HTY := Lib.hid (fun W => keyText_any b HKB.out W)
    have HLS := Lib.hid (less_cmp (textK a) (textK b) (by rw [textK_length, textK_length, HKA.out.1, HKB.out.1]) (textK_ok HKA.out.2) (textK_ok HKB.out.2))
    rw [cmpL_text a b (by rw [HKA.out.1, HKB.out.1]) HKA.out.2 HKB.out.2] at HLS
    have hT64 : (strOfNums (textK a)).size = 64 := by rw [strOfNums_size, textK_length, HKA.out.1]
    generalize strOfNums (textK a) = TA at HRK HTX HLS hT64 ⊢
    generalize strOfNums (textK b) = TB at HTY HLS
    go_wp2_with fail
    refine (HRK.out _).mono ?_
    rintro e w7 ⟨rfl, hx⟩
    have hE := hx.trans (ext_alloc w7 (.cells (numsA .u8 a) 28))
    replace BA := Lib.hid (BA.out.ext hE)
    replace BB := Lib.hid (BB.out.ext hE)
    replace XW := Lib.hid (XW.out.trans hE)
    have B8 := Lib.hid (Blk.new w7 28 (numsA .u8 a))
    clear hx hE
    go_wp2_with (first
      | (refine wpl_storeNewB aggKey hsta rfl rfl _ _ rfl rfl rfl rfl ?_)
      | (refine wpl_loadB BA.out aggKey hsza rfl _ rfl rfl ?_)
      | (refine wpl_loadB BB.out aggKey hszb rfl _ rfl rfl ?_))
    refine (xorKeys_any a b HKA.out HKB.out _).mono ?_
    rintro e w8 ⟨rfl, hx⟩
    have HKX := Lib.hid (xorL_ok HKA.out HKB.out)
    have HINV := Lib.hid (xorL_inv HKA.out HKB.out)
    obtain ⟨X, hX⟩ : ∃ X, xorL a b = X := ⟨_, rfl⟩
    rw [hX] at HKX HINV ⊢
    have hstx := St.nums (k := .u8) HKX.out.1
    have hszx := sizeN (k := .u8) HKX.out.1
    have hE := hx.trans (ext_alloc w8 (.cells (numsA .u8 X) 28))
    replace BA := Lib.hid (BA.out.ext hE)
    replace BB := Lib.hid (BB.out.ext hE)
    replace B8 := Lib.hid (B8.out.ext hE)
    replace XW := Lib.hid (XW.out.trans hE)
    have BX := Lib.hid (Blk.new w8 28 (numsA .u8 X))
    clear hx hE hX
    go_wp2_with (first
      | (refine wpl_storeNewB aggKey hstx rfl rfl _ _ rfl rfl rfl rfl ?_)
      | (refine wpl_loadB BA.out aggKey hsza rfl _ rfl rfl ?_)
      | (refine wpl_loadB BB.out aggKey hszb rfl _ rfl rfl ?_))
    generalize w8.alloc (.cells (numsA .u8 X) 28) = w9 at BA BB B8 BX XW ⊢
    refine (commonBits_any a b HKA.out HKB.out _).mono ?_
    rintro e w10 ⟨rfl, hx⟩
    have hn256 := cbL_le HKA.out HKB.out
    have HFULL := Lib.hid (cbL_full HKA.out HKB.out)
    have HCOM := Lib.hid (cbL_comm HKA.out HKB.out)
    have HSAME := Lib.hid (fun k h => cbL_same HKA.out HKB.out k h)
    have HDIFF := Lib.hid (fun h => cbL_diff HKA.out HKB.out h)
    have HCB := Lib.hid (fun W => commonBits_any b a HKB.out HKA.out W)
    rw [← HCOM.out] at HCB
    generalize cbL a b = n at hn256 HFULL HSAME HDIFF HCB ⊢
    replace BA := Lib.hid (BA.out.ext hx)
    replace BB := Lib.hid (BB.out.ext hx)
    replace B8 := Lib.hid (B8.out.ext hx)
    replace BX := Lib.hid (BX.out.ext hx)
    replace XW := Lib.hid (XW.out.trans hx)
    clear hx HCOM
    go_wp2_with (first
      | (refine wpl_loadB BA.out aggKey hsza rfl _ rfl rfl ?_)
      | (refine wpl_loadB BB.out aggKey hszb rfl _ rfl rfl ?_))
    refine (compareKeysI_any a b HKA.out HKB.out _).mono ?_
    rintro e w11 ⟨rfl, hx⟩
    have HCMP := Lib.hid (fun W => compareKeysI_any b a HKB.out HKA.out W)
    rw [cmpL7_neg a b] at HCMP
    have hcv := cmpL_vals a b
    have HC0 := Lib.hid (show cmpL a b = 0 ↔ a = b from ⟨fun h => cmpL7_zero (by rw [HKA.out.1, HKB.out.1]) h, fun h => by rw [h, cmpL_self]⟩)
    generalize cmpL a b = c at HCMP hcv HC0 HLS ⊢
    replace BA := Lib.hid (BA.out.ext hx)
    replace BB := Lib.hid (BB.out.ext hx)
    replace B8 := Lib.hid (B8.out.ext hx)
    replace BX := Lib.hid (BX.out.ext hx)
    replace XW := Lib.hid (XW.out.trans hx)
    have heq := run_eqKey a b HKA.out HKB.out
    have hnq := run_neqKey a a HKA.out HKA.out
    simp only [decide_true, Bool.not_true] at hnq
    obtain ⟨E, hE⟩ : ∃ E, decide (a = b) = E := ⟨_, rfl⟩
    rw [hE] at heq
    have p1 : (c == 0) = E := by rw [← hE, Bool.eq_iff_iff, beq_iff_eq, decide_eq_true_iff]; exact HC0.out
    have p2 : ((n : Int) == 256) = E := by
      rw [← hE, Bool.eq_iff_iff, beq_iff_eq, decide_eq_true_iff, ← HFULL.out]; omega
    have p3 : IntKind.i64.wrap (-c) = -c := IntWalk.i64_in _ (by omega)
    have p4 : decide ((n : Int) < 0) = false := decide_eq_false (by omega)
    have p5 : decide ((256 : Int) < (n : Int)) = false := decide_eq_false (by omega)
    clear hx HC0 hE
    go_wp2_with fail
    refine wp_region_held_drew (S := fun W => Ext w11 W) (by kernel_rfl) (Ext.refl _).drew (fun hHeld => ?_)
    iterate 3
      refine tkD 0 (by simp only [List.size_toArray, List.length_cons, List.length_nil]; rfl) (by simp only [List.getElem?_toArray, List.getElem?_cons_zero, List.getElem?_cons_succ]; rfl) (by kernel_rfl) (by exact fun _ _ _ h => h) (by first | (exact Or.inl ⟨by rfl, by intro w hSw; (try dsimp only at hSw); go_simp; with_reducible rfl⟩) | (exact Or.inr ⟨by rfl, by rfl⟩)) (by assumption) ?_
      try simp only [Act.put, List.setIfInBounds_toArray, List.set_cons_zero, List.set_cons_succ]
    refine tkI 3 (v := (.agg (numsA .u8 a))) (by simp only [List.getElem?_toArray, List.getElem?_cons_zero, List.getElem?_cons_succ]; rfl) (by kernel_rfl) (by exact fun _ _ _ h => h) (by refine yields_loadBSP (fun W hW => B8.out.ext hW) aggKey hsza ?_ _ rfl rfl; rfl) (by assumption) ?_
    try simp only [Act.put, List.setIfInBounds_toArray, List.set_cons_zero, List.set_cons_succ]
    refine tkI 4 (v := (.agg (numsA .u8 a))) (by simp only [List.getElem?_toArray, List.getElem?_cons_zero, List.getElem?_cons_succ]; rfl) (by kernel_rfl) (by exact fun _ _ _ h => h) (by refine yields_loadBSP (fun W hW => BA.out.ext hW) aggKey hsza ?_ _ rfl rfl; rfl) (by assumption) ?_
    try simp only [Act.put, List.setIfInBounds_toArray, List.set_cons_zero, List.set_cons_succ]
    iterate 3
      refine tkD 0 (by simp only [List.size_toArray, List.length_cons, List.length_nil]; rfl) (by simp only [List.getElem?_toArray, List.getElem?_cons_zero, List.getElem?_cons_succ]; rfl) (by kernel_rfl) (by exact fun _ _ _ h => h) (by first | (exact Or.inl ⟨by rfl, by intro w hSw; (try dsimp only at hSw); go_simp; with_reducible rfl⟩) | (exact Or.inr ⟨by rfl, by rfl⟩)) (by assumption) ?_
      try simp only [Act.put, List.setIfInBounds_toArray, List.set_cons_zero, List.set_cons_succ]
    refine tkI 8 (v := (.agg (numsA .u8 X))) (by simp only [List.getElem?_toArray, List.getElem?_cons_zero, List.getElem?_cons_succ]; rfl) (by kernel_rfl) (by exact fun _ _ _ h => h) (by refine yields_loadBSP (fun W hW => BX.out.ext hW) aggKey hszx ?_ _ rfl rfl; rfl) (by assumption) ?_
    try simp only [Act.put, List.setIfInBounds_toArray, List.set_cons_zero, List.set_cons_succ]
    refine tkI 9 (v := (.agg (numsA .u8 b))) (by simp only [List.getElem?_toArray, List.getElem?_cons_zero, List.getElem?_cons_succ]; rfl) (by kernel_rfl) (by exact fun _ _ _ h => h) (by refine yields_loadBSP (fun W hW => BB.out.ext hW) aggKey hszb ?_ _ rfl rfl; rfl) (by assumption) ?_
    try simp only [Act.put, List.setIfInBounds_toArray, List.set_cons_zero, List.set_cons_succ]
    refine tkI 11 (v := (.agg (numsA .u8 a))) (by simp only [List.getElem?_toArray, List.getElem?_cons_zero, List.getElem?_cons_succ]; rfl) (by kernel_rfl) (by exact fun _ _ _ h => h) (by refine yields_loadBSP (fun W hW => BA.out.ext hW) aggKey hsza ?_ _ rfl rfl; rfl) (by assumption) ?_
    try simp only [Act.put, List.setIfInBounds_toArray, List.set_cons_zero, List.set_cons_succ]
    refine wpAnyH_ready (rs := [10]) (by kernel_rfl) (by simp) (AllReadyH.cons (o := ?oy1210) ?hy1210 (fun K hK => ?sy1210) AllReadyH.nil)
    case hy1210 => simp only [List.getElem?_toArray, List.getElem?_cons_zero, List.getElem?_cons_succ]; rfl
    go_simp
    refine (xorKeys_any X b HKX.out HKB.out _).mono ?_
    rintro e w12 ⟨rfl, hx⟩
    rw [HINV.out]
    have hH2 := hHeld.trans hx
    refine hK.out _ _ hH2 (fun _ => ?_)
    clear hHeld hK K
    have hHeld := hH2
    clear hH2
    try simp only [Act.put, List.setIfInBounds_toArray, List.set_cons_zero, List.set_cons_succ]
    iterate 5
      refine tkD 0 (by simp only [List.size_toArray, List.length_cons, List.length_nil]; rfl) (by simp only [List.getElem?_toArray, List.getElem?_cons_zero, List.getElem?_cons_succ]; rfl) (by kernel_rfl) (by exact fun _ _ _ h => h) (by first | (exact Or.inl ⟨by rfl, by intro w hSw; (try dsimp only at hSw); go_simp; with_reducible rfl⟩) | (exact Or.inr ⟨by rfl, by rfl⟩)) (by assumption) ?_
      try simp only [Act.put, List.setIfInBounds_toArray, List.set_cons_zero, List.set_cons_succ]
    refine tkI 17 (v := (.agg (numsA .u8 a))) (by simp only [List.getElem?_toArray, List.getElem?_cons_zero, List.getElem?_cons_succ]; rfl) (by kernel_rfl) (by exact fun _ _ _ h => h) (by refine yields_loadBSP (fun W hW => BA.out.ext hW) aggKey hsza ?_ _ rfl rfl; rfl) (by assumption) ?_
    try simp only [Act.put, List.setIfInBounds_toArray, List.set_cons_zero, List.set_cons_succ]
    refine tkI 18 (v := (.agg (numsA .u8 b))) (by simp only [List.getElem?_toArray, List.getElem?_cons_zero, List.getElem?_cons_succ]; rfl) (by kernel_rfl) (by exact fun _ _ _ h => h) (by refine yields_loadBSP (fun W hW => BB.out.ext hW) aggKey hszb ?_ _ rfl rfl; rfl) (by assumption) ?_
    try simp only [Act.put, List.setIfInBounds_toArray, List.set_cons_zero, List.set_cons_succ]
    iterate 4
      refine tkD 0 (by simp only [List.size_toArray, List.length_cons, List.length_nil]; rfl) (by simp only [List.getElem?_toArray, List.getElem?_cons_zero, List.getElem?_cons_succ]; rfl) (by kernel_rfl) (by exact fun _ _ _ h => h) (by first | (exact Or.inl ⟨by rfl, by intro w hSw; (try dsimp only at hSw); go_simp; with_reducible rfl⟩) | (exact Or.inr ⟨by rfl, by rfl⟩)) (by assumption) ?_
      try simp only [Act.put, List.setIfInBounds_toArray, List.set_cons_zero, List.set_cons_succ]
    refine tkI 23 (v := (.agg (numsA .u8 b))) (by simp only [List.getElem?_toArray, List.getElem?_cons_zero, List.getElem?_cons_succ]; rfl) (by kernel_rfl) (by exact fun _ _ _ h => h) (by refine yields_loadBSP (fun W hW => BB.out.ext hW) aggKey hszb ?_ _ rfl rfl; rfl) (by assumption) ?_
    try simp only [Act.put, List.setIfInBounds_toArray, List.set_cons_zero, List.set_cons_succ]
    refine tkI 24 (v := (.agg (numsA .u8 a))) (by simp only [List.getElem?_toArray, List.getElem?_cons_zero, List.getElem?_cons_succ]; rfl) (by kernel_rfl) (by exact fun _ _ _ h => h) (by refine yields_loadBSP (fun W hW => BA.out.ext hW) aggKey hsza ?_ _ rfl rfl; rfl) (by assumption) ?_
    try simp only [Act.put, List.setIfInBounds_toArray, List.set_cons_zero, List.set_cons_succ]
    iterate 2
      refine tkD 1 (by simp only [List.size_toArray, List.length_cons, List.length_nil]; rfl) (by simp only [List.getElem?_toArray, List.getElem?_cons_zero, List.getElem?_cons_succ]; rfl) (by kernel_rfl) (by exact fun _ _ _ h => h) (by first | (exact Or.inl ⟨by rfl, by intro w hSw; (try dsimp only at hSw); go_simp; with_reducible rfl⟩) | (exact Or.inr ⟨by rfl, by rfl⟩)) (by assumption) ?_
      try simp only [Act.put, List.setIfInBounds_toArray, List.set_cons_zero, List.set_cons_succ]
    refine wpAnyH_ready (rs := [25]) (by kernel_rfl) (by simp) (AllReadyH.cons (o := ?oy2825) ?hy2825 (fun K hK => ?sy2825) AllReadyH.nil)
    case hy2825 => simp only [List.getElem?_toArray, List.getElem?_cons_zero, List.getElem?_cons_succ]; rfl
    go_simp
    refine (HCMP.out _).mono ?_
    rintro e w13 ⟨rfl, hx⟩
    have hH2 := hHeld.trans hx
    refine hK.out _ _ hH2 (fun _ => ?_)
    clear hHeld hK K
    have hHeld := hH2
    clear hH2
    try simp only [Act.put, List.setIfInBounds_toArray, List.set_cons_zero, List.set_cons_succ]
    iterate 5
      refine tkD 0 (by simp only [List.size_toArray, List.length_cons, List.length_nil]; rfl) (by simp only [List.getElem?_toArray, List.getElem?_cons_zero, List.getElem?_cons_succ]; rfl) (by kernel_rfl) (by exact fun _ _ _ h => h) (by first | (exact Or.inl ⟨by rfl, by intro w hSw; (try dsimp only at hSw); go_simp; with_reducible rfl⟩) | (exact Or.inr ⟨by rfl, by rfl⟩)) (by assumption) ?_
      try simp only [Act.put, List.setIfInBounds_toArray, List.set_cons_zero, List.set_cons_succ]
    refine tkI 33 (v := (.agg (numsA .u8 a))) (by simp only [List.getElem?_toArray, List.getElem?_cons_zero, List.getElem?_cons_succ]; rfl) (by kernel_rfl) (by exact fun _ _ _ h => h) (by refine yields_loadBSP (fun W hW => BA.out.ext hW) aggKey hsza ?_ _ rfl rfl; rfl) (by assumption) ?_
    try simp only [Act.put, List.setIfInBounds_toArray, List.set_cons_zero, List.set_cons_succ]
    refine tkI 34 (v := (.agg (numsA .u8 b))) (by simp only [List.getElem?_toArray, List.getElem?_cons_zero, List.getElem?_cons_succ]; rfl) (by kernel_rfl) (by exact fun _ _ _ h => h) (by refine yields_loadBSP (fun W hW => BB.out.ext hW) aggKey hszb ?_ _ rfl rfl; rfl) (by assumption) ?_
    try simp only [Act.put, List.setIfInBounds_toArray, List.set_cons_zero, List.set_cons_succ]
    iterate 13
      refine tkD 0 (by simp only [List.size_toArray, List.length_cons, List.length_nil]; rfl) (by simp only [List.getElem?_toArray, List.getElem?_cons_zero, List.getElem?_cons_succ]; rfl) (by kernel_rfl) (by exact fun _ _ _ h => h) (by first | (exact Or.inl ⟨by rfl, by intro w hSw; (try dsimp only at hSw); go_simp; with_reducible rfl⟩) | (exact Or.inr ⟨by rfl, by rfl⟩)) (by assumption) ?_
      try simp only [Act.put, List.setIfInBounds_toArray, List.set_cons_zero, List.set_cons_succ]
    refine tkI 48 (v := (.agg (numsA .u8 b))) (by simp only [List.getElem?_toArray, List.getElem?_cons_zero, List.getElem?_cons_succ]; rfl) (by kernel_rfl) (by exact fun _ _ _ h => h) (by refine yields_loadBSP (fun W hW => BB.out.ext hW) aggKey hszb ?_ _ rfl rfl; rfl) (by assumption) ?_
    try simp only [Act.put, List.setIfInBounds_toArray, List.set_cons_zero, List.set_cons_succ]
    refine tkI 49 (v := (.agg (numsA .u8 a))) (by simp only [List.getElem?_toArray, List.getElem?_cons_zero, List.getElem?_cons_succ]; rfl) (by kernel_rfl) (by exact fun _ _ _ h => h) (by refine yields_loadBSP (fun W hW => BA.out.ext hW) aggKey hsza ?_ _ rfl rfl; rfl) (by assumption) ?_
    try simp only [Act.put, List.setIfInBounds_toArray, List.set_cons_zero, List.set_cons_succ]
    refine wpAnyH_ready (rs := [50]) (by kernel_rfl) (by simp) (AllReadyH.cons (o := ?oy5150) ?hy5150 (fun K hK => ?sy5150) AllReadyH.nil)
    case hy5150 => simp only [List.getElem?_toArray, List.getElem?_cons_zero, List.getElem?_cons_succ]; rfl
    go_simp
    refine (HCB.out _).mono ?_
    rintro e w14 ⟨rfl, hx⟩
    have hH2 := hHeld.trans hx
    refine hK.out _ _ hH2 (fun _ => ?_)
    clear hHeld hK K
    have hHeld := hH2
    clear hH2
    try simp only [Act.put, List.setIfInBounds_toArray, List.set_cons_zero, List.set_cons_succ]
    iterate 2
      refine tkD 0 (by simp only [List.size_toArray, List.length_cons, List.length_nil]; rfl) (by simp only [List.getElem?_toArray, List.getElem?_cons_zero, List.getElem?_cons_succ]; rfl) (by kernel_rfl) (by exact fun _ _ _ h => h) (by first | (exact Or.inl ⟨by rfl, by intro w hSw; (try dsimp only at hSw); go_simp; with_reducible rfl⟩) | (exact Or.inr ⟨by rfl, by rfl⟩)) (by assumption) ?_
      try simp only [Act.put, List.setIfInBounds_toArray, List.set_cons_zero, List.set_cons_succ]
    refine wpAnyH_done (by kernel_rfl) ?_ _
    replace BA := Lib.hid (BA.out.ext hHeld)
    replace BB := Lib.hid (BB.out.ext hHeld)
    replace XW := Lib.hid (XW.out.trans hHeld)
    clear hHeld B8 BX HINV p3 p4 p5 hnq
    go_wp2_with (refine wpl_loadB BA.out aggKey hsza rfl _ rfl rfl ?_)
    refine (HTX.out _).mono ?_
    rintro e w15 ⟨rfl, hx⟩
    replace BA := Lib.hid (BA.out.ext hx)
    replace BB := Lib.hid (BB.out.ext hx)
    replace XW := Lib.hid (XW.out.trans hx)
    clear hx
    go_wp2_with (refine wpl_loadB BB.out aggKey hszb rfl _ rfl rfl ?_)
    refine (HTY.out _).mono ?_
    rintro e w16 ⟨rfl, hx⟩
    replace BA := Lib.hid (BA.out.ext hx)
    replace BB := Lib.hid (BB.out.ext hx)
    replace XW := Lib.hid (XW.out.trans hx)
    clear hx
    have hls := HLS.out
    go_wp2_with fail
    clear HLS hls p1 heq hT64 HTX HTY HRK HCMP HCB
    go_loopw [15] (fun i wr => ∃ k : Nat, k ≤ n ∧ i = .int .i64 k ∧ Ext w16 wr) (fun i _ => n - (intOf i).toNat)
    case atStart => exact ⟨0, by omega, rfl, Ext.refl _⟩
    case round =>
      obtain ⟨k, hk, rfl, hx⟩ := hrel
      have HX := Lib.hid hx
      have BA1 := Lib.hid (BA.out.ext hx)
      have BB1 := Lib.hid (BB.out.ext hx)
      have XW1 := Lib.hid (XW.out.trans hx)
      clear hx BA BB
      by_cases hlt : k < n
      · have hkI : (k : Int) < (n : Int) := by omega
        have hk0 : (0 : Int) ≤ (k : Int) := by omega
        have c0 := BA1.out.num (k / 8) (by rw [HKA.out.1]; omega)
        have c1 := BB1.out.num (k / 8) (by rw [HKB.out.1]; omega)
        have HS := Lib.hid (HSAME.out k hlt)
        have za := HKA.out.2.get (k / 8)
        have zb := HKB.out.2.get (k / 8)
        have ba := bit_and za (k % 8)
        have bb := bit_and zb (k % 8)
        generalize gI a (k / 8) = ya at c0 HS za ba
        generalize gI b (k / 8) = yb at c1 HS zb bb
        rw [← HS.out] at bb
        generalize bitN ya (k % 8) = Y at ba bb
        clear HS
        go_wp2_with fail
        go_quiet (fail)
        go_wp2
        go_roundw
        case rel => exact ⟨k + 1, by omega, by go_num, HX.out.drewN _⟩
        case measure => simp [intOf]; omega
      · obtain rfl : k = n := by omega
        by_cases h256 : k = 256
        · subst h256
          clear p2
          have p2 : (((256 : Nat) : Int) == 256) = true := by decide
          go_wp2_with fail
          go_quiet (fail)
          go_wp2
          go_ret
          exact ⟨rfl, XW1.out.drewN _⟩
        · have hk0 : (0 : Int) ≤ (k : Int) := by omega
          have p3 : ((k : Int) == 256) = false := by rw [beq_eq_false_iff_ne]; omega
          clear p2
          have c0 := BA1.out.num (k / 8) (by rw [HKA.out.1]; omega)
          have c1 := BB1.out.num (k / 8) (by rw [HKB.out.1]; omega)
          have HS := Lib.hid (HDIFF.out (by omega))
          have za := HKA.out.2.get (k / 8)
          have zb := HKB.out.2.get (k / 8)
          have ba := bit_and za (k % 8)
          have bb := bit_and zb (k % 8)
          generalize gI a (k / 8) = ya at c0 HS za ba
          generalize gI b (k / 8) = yb at c1 HS zb bb
          generalize bitN ya (k % 8) = Y1 at ba HS
          generalize bitN yb (k % 8) = Y2 at bb HS
          have hne : (Y1 != Y2) = true := by rw [bne_iff_ne]; exact HS.out
          go_wp2_with fail
          go_quiet (fail)
          go_wp2
          go_ret
          exact ⟨rfl, XW1.out.drewN _⟩
end Go.Proofs.Ytdjclllnmclocaa
