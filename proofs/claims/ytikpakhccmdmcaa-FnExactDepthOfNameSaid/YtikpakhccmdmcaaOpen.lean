/- How the arguments of a law read: from the row's own reading to lists, numbers and strings. No condition. -/
import Derived.Test.YtikpakhccmdmcaaLib
import Derived.ProofKit
import Derived.OpenShut
import Derived.ShutString
import Derived.ChangeOld
import Derived.Below
import Derived.SizedLaws
import Derived.Deep.Slices
namespace Go.Proofs.Ytikpakhccmdmcaa
open Go.RowKit Go.ChangeShapes Go.WideShapes Go.Deep
set_option linter.unusedVariables false
set_option linter.unusedSimpArgs false

/-- what cells say -/
abbrev Cd (α : Type) := World → (Nat → Prop) → List Value → α → Prop
def cInt (k : IntKind) : Cd Int := fun _ _ cs x => cs = [.int k x] ∧ (Lit.int k x).wf = true
def cBool : Cd Bool := fun _ _ cs x => cs = [.bool x]
def cStr : Cd ByteArray := fun _ _ cs s => cs = [.string s] ∧ s.size ≤ 140737488351232
def cArr8 (n : Nat) : Cd (List Int) := fun _ _ cs xs => cs = nums .u8 xs ∧ xs.length = n ∧ B8 xs
def cPair {α β : Type} (c : Cd α) (d : Cd β) : Cd (α × β) := fun w S cs x => ∃ c1 c2, cs = c1 ++ c2 ∧ c w S c1 x.1 ∧ d w S c2 x.2
def cSl {α : Type} (sz : Nat) (c : Cd α) : Cd (List α) := fun w S cs xs => ∃ A cap, cs = [.slice A xs.length cap] ∧ xs.length ≤ cap ∧ xs.length ≤ 140737488351232 ∧
  (0 < xs.length → ∃ g o, A = some ⟨g, o, none⟩ ∧ S g ∧ ∀ i (h : i < xs.length), ∃ es, es.length = sz ∧ (∀ j u, es[j]? = some u → w.cell? ⟨g, o + i * sz + j, none⟩ = some u) ∧ c w S es xs[i])

/-- what a row's reading of type t gives -/
def Opens {α : Type} (P : Program) (t : TypeId) (c : Cd α) : Prop :=
  ∀ (H : Type) (enc : TypeId × Value → H) (w : World) (base : Nat) (spare : Nat → Bool) (held : Bool) (fuel : Nat) (cs : List Value) (x : DataW H × List MemPlace),
    DataW.trod enc P w base spare held fuel t cs = some x → (∀ n ∈ x.1.weights P t, n ≤ reachBytes) → ∃ y, c w (fun g => g < w.heap.size) cs y

theorem opens_int {P : Program} {t : TypeId} {k : IntKind} (ht : P.underlying t = some (.int k)) : Opens P t (cInt k) := by
  intro H enc w base spare held fuel cs x h _
  obtain ⟨n, rfl, rfl, hw⟩ := DataW.trod_int ht h
  exact ⟨n, rfl, hw⟩
theorem opens_bool {P : Program} {t : TypeId} (ht : P.underlying t = some .bool) : Opens P t cBool := by
  intro H enc w base spare held fuel cs x h _
  obtain ⟨n, rfl, rfl⟩ := DataW.trod_bool ht h
  exact ⟨n, rfl⟩
theorem opens_str {P : Program} {t : TypeId} (ht : P.underlying t = some .string) : Opens P t cStr := by
  intro H enc w base spare held fuel cs x h hw
  obtain ⟨s, rfl, rfl, _⟩ := DataW.trod_string ht h
  refine ⟨s, rfl, ?_⟩
  have h2 : s.data.toList.length ≤ reachBytes := hw _ (by simp [DataW.weights])
  have h3 : s.data.toList.length = s.size := by rw [Array.length_toList]; rfl
  have h4 : reachBytes = 140737488351232 := by decide
  omega
theorem wf_u8 {n : Int} (h : (Lit.int .u8 n).wf = true) : 0 ≤ n ∧ n ≤ 255 := by
  simpa [Lit.wf, IntKind.min, IntKind.max, IntKind.signed, IntKind.bits] using h
theorem opens_arr8 {P : Program} {t e : TypeId} {n : Nat} (ht : P.underlying t = some (.array n e)) (he : P.underlying e = some (.int .u8)) (hc : P.cellsOf e = 1) (hn : P.cellsOf t = n) : Opens P t (cArr8 n) := by
  intro H enc w base spare held fuel cs x h _
  obtain ⟨xs, m, rfl, rfl, hl, hx, hi⟩ := DataW.trod_array ht h
  rw [hn] at hl
  rw [hc] at hi
  have key : ∀ i (h : i < cs.length), ∃ q, cs[i] = .int .u8 q ∧ 0 ≤ q ∧ q ≤ 255 := by
    intro i hin
    have h1 := hi i (by omega)
    rw [List.getElem?_eq_getElem (by omega : i < xs.length)] at h1
    obtain ⟨q, hq, _, hw⟩ := DataW.trod_int he h1
    rw [Nat.mul_one, List.drop_eq_getElem_cons hin] at hq
    have h3 : (cs[i] :: cs.drop (i + 1)).take 1 = [cs[i]] := rfl
    rw [h3] at hq
    exact ⟨q, by simpa using hq, wf_u8 hw⟩
  clear hi h hx
  have : ∃ ys, cs = nums .u8 ys ∧ B8 ys := by
    clear hl
    induction cs with
    | nil => exact ⟨[], rfl, by intro x hx; cases hx⟩
    | cons v r ih =>
      obtain ⟨ys, e, hb⟩ := ih (fun i hin => key (i + 1) (by simpa using hin))
      obtain ⟨q, hq, h0⟩ := key 0 (by simp)
      simp at hq
      refine ⟨q :: ys, by simp [nums, hq, e], fun z hz => ?_⟩
      rcases List.mem_cons.1 hz with rfl | hz
      · exact h0
      · exact hb z hz
  obtain ⟨ys, rfl, hb⟩ := this
  rw [nums_length] at hl
  exact ⟨ys, rfl, hl, hb⟩
theorem opens_struct2 {α β : Type} {P : Program} {t : TypeId} {f g : Field} {c : Cd α} {d : Cd β} (ht : P.underlying t = some (.struct #[f, g])) (h0 : f.offset = 0) (h1 : g.offset = P.cellsOf f.type) (hc : P.cellsOf t = P.cellsOf f.type + P.cellsOf g.type)
    (hf : Opens P f.type c) (hg : Opens P g.type d) : Opens P t (cPair c d) := by
  intro H enc w base spare held fuel cs x h hw
  obtain ⟨xs, m, rfl, rfl, hl, hx, hi⟩ := DataW.trod_struct ht h
  match xs, hx with
  | [y0, y1], _ =>
    have e0 := hi 0 f rfl
    have e1 := hi 1 g rfl
    simp only [List.getElem?_cons_zero, List.getElem?_cons_succ] at e0 e1
    rw [h0, List.drop_zero] at e0
    rw [h1, List.take_of_length_le (by rw [List.length_drop]; omega)] at e1
    obtain ⟨a, ha⟩ := hf _ _ _ _ _ _ _ _ _ e0 (fun n hn => hw n (by simp [DataW.weights, ht, DataW.weightsEach, hn]))
    obtain ⟨b, hb⟩ := hg _ _ _ _ _ _ _ _ _ e1 (fun n hn => hw n (by simp [DataW.weights, ht, DataW.weightsEach, hn]))
    exact ⟨(a, b), _, _, (List.take_append_drop _ _).symm, ha, hb⟩
theorem opens_struct3 {α β γ : Type} {P : Program} {t : TypeId} {f g k : Field} {c : Cd α} {d : Cd β} {b : Cd γ} (ht : P.underlying t = some (.struct #[f, g, k])) (h0 : f.offset = 0) (h1 : g.offset = P.cellsOf f.type) (h2 : k.offset = P.cellsOf f.type + P.cellsOf g.type) (hc : P.cellsOf t = P.cellsOf f.type + P.cellsOf g.type + P.cellsOf k.type)
    (hf : Opens P f.type c) (hg : Opens P g.type d) (hk : Opens P k.type b) : Opens P t (cPair c (cPair d b)) := by
  intro H enc w base spare held fuel cs x h hw
  obtain ⟨xs, m, rfl, rfl, hl, hx, hi⟩ := DataW.trod_struct ht h
  match xs, hx with
  | [y0, y1, y2], _ =>
    have e0 := hi 0 f rfl
    have e1 := hi 1 g rfl
    have e2 := hi 2 k rfl
    simp only [List.getElem?_cons_zero, List.getElem?_cons_succ] at e0 e1 e2
    rw [h0, List.drop_zero] at e0
    rw [h1] at e1
    rw [h2, List.take_of_length_le (by rw [List.length_drop]; omega)] at e2
    obtain ⟨a, ha⟩ := hf _ _ _ _ _ _ _ _ _ e0 (fun n hn => hw n (by simp [DataW.weights, ht, DataW.weightsEach, hn]))
    obtain ⟨b', hb⟩ := hg _ _ _ _ _ _ _ _ _ e1 (fun n hn => hw n (by simp [DataW.weights, ht, DataW.weightsEach, hn]))
    obtain ⟨q, hq⟩ := hk _ _ _ _ _ _ _ _ _ e2 (fun n hn => hw n (by simp [DataW.weights, ht, DataW.weightsEach, hn]))
    refine ⟨(a, b', q), _, _, (List.take_append_drop (P.cellsOf f.type) _).symm, ha, _, _, ?_, hb, hq⟩
    rw [← List.drop_drop]
    exact (List.take_append_drop _ _).symm
theorem opens_struct4 {α β γ δ : Type} {P : Program} {t : TypeId} {f g k l : Field} {c : Cd α} {d : Cd β} {b : Cd γ} {r : Cd δ} (ht : P.underlying t = some (.struct #[f, g, k, l])) (h0 : f.offset = 0) (h1 : g.offset = P.cellsOf f.type) (h2 : k.offset = P.cellsOf f.type + P.cellsOf g.type) (h3 : l.offset = P.cellsOf f.type + P.cellsOf g.type + P.cellsOf k.type) (hc : P.cellsOf t = P.cellsOf f.type + P.cellsOf g.type + P.cellsOf k.type + P.cellsOf l.type)
    (hf : Opens P f.type c) (hg : Opens P g.type d) (hk : Opens P k.type b) (hr : Opens P l.type r) : Opens P t (cPair c (cPair d (cPair b r))) := by
  intro H enc w base spare held fuel cs x h hw
  obtain ⟨xs, m, rfl, rfl, hl, hx, hi⟩ := DataW.trod_struct ht h
  match xs, hx with
  | [y0, y1, y2, y3], _ =>
    have e0 := hi 0 f rfl
    have e1 := hi 1 g rfl
    have e2 := hi 2 k rfl
    have e3 := hi 3 l rfl
    simp only [List.getElem?_cons_zero, List.getElem?_cons_succ] at e0 e1 e2 e3
    rw [h0, List.drop_zero] at e0
    rw [h1] at e1
    rw [h2] at e2
    rw [h3, List.take_of_length_le (by rw [List.length_drop]; omega)] at e3
    obtain ⟨a, ha⟩ := hf _ _ _ _ _ _ _ _ _ e0 (fun n hn => hw n (by simp [DataW.weights, ht, DataW.weightsEach, hn]))
    obtain ⟨b', hb⟩ := hg _ _ _ _ _ _ _ _ _ e1 (fun n hn => hw n (by simp [DataW.weights, ht, DataW.weightsEach, hn]))
    obtain ⟨q, hq⟩ := hk _ _ _ _ _ _ _ _ _ e2 (fun n hn => hw n (by simp [DataW.weights, ht, DataW.weightsEach, hn]))
    obtain ⟨z, hz⟩ := hr _ _ _ _ _ _ _ _ _ e3 (fun n hn => hw n (by simp [DataW.weights, ht, DataW.weightsEach, hn]))
    refine ⟨(a, b', q, z), _, _, (List.take_append_drop (P.cellsOf f.type) _).symm, ha, _, cs.drop (P.cellsOf f.type + P.cellsOf g.type), ?_, hb, _, _, ?_, hq, hz⟩
    · have h4 := List.take_append_drop (P.cellsOf g.type) (cs.drop (P.cellsOf f.type))
      rw [List.drop_drop] at h4
      exact h4.symm
    · have h4 := List.take_append_drop (P.cellsOf k.type) (cs.drop (P.cellsOf f.type + P.cellsOf g.type))
      rw [List.drop_drop] at h4
      exact h4.symm
theorem weightsAll_mem {H : Type} {P : Program} {e : TypeId} {l : List (DataW H)} {d : DataW H} (hd : d ∈ l) {n : Nat} (hn : n ∈ d.weights P e) : n ∈ DataW.weightsAll P e l := by
  induction l with
  | nil => cases hd
  | cons x r ih =>
    simp only [DataW.weightsAll, List.mem_append]
    rcases List.mem_cons.1 hd with rfl | hd
    · exact .inl hn
    · exact .inr (ih hd)
theorem opens_slice {α : Type} {P : Program} {t e : TypeId} {c : Cd α} {sz : Nat} (ht : P.underlying t = some (.slice e)) (hs : P.cellsOf e = sz) (hb : 0 < P.bytesOf e) (hz : 0 < sz) (hc : Opens P e c) : Opens P t (cSl sz c) := by
  intro H enc w base spare held fuel cs x h hw
  rcases open_slice ht h with ⟨rfl, rfl⟩ | ⟨a, len, cap, m, n, D, Pl, rfl, _, hlc, hcm, hm, rfl, hi⟩
  · exact ⟨[], none, 0, rfl, Nat.le_refl _, by simp, fun h => absurd h (by simp)⟩
  · have hlm : len ≤ m := by rw [hm]; split <;> omega
    have hwl : len ≤ 140737488351232 := by
      have h1 := hw ((((List.range len).map D).length + ((List.range (m - len)).map fun j => D (len + j)).length) * P.bytesOf e) (by simp [DataW.weights, ht])
      have h4 : reachBytes = 140737488351232 := by decide
      simp at h1
      have : len * 1 ≤ (len + (m - len)) * P.bytesOf e := Nat.mul_le_mul (by omega) hb
      omega
    have key : ∀ i, i < len → ∃ y es, es.length = sz ∧ (∀ j u, es[j]? = some u → w.cell? ((a.add (i * sz)).add j) = some u) ∧ c w (fun g => g < w.heap.size) es y := by
      intro i hil
      obtain ⟨cs', h1, h2⟩ := hi i (by omega)
      rw [hs] at h1
      obtain ⟨_, hcl, hat⟩ := World.cells?_some h1
      obtain ⟨y, hy⟩ := hc _ _ _ _ _ _ _ _ _ h2 (fun q hq => hw q (by
        simp only [DataW.weights, ht, List.mem_cons, List.mem_append]
        exact .inr (.inl (weightsAll_mem (List.mem_map.2 ⟨i, List.mem_range.2 hil, rfl⟩) hq))))
      refine ⟨y, cs', hcl, fun j u hu => ?_, hy⟩
      have hj : j < sz := by have := (List.getElem?_eq_some_iff.1 hu).1; omega
      rw [hat j hj, hu]
    rcases Nat.eq_zero_or_pos len with h0 | h0
    · subst h0
      exact ⟨[], some a, cap, rfl, Nat.zero_le _, by simp, fun h => absurd h (by simp)⟩
    · classical
      have hsp : a.spot = none := by
        obtain ⟨y, es, hel, hat, _⟩ := key 0 h0
        have h1 := hat 0 _ (List.getElem?_eq_getElem (by omega))
        simp only [Nat.zero_mul, Addr.add, if_true] at h1
        unfold World.cell? at h1
        split at h1
        · split at h1
          · cases h1
          · rename_i hne; simpa using hne
        · cases h1
      obtain ⟨g, o, sp⟩ := a
      simp at hsp
      subst hsp
      let Y : Nat → α := fun i => if h : i < len then (key i h).choose else (key 0 h0).choose
      have hY : ∀ i (h : i < len), ∃ es, es.length = sz ∧ (∀ j u, es[j]? = some u → w.cell? ⟨g, o + i * sz + j, none⟩ = some u) ∧ c w (fun g => g < w.heap.size) es (Y i) := by
        intro i h
        obtain ⟨es, h1, h2, h3⟩ := (key i h).choose_spec
        refine ⟨es, h1, fun j u hu => ?_, by simpa [Y, h] using h3⟩
        have := h2 j u hu
        simpa [Addr.add_lit] using this
      refine ⟨(List.range len).map Y, some ⟨g, o, none⟩, cap, by simp, by simpa using hlc, by simpa using hwl, fun _ => ⟨g, o, rfl, ?_, fun i hil => ?_⟩⟩
      · obtain ⟨es, h1, h2, _⟩ := hY 0 h0
        exact World.block_lt_of_cell? w _ (h2 0 _ (List.getElem?_eq_getElem (by omega)))
      · simp at hil
        simpa using hY i hil
/-- a slice of a type without pointers -/
theorem rdl_of {α : Type} {T : Ty α} {c : Cd α} {w : World} {S : Nat → Prop} {v : Value} {xs : List α} (hc : ∀ es x, c w S es x → es = T.enc x ∧ T.ok x) (h : cSl T.sz c w S [v] xs) : RdL T w S v xs := by
  obtain ⟨A, cap, hv, h1, h2, h3⟩ := h
  obtain rfl : v = .slice A xs.length cap := by simpa using hv
  have hok : ∀ x ∈ xs, T.ok x := by
    intro x hx
    obtain ⟨i, hi, rfl⟩ := List.getElem_of_mem hx
    obtain ⟨g, o, _, _, h4⟩ := h3 (by omega)
    obtain ⟨es, _, _, h5⟩ := h4 i hi
    exact (hc _ _ h5).2
  refine ⟨A, cap, rfl, h1, by omega, ⟨flat_length T xs hok, fun hn => ?_⟩, hok⟩
  obtain ⟨g, o, e, hS, h4⟩ := h3 hn
  refine ⟨g, o, e, hS, fun q u hu => ?_⟩
  have hq : q < xs.length * T.sz := by
    have := (List.getElem?_eq_some_iff.1 hu).1
    rwa [flat_length T xs hok] at this
  have hz : 0 < T.sz := by
    rcases Nat.eq_zero_or_pos T.sz with h0 | h0
    · rw [h0] at hq; omega
    · exact h0
  have hi : q / T.sz < xs.length := (Nat.div_lt_iff_lt_mul hz).2 hq
  have hd : q / T.sz * T.sz + q % T.sz = q := by rw [Nat.mul_comm]; exact Nat.div_add_mod q T.sz
  obtain ⟨es, _, h6, h7⟩ := h4 (q / T.sz) hi
  rw [← hd, flat_at T xs hok _ hi _ (Nat.mod_lt _ hz), ← (hc _ _ h7).1] at hu
  have := h6 _ u hu
  rwa [Nat.add_assoc, hd] at this
theorem c_byte : ∀ {w : World} {S : Nat → Prop} (es : List Value) (x : Int), cInt .u8 w S es x → es = tByte.enc x ∧ tByte.ok x := fun es x h => ⟨h.1, wf_u8 h.2⟩
theorem c_key : ∀ {w : World} {S : Nat → Prop} (es : List Value) (x : List Int), cArr8 32 w S es x → es = tKey.enc x ∧ tKey.ok x := fun es x h => ⟨h.1, h.2⟩
theorem c_entry : ∀ {w : World} {S : Nat → Prop} (es : List Value) (x : ByteArray × ByteArray), cPair cStr cStr w S es x → es = tEntry.enc x ∧ tEntry.ok x := by
  rintro w S es x ⟨c1, c2, rfl, ⟨rfl, _⟩, rfl, _⟩
  exact ⟨rfl, trivial⟩

/-- an argument, opened -/
theorem open_arg {α : Type} {P : Program} {t : TypeId} {c : Cd α} (ho : Opens P t c) {H : Type} {enc : TypeId × Value → H} {w : World} {base : Nat} {spare : Nat → Bool} {held : Bool} {v : Value} {d : DataW H} {ps : List MemPlace} {ts : List TypeId} {ds : List (DataW H)} {j : Nat}
    (hsz : (DataW.weightsEach P ts ds).all (· ≤ reachBytes) = true) (ht : ts[j]? = some t) (hd : ds[j]? = some d) (h : DataW.Trod enc P w base spare held t v d ps) : ∃ y, c w (fun g => g < w.heap.size) v.cells.toList y := by
  obtain ⟨fuel, hf⟩ := h
  exact ho _ _ _ _ _ _ _ _ _ hf fun n hn => by simpa using List.all_eq_true.1 hsz n (DataW.weights_mem_each ht hd n hn)
theorem okWide_arr {P : Program} {w : World} {r : Reach} {base : Nat} {t e : TypeId} {n : Nat} {v : Value} (ht : P.underlying t = some (.array n e)) (h : Value.okWide P w r base t v) : ∃ cs, v = .agg cs := by
  simp only [Value.okWide, ht] at h
  obtain ⟨cs, h1, _⟩ := h
  exact ⟨cs, h1⟩
theorem agg_of {cs : Array Value} {l : List Value} (h : (Value.agg cs).cells.toList = l) : Value.agg cs = .agg l.toArray := by
  subst h
  simp [Value.cells]

end Go.Proofs.Ytikpakhccmdmcaa
