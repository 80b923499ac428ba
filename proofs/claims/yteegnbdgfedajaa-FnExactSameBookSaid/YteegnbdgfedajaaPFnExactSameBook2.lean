/- What the walk of the law FnExactSameBook needs, part 2 of 4. No condition. -/
import Derived.Lib.AppendZeros
import Derived.Deep.RegionLaw
import Derived.Laws.CopyRow
import Derived.Deep.RegionHeld3
import Derived.Laws.StructEq
import Derived.Test.YteegnbdgfedajaaPFnExactSameBook1
/- Books: copied, counted, held against each other. No condition. -/
namespace Go.Proofs.Yteegnbdgfedajaa
open Go.RowKit
set_option linter.unusedVariables false
set_option linter.unusedSimpArgs false

abbrev Bk := List Cm × List Ens
/-- the cells of a book -/
def RBook (w : World) (S : Nat → Prop) (cs : Array Value) (x : Bk) : Prop := ∃ v1 v2, cs = #[v1, v2] ∧ RdN nrCommit w S v1 x.1 ∧ RdN nrEnts w S v2 x.2
section
variable {w w' : World} {S : Nat → Prop} {cs : Array Value} {x : Bk}
theorem RBook.ext (h : RBook w S cs x) (e : Ext w w') : RBook w' S cs x := by
  obtain ⟨v1, v2, h1, h2, h3⟩ := h
  exact ⟨v1, v2, h1, h2.ext e, h3.ext e⟩
theorem RBook.st (h : RBook w S cs x) : St 2 cs := by
  obtain ⟨v1, v2, rfl, h2, h3⟩ := h
  obtain ⟨A, cap, rfl, _⟩ := h2.shape
  obtain ⟨A2, cap2, rfl, _⟩ := h3.shape
  exact ⟨rfl, fun u hu => by simp at hu; rcases hu with rfl | rfl <;> rfl⟩
end
theorem aggBookL : Agg Try.prog 51 2 := Agg.mkS (fs := _) Try.underlying51 (by kernel_rfl)
theorem aggBookI : Agg Try.prog 57 2 := Agg.mkS (fs := _) Try.underlying57 (by kernel_rfl)
/-- how much a book takes -/
@[irreducible] def wBook (x : Bk) : Nat := szW wCommit x.1 + szW entsN x.2
theorem wBook_eq (x : Bk) : wBook x = szW wCommit x.1 + szW entsN x.2 := by rw [wBook]
/-- a book of this size can be copied -/
def smallBook (x : Bk) : Prop := (x.1.length ≤ 1048576 ∧ ∀ c ∈ x.1, c.par.length ≤ 1048576) ∧ x.2.length ≤ 1048576 ∧ ∀ e ∈ x.2, e.length ≤ 1048576
theorem smallBook_of {x : Bk} (h : wBook x ≤ 1048576) : smallBook x := by
  rw [wBook_eq] at h
  have h1 := szW_eq wCommit x.1
  have h2 := szW_eq entsN x.2
  refine ⟨⟨by omega, fun c hc => ?_⟩, by omega, fun e he => ?_⟩
  · have h3 := szW_mem wCommit x.1 c hc
    unfold wCommit at h3
    unfold wCommit at h h1
    omega
  · have h3 := szW_mem entsN x.2 e he
    rw [entsN_eq] at h3
    omega
set_option maxHeartbeats 1000000 in
set_option maxRecDepth 100000 in
theorem szBook_u (cs : Array Value) (x : Bk) (l : Int) (w : World) (S : Nat → Prop) (h : RBook w S cs x) (h0 : -1 ≤ l) (h1 : l ≤ 1048576) :
    Calls Try.prog 29 #[.agg cs, .int .i64 l] w fun e w' => e = .returned (.int .i64 (if l - (wBook x : Nat) < 0 then -1 else l - (wBook x : Nat))) ∧ Ext w w' := by
  rw [wBook_eq]
  obtain ⟨v1, v2, rfl, hr, hr2⟩ := h
  have hc := fun W hW => szCommitS_u v1 x.1 l W S (hr.ext hW) h0 h1
  have hc2 := fun m W hW h2 h3 => szEntrySS_u v2 x.2 m W S (hr2.ext hW) h2 h3
  obtain ⟨A, cap, rfl, _⟩ := hr.shape
  obtain ⟨A2, cap2, rfl, _⟩ := hr2.shape
  obtain ⟨a, ha⟩ : ∃ a, szW wCommit x.1 = a := ⟨_, rfl⟩
  obtain ⟨b, hb⟩ : ∃ b, szW entsN x.2 = b := ⟨_, rfl⟩
  rw [ha] at hc ⊢
  rw [hb] at hc2 ⊢
  clear hr hr2 ha hb
  have B0 := Lib.hid (Blk.new w 51 #[.slice A x.1.length cap, .slice A2 x.2.length cap2])
  by_cases h2 : l - (a : Int) < 0
  · rw [if_pos (by omega)]
    simp only [if_pos h2] at hc
    have HC := Lib.hid hc
    clear hc hc2 h2
    go_enter Try.func29, Try.ntmps29
    go_wp2_with fail
    refine (HC.out _ (ext_alloc _ _)).mono ?_
    rintro e w1 ⟨rfl, hx⟩
    have HX := Lib.hid ((ext_alloc _ _).trans hx)
    clear hx
    go_wp2
    go_ret
    exact ⟨rfl, HX.out⟩
  · simp only [if_neg h2] at hc
    have HC := Lib.hid hc
    clear hc
    by_cases h3 : l - (a : Int) - (b : Int) < 0
    · rw [if_pos (by omega)]
      have HC2 := Lib.hid (fun W hW => hc2 (l - (a : Int)) W hW (by omega) (by omega))
      simp only [if_pos h3] at HC2
      clear hc2
      go_enter Try.func29, Try.ntmps29
      go_wp2_with fail
      refine (HC.out _ (ext_alloc _ _)).mono ?_
      rintro e w1 ⟨rfl, hx⟩
      have HX := Lib.hid ((ext_alloc _ _).trans hx)
      have d0 := (B0.out.ext hx).at_ 1 rfl
      clear hx
      go_wp2_with fail
      refine (HC2.out _ HX.out).mono ?_
      rintro e w2 ⟨rfl, hx⟩
      have HX2 := Lib.hid (HX.out.trans hx)
      clear hx d0
      go_wp2
      go_ret
      exact ⟨rfl, HX2.out⟩
    · rw [if_neg (by omega)]
      have HC2 := Lib.hid (fun W hW => hc2 (l - (a : Int)) W hW (by omega) (by omega))
      simp only [if_neg h3] at HC2
      clear hc2
      go_enter Try.func29, Try.ntmps29
      go_wp2_with fail
      refine (HC.out _ (ext_alloc _ _)).mono ?_
      rintro e w1 ⟨rfl, hx⟩
      have HX := Lib.hid ((ext_alloc _ _).trans hx)
      have d0 := (B0.out.ext hx).at_ 1 rfl
      clear hx
      go_wp2_with fail
      refine (HC2.out _ HX.out).mono ?_
      rintro e w2 ⟨rfl, hx⟩
      have HX2 := Lib.hid (HX.out.trans hx)
      clear hx d0
      go_wp2
      go_ret
      exact ⟨ret_int (by omega), HX2.out⟩
set_option maxHeartbeats 1000000 in
set_option maxRecDepth 100000 in
theorem toBook_u (cs : Array Value) (x : Bk) (w : World) (S : Nat → Prop) (h : RBook w S cs x) (hln : smallBook x) :
    Calls Try.prog 31 #[.agg cs] w fun e w' => ∃ cs', e = .returned (.agg cs') ∧ RBook w' (fun g => w.heap.size ≤ g) cs' x ∧ Ext w w' := by
  obtain ⟨v1, v2, rfl, hr, hr2⟩ := h
  have HC := Lib.hid (fun W hW => toCommitS_u v1 x.1 W S (hr.ext hW) hln.1.1 hln.1.2)
  have HC2 := Lib.hid (fun W hW => toEntrySS_u v2 x.2 W S (hr2.ext hW) hln.2.1 hln.2.2)
  obtain ⟨A, cap, rfl, _⟩ := hr.shape
  obtain ⟨A2, cap2, rfl, _⟩ := hr2.shape
  clear hr hr2
  go_enter Try.func31, Try.ntmps31
  go_wp2_with fail
  refine (HC.out _ (((ext_alloc _ _).alloc _).alloc _)).mono ?_
  rintro e w1 ⟨v', rfl, hr, hx⟩
  obtain ⟨B, bc, rfl, _⟩ := hr.shape
  have HR := Lib.hid (hr.mono (S' := fun q => w.heap.size + 3 ≤ q) (fun q hq => by simpa using hq))
  have XW := Lib.hid ((((ext_alloc w _).alloc _).alloc _).trans hx)
  have hnb : w.heap.size + 3 ≤ w1.heap.size := by have := hx.size; simpa using this
  have B0 := Lib.hid ((((Blk.new w 51 #[.slice A x.1.length cap, .slice A2 x.2.length cap2]).alloc (.cells #[.slice none 0 0, .slice none 0 0] 57)).alloc (.cells #[.slice none 0 0, .slice none 0 0] 57)).ext hx)
  have B1 := Lib.hid (((Blk.new' (g := w.heap.size + 1) (w := w.alloc (.cells #[.slice A x.1.length cap, .slice A2 x.2.length cap2] 51)) (by simp) 57 #[.slice none 0 0, .slice none 0 0]).alloc (.cells #[.slice none 0 0, .slice none 0 0] 57)).ext hx)
  have B2 := Lib.hid ((Blk.new' (g := w.heap.size + 2) (w := (w.alloc (.cells #[.slice A x.1.length cap, .slice A2 x.2.length cap2] 51)).alloc (.cells #[.slice none 0 0, .slice none 0 0] 57)) (by simp) 57 #[.slice none 0 0, .slice none 0 0]).ext hx)
  clear hr hx
  have d0 := B0.out.at_ 1 rfl
  have d2 := B2.out.at_ 0 rfl
  have f2 := B2.out.free 0
  have d3 : (w1.setCell ⟨w.heap.size + 1 + 1, 0, none⟩ (.slice B x.1.length bc)).cell? ⟨w.heap.size, 1, none⟩ = some (.slice A2 x.2.length cap2) := (B0.out.far (p := ⟨w.heap.size + 1 + 1, 0, none⟩) (by show w.heap.size ≠ w.heap.size + 1 + 1; omega) _).at_ 1 rfl
  have XS := Lib.hid (XW.out.set (p := ⟨w.heap.size + 1 + 1, 0, none⟩) (by show w.heap.size ≤ w.heap.size + 1 + 1; omega) (.slice B x.1.length bc))
  have B1' := Lib.hid (B1.out.far (p := ⟨w.heap.size + 1 + 1, 0, none⟩) (by show w.heap.size + 1 ≠ w.heap.size + 1 + 1; omega) (.slice B x.1.length bc))
  have B2' := Lib.hid (B2.out.set 0 (.slice B x.1.length bc))
  have HR' := Lib.hid (HR.out.far (p := ⟨w.heap.size + 1 + 1, 0, none⟩) (fun g hg => by have h2 : w.heap.size + 3 ≤ g := hg; show g ≠ w.heap.size + 1 + 1; omega) (.slice B x.1.length bc))
  go_wp2_with fail
  refine (HC2.out _ XS.out).mono ?_
  rintro e w2 ⟨v', rfl, hr, hx⟩
  obtain ⟨C, cc, rfl, _⟩ := hr.shape
  have HE := Lib.hid (hr.mono (S' := fun q => w.heap.size + 3 ≤ q) (fun q hq => Nat.le_trans hnb (by simpa using hq)))
  have HR2 := Lib.hid (HR'.out.ext hx)
  have XW2 := Lib.hid (XS.out.trans hx)
  have C1 := Lib.hid (B1'.out.ext hx)
  have C2 := Lib.hid (B2'.out.ext hx)
  clear hr hx d0 d2 d3 f2 B0 B1 B2 B1' B2' HR HR' XW XS hnb
  have e0 := C2.out.at_ 0 rfl
  have e1 := C2.out.at_ 1 rfl
  have f1 := C2.out.free 1
  have D2 := Lib.hid (C2.out.set 1 (.slice C x.2.length cc))
  have D1 := Lib.hid (C1.out.far (p := ⟨w.heap.size + 1 + 1, 1, none⟩) (by show w.heap.size + 1 ≠ w.heap.size + 1 + 1; omega) (.slice C x.2.length cc))
  have hS : St 2 #[.slice B x.1.length bc, .slice C x.2.length cc] := ⟨rfl, fun u hu => by simp at hu; rcases hu with rfl | rfl <;> rfl⟩
  have HS := Lib.hid hS
  clear hS
  go_wp2_with (first | (refine wpl_loadB (cs := #[.slice B x.1.length bc, .slice C x.2.length cc]) D2.out aggBookI rfl rfl _ rfl rfl ?_) | (refine wpl_storeB (cs := #[.slice B x.1.length bc, .slice C x.2.length cc]) D1.out aggBookI HS.out rfl rfl _ _ rfl rfl rfl rfl ?_))
  have F : ∀ {α : Type} {N : NR α} {v : Value} {xs : List α}, RdN N w2 (fun q => w.heap.size + 3 ≤ q) v xs → RdN N ((w2.setCell ⟨w.heap.size + 1 + 1, 1, none⟩ (.slice C x.2.length cc)).setRow (w.heap.size + 1) #[.slice B x.1.length bc, .slice C x.2.length cc]) (fun g => w.heap.size ≤ g) v xs := fun h =>
    ((h.far (p := ⟨w.heap.size + 1 + 1, 1, none⟩) (fun g hg => by have h2 : w.heap.size + 3 ≤ g := hg; show g ≠ w.heap.size + 1 + 1; omega) _).keep (fun g hg => setRow_other _ _ g _ (by have h2 : w.heap.size + 3 ≤ g := hg; omega))).mono (fun g hg => by have h2 : w.heap.size + 3 ≤ g := hg; show w.heap.size ≤ g; omega)
  refine bodyPost_ret (results_blkB rfl _ rfl aggBookI rfl (D1.out.setRow _)) rfl ?_
  exact ⟨_, rfl, ⟨_, _, rfl, F HR2.out, F HE.out⟩, (XW2.out.set (by show w.heap.size ≤ w.heap.size + 1 + 1; omega) _).setRow (by omega) _⟩
set_option maxHeartbeats 1000000 in
set_option maxRecDepth 100000 in
theorem eqBook_u (cs cs' : Array Value) (x : Bk) (w : World) (S S' : Nat → Prop) (h : RBook w S cs x) (h' : RBook w S' cs' x) :
    Calls Try.prog 33 #[.agg cs, .agg cs'] w fun e w' => e = .returned (.bool true) ∧ Ext w w' := by
  obtain ⟨v1, v2, rfl, hr, hr2⟩ := h
  obtain ⟨u1, u2, rfl, hr', hr2'⟩ := h'
  have HC := Lib.hid (fun W hW => eqCommitS_u v1 u1 x.1 W S S' (hr.ext hW) (hr'.ext hW))
  have HC2 := Lib.hid (fun W hW => eqEntrySS_u v2 u2 x.2 W S S' (hr2.ext hW) (hr2'.ext hW))
  obtain ⟨A, cap, rfl, _⟩ := hr.shape
  obtain ⟨A2, cap2, rfl, _⟩ := hr2.shape
  obtain ⟨B, bap, rfl, _⟩ := hr'.shape
  obtain ⟨B2, bap2, rfl, _⟩ := hr2'.shape
  clear hr hr2 hr' hr2'
  have B0 := Lib.hid ((Blk.new w 57 #[.slice A x.1.length cap, .slice A2 x.2.length cap2]).alloc (.cells #[.slice B x.1.length bap, .slice B2 x.2.length bap2] 57))
  have B1 := Lib.hid (Blk.new' (g := w.heap.size + 1) (w := w.alloc (.cells #[.slice A x.1.length cap, .slice A2 x.2.length cap2] 57)) (by simp) 57 #[.slice B x.1.length bap, .slice B2 x.2.length bap2])
  go_enter Try.func33, Try.ntmps33
  go_wp2_with fail
  refine (HC.out _ ((ext_alloc _ _).alloc _)).mono ?_
  rintro e w1 ⟨rfl, hx⟩
  have XW := Lib.hid (((ext_alloc w _).alloc _).trans hx)
  have d0 := (B0.out.ext hx).at_ 1 rfl
  have d1 := (B1.out.ext hx).at_ 1 rfl
  clear hx
  go_wp2_with fail
  refine (HC2.out _ XW.out).mono ?_
  rintro e w2 ⟨rfl, hx⟩
  have XW2 := Lib.hid (XW.out.trans hx)
  clear hx d0 d1
  go_wp2_with fail
  go_ret
  exact ⟨rfl, XW2.out⟩
end Go.Proofs.Yteegnbdgfedajaa
/- Mixing of blocks into a state, in plain words. No condition. -/
namespace Go.Proofs.Yteegnbdgfedajaa
open Go.RowKit
set_option linter.unusedVariables false
set_option linter.unusedSimpArgs false

/-- words of 32 bits -/
def U32 (xs : List Int) : Prop := ∀ x ∈ xs, 0 ≤ x ∧ x ≤ 4294967295
theorem U32.get {xs : List Int} (h : U32 xs) (i : Nat) : 0 ≤ gI xs i ∧ gI xs i ≤ 4294967295 := by
  unfold gI
  by_cases hi : i < xs.length
  · have := h (xs[i]) (List.getElem_mem hi); simpa [List.getD_eq_getElem?_getD, List.getElem?_eq_getElem hi] using this
  · simp [List.getD_eq_getElem?_getD, List.getElem?_eq_none (by omega : xs.length ≤ i)]
theorem U32.set {xs : List Int} (h : U32 xs) (i : Nat) {x : Int} (hx : 0 ≤ x ∧ x ≤ 4294967295) : U32 (xs.set i x) := by
  intro y hy
  rcases List.mem_or_eq_of_mem_set hy with hy | rfl
  · exact h y hy
  · exact hx
theorem gI_set (xs : List Int) (i j : Nat) (x : Int) (hi : i < xs.length) : gI (xs.set i x) j = if i = j then x else gI xs j := by
  unfold gI
  simp only [List.getD_eq_getElem?_getD, List.getElem?_set, hi, if_true]
  split <;> simp
theorem set_same (xs : List Int) (i : Nat) (h : i < xs.length) : xs.set i (gI xs i) = xs := by
  rw [gI_lt h]; exact List.set_getElem_self h
theorem mod32 (x : Int) : 0 ≤ x % 4294967296 ∧ x % 4294967296 ≤ 4294967295 := by omega
theorem bits32 (op : BinOp) (x y : Int) : 0 ≤ bits op .u32 x y ∧ bits op .u32 x y ≤ 4294967295 := by
  have h : ∀ z, 0 ≤ IntKind.u32.wrap z ∧ IntKind.u32.wrap z ≤ 4294967295 := fun z => by rw [IntKind.wrap_u32]; omega
  unfold bits
  exact h _
@[irreducible] def turn7 (x : Int) : Int := bits .or .u32 (x * 128 % 4294967296) (x / 33554432)
@[irreducible] def turn13 (x : Int) : Int := bits .or .u32 (x * 8192 % 4294967296) (x / 524288)
/-- word i of a block -/
def word (b : List Int) (i : Nat) : Int := littleN ((b.drop (4 * i)).take 4)
@[irreducible] def words (b : List Int) : List Int := (List.range 8).map (word b)
/-- one step of the mixing -/
@[irreducible] def mixStep (m : List Int) (r i : Nat) (s : List Int) : List Int :=
  s.set i ((bits .xor .u32 (turn7 ((gI s i + gI m ((i + 3 * r) % 8) + 2654435769 * (8 * (r : Int) + (i : Int) + 1)) % 4294967296)) (gI s ((i + 1) % 8)) + turn13 (gI s ((i + 5) % 8))) % 4294967296)
def mixInR (m : List Int) (r : Nat) : Nat → List Int → List Int
  | 0, s => s
  | i + 1, s => mixStep m r i (mixInR m r i s)
@[irreducible] def mixIn (m : List Int) (r i : Nat) (s : List Int) : List Int := mixInR m r i s
def mixOutR (m : List Int) : Nat → List Int → List Int
  | 0, s => s
  | r + 1, s => mixIn m r 8 (mixOutR m r s)
@[irreducible] def mixOut (m : List Int) (r : Nat) (s : List Int) : List Int := mixOutR m r s
def xorInR (st : List Int) : Nat → List Int → List Int
  | 0, s => s
  | i + 1, s => (xorInR st i s).set i (bits .xor .u32 (gI (xorInR st i s) i) (gI st i))
@[irreducible] def xorIn (st : List Int) (i : Nat) (s : List Int) : List Int := xorInR st i s
theorem mixIn_zero (m : List Int) (r : Nat) (s : List Int) : mixIn m r 0 s = s := by unfold mixIn; rfl
theorem mixIn_succ (m : List Int) (r i : Nat) (s : List Int) : mixIn m r (i + 1) s = mixStep m r i (mixIn m r i s) := by unfold mixIn; rfl
theorem mixOut_zero (m s : List Int) : mixOut m 0 s = s := by unfold mixOut; rfl
theorem mixOut_succ (m : List Int) (r : Nat) (s : List Int) : mixOut m (r + 1) s = mixIn m r 8 (mixOut m r s) := by unfold mixOut; rfl
theorem xorIn_zero (st s : List Int) : xorIn st 0 s = s := by unfold xorIn; rfl
theorem xorIn_succ (st : List Int) (i : Nat) (s : List Int) : xorIn st (i + 1) s = (xorIn st i s).set i (bits .xor .u32 (gI (xorIn st i s) i) (gI st i)) := by unfold xorIn; rfl
/-- a block mixed into a state -/
@[irreducible] def mixL (st b : List Int) : List Int := xorIn st 8 (mixOut (words b) 12 st)
theorem words_eq (b : List Int) : words b = (List.range 8).map (word b) := by rw [words]
theorem words_length (b : List Int) : (words b).length = 8 := by simp [words]
theorem mixStep_length (m : List Int) (r i : Nat) (s : List Int) : (mixStep m r i s).length = s.length := by simp [mixStep]
theorem mixIn_length (m : List Int) (r i : Nat) (s : List Int) : (mixIn m r i s).length = s.length := by
  induction i with
  | zero => rw [mixIn_zero]
  | succ i ih => simp [mixIn_succ, mixStep_length, ih]
theorem mixOut_length (m : List Int) (r : Nat) (s : List Int) : (mixOut m r s).length = s.length := by
  induction r with
  | zero => rw [mixOut_zero]
  | succ r ih => rw [mixOut_succ, mixIn_length, ih]
theorem xorIn_length (st : List Int) (i : Nat) (s : List Int) : (xorIn st i s).length = s.length := by
  induction i with
  | zero => rw [xorIn_zero]
  | succ i ih => simp [xorIn_succ, ih]
theorem mixIn_ok (m : List Int) (r i : Nat) (s : List Int) (h : U32 s) : U32 (mixIn m r i s) := by
  induction i with
  | zero => rwa [mixIn_zero]
  | succ i ih => rw [mixIn_succ, mixStep]; exact ih.set _ (mod32 _)
theorem mixOut_ok (m : List Int) (r : Nat) (s : List Int) (h : U32 s) : U32 (mixOut m r s) := by
  induction r with
  | zero => rwa [mixOut_zero]
  | succ r ih => rw [mixOut_succ]; exact mixIn_ok _ _ _ _ ih
theorem xorIn_ok (st : List Int) (i : Nat) (s : List Int) (h : U32 s) : U32 (xorIn st i s) := by
  induction i with
  | zero => rwa [xorIn_zero]
  | succ i ih => rw [xorIn_succ]; exact ih.set _ (bits32 _ _ _)
theorem mixL_length (st b : List Int) (h : st.length = 8) : (mixL st b).length = 8 := by simp [mixL, xorIn_length, mixOut_length, h]
theorem mixL_ok (st b : List Int) (h : U32 st) : U32 (mixL st b) := by rw [mixL]; exact xorIn_ok _ _ _ (mixOut_ok _ _ _ h)
/-- the state of a tag -/
@[irreducible] def startL (tag : Int) : List Int := (List.range 8).map fun (i : Nat) => 16777619 * ((i : Int) + 1) + tag
theorem startL_length (tag : Int) : (startL tag).length = 8 := by simp [startL]
theorem startL_ok (tag : Int) (h : 0 ≤ tag ∧ tag ≤ 255) : U32 (startL tag) := by
  intro x hx
  rw [startL] at hx
  obtain ⟨i, hi, rfl⟩ := List.mem_map.1 hx
  have := List.mem_range.1 hi
  omega
theorem mapRange_set (f : Nat → Int) (n i : Nat) (h : i < n) : ((List.range i).map f ++ List.replicate (n - i) 0).set i (f i) = (List.range (i + 1)).map f ++ List.replicate (n - (i + 1)) 0 := by
  obtain ⟨k, rfl⟩ : ∃ k, n = i + 1 + k := ⟨n - (i + 1), by omega⟩
  rw [show i + 1 + k - i = k + 1 by omega, show i + 1 + k - (i + 1) = k by omega, List.range_succ, List.map_append, List.replicate_succ]
  rw [List.set_append_right _ _ (by simp)]
  simp

end Go.Proofs.Yteegnbdgfedajaa
/- The key of bytes, in plain words. No condition. -/
namespace Go.Proofs.Yteegnbdgfedajaa
open Go.RowKit
set_option linter.unusedVariables false
set_option linter.unusedSimpArgs false

theorem fill_step (xs : List Int) (n k : Nat) (hk : k < n) (hl : xs.length = n) : (xs.take k ++ List.replicate (n - k) 0).set k (gI xs k) = xs.take (k + 1) ++ List.replicate (n - (k + 1)) 0 := by
  obtain ⟨m, hm⟩ : ∃ m, n = k + 1 + m := ⟨n - (k + 1), by omega⟩
  have h1 : (xs.take k).length = k := by rw [List.length_take]; omega
  rw [List.set_append_right _ _ (by omega), h1, Nat.sub_self, show n - k = m + 1 by omega, show n - (k + 1) = m by omega, List.replicate_succ, List.set_cons_zero]
  rw [List.take_succ_eq_append_getElem (by omega), ← gI_lt (by omega), List.append_assoc]
  rfl
@[irreducible] def padZ (n : Nat) : Nat := (55 - n % 32) % 32
theorem padZ_eq (n : Nat) : padZ n = (55 - n % 32) % 32 := by unfold padZ; rfl
@[irreducible] def bytesLE (n : Int) (k : Nat) : List Int := (List.range k).map fun i => n / 256 ^ i % 256
theorem bytesLE_zero (n : Int) : bytesLE n 0 = [] := by simp [bytesLE]
theorem bytesLE_succ (n : Int) (k : Nat) : bytesLE n (k + 1) = bytesLE n k ++ [n / 256 ^ k % 256] := by simp [bytesLE, List.range_succ]
theorem bytesLE_length (n : Int) (k : Nat) : (bytesLE n k).length = k := by simp [bytesLE]
theorem bytesLE_ok (n : Int) (k : Nat) : B8 (bytesLE n k) := by
  intro x hx
  rw [bytesLE] at hx
  obtain ⟨i, _, rfl⟩ := List.mem_map.1 hx
  omega
/-- what stands behind the bytes -/
@[irreducible] def padL (n : Nat) (len : Int) : List Int := [128] ++ List.replicate (padZ n) 0 ++ bytesLE len 8
theorem padL_eq (n : Nat) (len : Int) : padL n len = [128] ++ List.replicate (padZ n) 0 ++ bytesLE len 8 := by rw [padL]
theorem padL_length (n : Nat) (len : Int) : (padL n len).length = padZ n + 9 := by rw [padL]; simp only [List.length_append, List.length_cons, List.length_nil, List.length_replicate, bytesLE_length]; omega
theorem replicate_ok (z : Nat) : B8 (List.replicate z (0 : Int)) := by
  intro x hx
  obtain rfl := (List.mem_replicate.1 hx).2
  omega
theorem padL_ok (n : Nat) (len : Int) : B8 (padL n len) := by
  rw [padL]
  exact ((show B8 [128] from fun x hx => by simp at hx; omega).append (replicate_ok _)).append (bytesLE_ok _ _)
/-- a block -/
@[irreducible] def blockL (all : List Int) (i : Nat) : List Int := (all.drop (32 * i)).take 32
theorem blockL_eq (all : List Int) (i : Nat) : blockL all i = (all.drop (32 * i)).take 32 := by rw [blockL]
theorem blockL_ok (all : List Int) (i : Nat) (h : B8 all) (hi : 32 * i + 32 ≤ all.length) : K32 (blockL all i) := by
  rw [blockL]
  exact ⟨by simp; omega, (h.drop _).take _⟩
def blocksL (all : List Int) (n : Nat) : List (List Int) := (List.range n).map (blockL all)
theorem blocksL_succ (all : List Int) (n : Nat) : blocksL all (n + 1) = blocksL all n ++ [blockL all n] := by simp [blocksL, List.range_succ]
/-- n blocks mixed in -/
def mixNR (all st : List Int) : Nat → List Int
  | 0 => st
  | n + 1 => mixL (mixNR all st n) (blockL all n)
@[irreducible] def mixN (all st : List Int) (n : Nat) : List Int := mixNR all st n
theorem mixN_zero (all st : List Int) : mixN all st 0 = st := by unfold mixN; rfl
theorem mixN_succ (all st : List Int) (n : Nat) : mixN all st (n + 1) = mixL (mixN all st n) (blockL all n) := by unfold mixN; rfl
theorem mixN_length (all st : List Int) (n : Nat) (h : st.length = 8) : (mixN all st n).length = 8 := by
  induction n with
  | zero => rwa [mixN_zero]
  | succ n ih => rw [mixN_succ]; exact mixL_length _ _ ih
theorem mixN_ok (all st : List Int) (n : Nat) (h : U32 st) : U32 (mixN all st n) := by
  induction n with
  | zero => rwa [mixN_zero]
  | succ n ih => rw [mixN_succ]; exact mixL_ok _ _ ih
/-- the key of a state -/
@[irreducible] def keyL (s : List Int) : List Int := (List.range 32).map fun i => gI s (i / 4) / 2 ^ (8 * (i % 4)) % 256
theorem keyL_length (s : List Int) : (keyL s).length = 32 := by simp [keyL]
theorem keyL_at (s : List Int) (k : Nat) (h : k < 32) : gI (keyL s) k = gI s (k / 4) / 2 ^ (8 * (k % 4)) % 256 := by
  rw [gI_lt (by rw [keyL_length]; exact h)]
  simp [keyL]
theorem keyL_ok (s : List Int) : K32 (keyL s) := by
  refine ⟨keyL_length s, fun x hx => ?_⟩
  rw [keyL] at hx
  obtain ⟨i, _, rfl⟩ := List.mem_map.1 hx
  omega
/-- the key behind a state and what is left of the bytes -/
@[irreducible] def endL (st held : List Int) (len : Int) : List Int := keyL (mixN (held ++ padL held.length len) st ((held.length + padZ held.length + 9) / 32))
@[irreducible] def hashL (tag : Int) (data : List Int) : List Int := endL (startL tag) data data.length
theorem endL_ok (st held : List Int) (len : Int) : K32 (endL st held len) := by rw [endL]; exact keyL_ok _
theorem hashL_ok (tag : Int) (data : List Int) : K32 (hashL tag data) := by rw [hashL]; exact endL_ok _ _ _
theorem padded_mod (n : Nat) : (n + padZ n + 9) % 32 = 0 := by rw [padZ_eq]; omega

end Go.Proofs.Yteegnbdgfedajaa
/- The statements' key of bytes: blocks and what stands behind the bytes. No condition. -/
namespace Go.Proofs.Yteegnbdgfedajaa
open Go.RowKit
set_option linter.unusedVariables false
set_option linter.unusedSimpArgs false

set_option maxHeartbeats 1000000 in
set_option maxRecDepth 100000 in
theorem l01Block_any (v : Value) (xs : List Int) (w : World) (S : Nat → Prop) (h : RdL tByte w S v xs) (i : Nat) (hi : 32 * i + 32 ≤ xs.length) :
    Calls Try.prog 131 #[v, .int .i64 ((32 * i : Nat) : Int)] w fun e w' => e = .returned (.agg (numsA .u8 (blockL xs i))) ∧ Ext w w' := by
  obtain ⟨A, cap, rfl, hcap, hlen, hrd, hok⟩ := h
  have hrd' : Rd w S 1 A xs.length (nums .u8 xs) := by rw [← flat_bytes]; exact hrd
  obtain ⟨g, o, rfl, hs, hc⟩ := hrd'.2 (by omega)
  have cellx : ∀ j, j < xs.length → w.cell? ⟨g, o + j, none⟩ = some (.int .u8 (gI xs j)) := fun j hj => hc j _ (nums_at _ _ _ hj)
  have CX := Lib.hid cellx
  clear hrd hrd' hok hc cellx
  have HB := Lib.hid (blockL_eq xs i)
  have hbl : (blockL xs i).length = 32 := by rw [HB.out]; simp; omega
  go_enter Try.func131, Try.ntmps131
  go_wp2_with (refine wpl_storeN (k := .u8) (xs := List.replicate 32 0) (Blk.new' (g := w.heap.size + 1) (by simp) _ _) aggB32 (by simp) rfl rfl _ _ rfl rfl rfl rfl ?_)
  go_loopw [6] (fun q wr => ∃ (k : Nat) (z : Array Value), k ≤ 32 ∧ q = .int .i64 k ∧ z.size = 32 ∧ Blk wr w.heap.size 39 z ∧ Blk wr (w.heap.size + 1) 39 (numsA .u8 ((blockL xs i).take k ++ List.replicate (32 - k) 0)) ∧ Ext w wr) (fun q _ => 32 - (intOf q).toNat)
  case atStart => exact ⟨0, _, by omega, rfl, rfl, ((Blk.new w _ _).alloc _).row_far (by omega) _, by rw [List.take_zero, List.nil_append, Nat.sub_zero]; exact (Blk.new' (by simp) _ _).setRow _, ((ext_alloc _ _).alloc _).setRow (by omega) _⟩
  case round =>
    obtain ⟨k, z, hk, rfl, hz, hb1, hb2, hx⟩ := hrel
    have HX := Lib.hid hx
    have HB1 := Lib.hid hb1
    have HB2 := Lib.hid hb2
    clear hx hb1 hb2
    by_cases hlt : k < 32
    · have hc := HB2.out.num k (by simp; omega)
      have hf := HB2.out.free k
      have hd := HX.out.cell (CX.out (32 * i + k) (by omega))
      have e1 : IntKind.i64.wrap (32 * (i : Int) + k) = ((32 * i + k : Nat) : Int) := by rw [IntWalk.i64_in _ (by omega)]; omega
      have e2 : ((32 * i + k : Nat) : Int) < (xs.length : Int) := by omega
      have hnew : ((blockL xs i).take k ++ List.replicate (32 - k) 0).set k (gI xs (32 * i + k)) = (blockL xs i).take (k + 1) ++ List.replicate (32 - (k + 1)) 0 := by
        have h1 : gI (blockL xs i) k = gI xs (32 * i + k) := by
          unfold gI
          rw [HB.out, List.getD_eq_getElem?_getD, List.getD_eq_getElem?_getD, List.getElem?_take, if_pos hlt, List.getElem?_drop]
        rw [← h1]
        exact fill_step _ 32 k hlt hbl
      have HN := Lib.hid hnew
      clear hnew
      go_wp2_with fail
      go_roundw
      case rel =>
        have h2 := HB2.out.set k (.int .u8 (gI xs (32 * i + k)))
        rw [numsA_set, HN.out] at h2
        exact ⟨k + 1, z, by omega, by go_num, hz, HB1.out.far (by simp) _, h2, HX.out.set (by simp) _⟩
      case measure => simp [intOf]; omega
    · obtain rfl : k = 32 := by omega
      have hb := HB2.out
      rw [Nat.sub_self, List.replicate_zero, List.append_nil, List.take_of_length_le (by omega)] at hb
      have HB3 := Lib.hid hb
      clear hb
      go_wp2_with (first
        | (refine wpl_loadN HB3.out aggB32 hbl rfl _ rfl rfl ?_)
        | (refine wpl_storeN HB1.out aggB32 hbl hz rfl _ _ rfl rfl rfl rfl ?_))
      refine bodyPost_ret (results_blk rfl _ rfl aggB32 hbl (HB1.out.setRow _)) rfl ?_
      exact ⟨rfl, HX.out.setRow (Nat.le_refl _) _⟩

end Go.Proofs.Yteegnbdgfedajaa
/- The statements' key of bytes: what stands behind the bytes. No condition. -/
namespace Go.Proofs.Yteegnbdgfedajaa
open Go.RowKit
set_option linter.unusedVariables false
set_option linter.unusedSimpArgs false

theorem okOne {x : Int} (h : 0 ≤ x ∧ x ≤ 255) : ∀ y ∈ [x], tByte.ok y := by
  intro y hy
  obtain rfl := List.mem_singleton.1 hy
  exact h
theorem rd_byte (w : World) (x : Int) (h : 0 ≤ x ∧ x ≤ 255) (t : TypeId) : Rd (w.alloc (.cells #[.int .u8 x] t)) (fun _ => True) tByte.sz (some ⟨w.heap.size, 0, none⟩) [x].length ([x].flatMap tByte.enc) := rd_one (T := tByte) w x h t
theorem Own.len {α : Type} {T : Ty α} {e : TypeId} {w : World} {base : Nat} {A : Option Addr} {n c : Nat} {xs : List α} (h : Own T e w base (.slice A n c) xs) : n = xs.length := by
  obtain ⟨A', c', he⟩ := h.shape
  injection he
set_option maxHeartbeats 1000000 in
set_option maxRecDepth 100000 in
theorem l01Padded_any (v : Value) (xs : List Int) (w : World) (S : Nat → Prop) (h : RdL tByte w S v xs) (hl : xs.length ≤ 70368744177664) (len : Int) (h0 : 0 ≤ len) (h1 : len ≤ 9223372036854775807) :
    Calls Try.prog 129 #[v, .int .i64 len] w fun e w' => ∃ v', e = .returned v' ∧ Own tByte 5 w' w.heap.size v' (xs ++ padL xs.length len) ∧ Ext w w' := by
  obtain ⟨A, cap, rfl, hcap, hlen, hrd, hok⟩ := h
  have Hrd := Lib.hid hrd
  have Hok := Lib.hid hok
  clear hrd hok
  go_enter Try.func129, Try.ntmps129
  go_wp2_with (first
    | (at_builtin; refine wpl_append rowByte rfl _ _ rfl (v := .slice (some ⟨w.heap.size, 0, none⟩) 0 0) rfl (Own.empty tByte _ 5 w.heap.size (Nat.le_refl _)) _ _ rfl rfl (Hrd.out.ext (by decide) (ext_alloc _ _)) Hok.out (by simp; omega) (by simp) ?_; intro v1 w1 ho1 hg1 hat1; rw [List.nil_append] at ho1; have HX1 := Lib.hid ((ext_alloc w _).grown hg1 (fun k hk => Nat.le_of_eq (Option.some.inj hk))); have HO1 := Lib.hid ho1; obtain ⟨B1, bn1, bc1, rfl⟩ := ho1.shape3; clear ho1 hg1 hat1)
    | (at_builtin; refine wpl_append rowByte rfl _ _ rfl (v := .slice B1 bn1 bc1) rfl (HO1.out.alloc _) _ _ rfl (A := some ⟨w1.heap.size, 0, none⟩) (ys := [128]) rfl (rd_byte w1 128 (by decide) _) (okOne (by decide)) (by simp; omega) (HX1.out.alloc _).size ?_; intro v2 w2 ho1 hg1 hat1; have HX2 := Lib.hid ((HO1.out.alloc _).ext_app (HX1.out.alloc _) hg1); have HO2 := Lib.hid ho1; clear ho1 hg1 hat1 HX1 HO1))
  go_loopw [5] (fun o wr => ∃ z : Nat, z ≤ padZ xs.length ∧ Own tByte 5 wr w.heap.size o (xs ++ [128] ++ List.replicate z 0) ∧ Ext w wr) (fun o _ => xs.length + 40 - lenV o)
  case atStart => exact ⟨0, by omega, by rw [List.replicate_zero, List.append_nil]; exact HO2.out, HX2.out⟩
  case round =>
    clear HO2 HX2
    obtain ⟨z, hz, ho, hx⟩ := hrel
    have HX := Lib.hid hx
    have HO := Lib.hid ho
    obtain ⟨B, bn, bc, rfl⟩ := ho.shape3
    have hbn := ho.len
    simp only [List.length_append, List.length_cons, List.length_nil, List.length_replicate] at hbn
    clear hx ho
    have hp := padZ_eq xs.length
    have hbl : (bn : Int) ≤ 9223372036854775807 := by omega
    by_cases hlt : z < padZ xs.length
    · have hm : ¬ ((bn : Int) % 32 = 24) := by omega
      have hz31 : z ≤ 31 := by omega
      have HP := Lib.hid hp
      have HN := Lib.hid hbn
      clear hp hbn
      go_wp2_with (at_builtin; refine wpl_append rowByte rfl _ _ rfl (v := .slice B bn bc) rfl (HO.out.alloc _) _ _ rfl (A := some ⟨wr.heap.size, 0, none⟩) (ys := [0]) rfl (rd_byte wr (0) (by decide) _) (okOne (by decide)) (by simp; omega) (HX.out.alloc _).size ?_; intro v9 w9 ho1 hg1 hat1; have HX9 := Lib.hid ((HO.out.alloc _).ext_app (HX.out.alloc _) hg1); have HO9 := Lib.hid ho1; clear ho1 hg1 hat1)
      go_roundw
      case rel => exact ⟨z + 1, by omega, by rw [List.replicate_succ', ← List.append_assoc]; exact HO9.out, HX9.out⟩
      case measure =>
        have h1 := HO9.out.shape
        obtain ⟨_, _, rfl⟩ := h1
        have := HN.out
        have := HP.out
        simp [lenV]
        omega
    · have hm : (bn : Int) % 32 = 24 := by omega
      obtain rfl : z = padZ xs.length := by omega
      have HP := Lib.hid hp
      have HN := Lib.hid hbn
      clear hp hbn
      go_wp2_with fail
      clear hm
      go_loopw [1, 5, 6] (fun l o i wq => ∃ k : Nat, k ≤ 8 ∧ i = .int .i64 k ∧ l = .int .i64 (len / 256 ^ k) ∧ Own tByte 5 wq w.heap.size o (xs ++ [128] ++ List.replicate (padZ xs.length) 0 ++ bytesLE len k) ∧ Ext w wq) (fun _ _ i _ => 8 - (intOf i).toNat)
      case atStart => exact ⟨0, by omega, rfl, by simp, by rw [bytesLE_zero, List.append_nil]; exact HO.out, HX.out⟩
      case round =>
        clear HO HX
        obtain ⟨k, hk, rfl, rfl, ho, hx⟩ := hrel
        have HX := Lib.hid hx
        have HO := Lib.hid ho
        obtain ⟨C, cn, cc, rfl⟩ := ho.shape3
        clear hx ho
        by_cases hk8 : k < 8
        · have hd0 : 0 ≤ len / 256 ^ k := Int.ediv_nonneg h0 (Int.pow_nonneg (by decide))
          have hd1 : len / 256 ^ k ≤ len := Int.ediv_le_self _ h0
          have hs1 : len / 256 ^ (k + 1) = len / 256 ^ k / 256 := by rw [Int.pow_succ, Int.ediv_ediv_of_nonneg (Int.pow_nonneg (by decide))]
          have hs2 := bytesLE_succ len k
          generalize len / 256 ^ k = d at *
          have HS1 := Lib.hid hs1
          have HS2 := Lib.hid hs2
          have hpz : padZ xs.length ≤ 31 := by have := padZ_eq xs.length; omega
          clear hs1 hs2
          go_wp2_with (at_builtin; refine wpl_append rowByte rfl _ _ rfl (v := .slice C cn cc) rfl (HO.out.alloc _) _ _ rfl (A := some ⟨wr.heap.size, 0, none⟩) (ys := [d % 256]) rfl (rd_byte wr (d % 256) (by omega) _) (okOne (by omega)) (by simp [bytesLE_length]; omega) (HX.out.alloc _).size ?_; intro v9 w9 ho1 hg1 hat1; have HX9 := Lib.hid ((HO.out.alloc _).ext_app (HX.out.alloc _) hg1); have HO9 := Lib.hid ho1; clear ho1 hg1 hat1)
          go_roundw
          case rel => exact ⟨k + 1, by omega, by go_num, by rw [HS1.out], by rw [HS2.out, ← List.append_assoc]; exact HO9.out, HX9.out⟩
          case measure => simp [intOf]; omega
        · obtain rfl : k = 8 := by omega
          go_wp2_with fail
          go_ret
          have ho := HO.out
          rw [List.append_assoc xs, List.append_assoc xs, ← padL_eq] at ho
          exact ⟨_, rfl, ho, HX.out⟩

end Go.Proofs.Yteegnbdgfedajaa
/- The program's number of bytes. No condition. -/
namespace Go.Proofs.Yteegnbdgfedajaa
open Go.RowKit
set_option linter.unusedVariables false
set_option linter.unusedSimpArgs false

set_option maxHeartbeats 1000000 in
set_option maxRecDepth 100000 in
theorem littleNumber_any (v : Value) (xs : List Int) (w : World) (S : Nat → Prop) (h : RdL tByte w S v xs) (hl : xs.length ≤ 7) :
    Calls Try.prog 84 #[v] w fun e w' => e = .returned (.int .u64 (littleN xs)) ∧ w = w' := by
  obtain ⟨A, cap, rfl, hcap, hlen, hrd, hok⟩ := h
  have Hrd := Lib.hid (show Rd w S 1 A xs.length (nums .u8 xs) by rw [← flat_bytes]; exact hrd)
  have Hok := Lib.hid hok
  clear hrd hok
  go_enter Try.func84, Try.ntmps84
  go_wp2
  go_loop [3, 8] (fun q i => ∃ k : Nat, k ≤ xs.length ∧ i = .int .i64 k ∧ q = .int .u64 (littleN (xs.take k))) (fun _ i => xs.length - (intOf i).toNat)
  case atStart => exact ⟨0, by omega, rfl, by simp [littleN]⟩
  case round =>
    obtain ⟨k, hk, rfl, rfl⟩ := hrel
    by_cases hlt : k < xs.length
    · obtain ⟨g, o, rfl, hs, hc⟩ := (Hrd.out).byte k hlt
      have hb := B8.get Hok.out k
      go_wp2
      go_round
      case rel => exact ⟨k + 1, by omega, by go_num, by rw [little_step xs Hok.out k hlt (by omega)]⟩
      case measure => simp [intOf]; omega
    · go_wp2
      go_ret
      obtain rfl : k = xs.length := by omega
      rw [List.take_length]
      exact ⟨rfl, rfl⟩

end Go.Proofs.Yteegnbdgfedajaa
/- Mixing of blocks into a state: the words. No condition. -/
namespace Go.Proofs.Yteegnbdgfedajaa
open Go.RowKit
set_option linter.unusedVariables false
set_option linter.unusedSimpArgs false

set_option maxHeartbeats 1000000 in
set_option maxRecDepth 100000 in
theorem l01Turn_7 (x : Int) (w : World) : Calls Try.prog 134 #[.int .u32 x, .int .u64 7] w fun e w' => e = .returned (.int .u32 (turn7 x)) ∧ w = w' := by
  unfold turn7
  go_enter Try.func134, Try.ntmps134
  go_wp2
  go_ret
  exact ⟨rfl, rfl⟩
set_option maxHeartbeats 1000000 in
set_option maxRecDepth 100000 in
theorem l01Turn_13 (x : Int) (w : World) : Calls Try.prog 134 #[.int .u32 x, .int .u64 13] w fun e w' => e = .returned (.int .u32 (turn13 x)) ∧ w = w' := by
  unfold turn13
  go_enter Try.func134, Try.ntmps134
  go_wp2
  go_ret
  exact ⟨rfl, rfl⟩
set_option maxHeartbeats 1000000 in
set_option maxRecDepth 100000 in
theorem rot_7 (x : Int) (w : World) : Calls Try.prog 135 #[.int .u32 x, .int .i64 7] w fun e w' => e = .returned (.int .u32 (turn7 x)) ∧ w = w' := by
  have hb : bits .and .u64 7 31 = 7 := by decide
  unfold turn7
  go_enter Try.func135, Try.ntmps135
  go_wp2
  go_ret
  exact ⟨rfl, rfl⟩
set_option maxHeartbeats 1000000 in
set_option maxRecDepth 100000 in
theorem rot_13 (x : Int) (w : World) : Calls Try.prog 135 #[.int .u32 x, .int .i64 13] w fun e w' => e = .returned (.int .u32 (turn13 x)) ∧ w = w' := by
  have hb : bits .and .u64 13 31 = 13 := by decide
  unfold turn13
  go_enter Try.func135, Try.ntmps135
  go_wp2
  go_ret
  exact ⟨rfl, rfl⟩
set_option maxHeartbeats 1000000 in
set_option maxRecDepth 100000 in
theorem l01Start_any (tag : Int) (h : 0 ≤ tag ∧ tag ≤ 255) (w : World) : Calls Try.prog 119 #[.int .u8 tag] w fun e w' => e = .returned (.agg (numsA .u32 (startL tag))) ∧ Ext w w' := by
  go_enter Try.func119, Try.ntmps119
  go_wp2
  go_loopw [4] (fun i wr => ∃ (k : Nat) (z : Array Value), k ≤ 8 ∧ i = .int .i64 k ∧ z.size = 8 ∧ Blk wr w.heap.size 155 z ∧ Blk wr (w.heap.size + 1) 155 (numsA .u32 ((List.range k).map (fun (i : Nat) => 16777619 * ((i : Int) + 1) + tag) ++ List.replicate (8 - k) 0)) ∧ Ext w wr) (fun i _ => 8 - (intOf i).toNat)
  case atStart => exact ⟨0, _, by omega, rfl, rfl, (Blk.new _ _ _).alloc _, Blk.new' (by simp) _ _, (ext_alloc _ _).alloc _⟩
  case round =>
    obtain ⟨k, z, hk, rfl, hz, hb1, hb2, hx⟩ := hrel
    have HX := Lib.hid hx
    have HB1 := Lib.hid hb1
    have HB2 := Lib.hid hb2
    clear hx hb1 hb2
    by_cases hlt : k < 8
    · have hc := HB2.out.num k (by simp; omega)
      have hf := HB2.out.free k
      go_wp2
      go_roundw
      case rel =>
        have h2 := HB2.out.set k (.int .u32 (16777619 * ((k : Int) + 1) + tag))
        rw [numsA_set, mapRange_set (fun (i : Nat) => 16777619 * ((i : Int) + 1) + tag) 8 k hlt] at h2
        exact ⟨k + 1, z, by omega, by go_num, hz, HB1.out.far (by simp) _, h2, HX.out.set (by simp) _⟩
      case measure => simp [intOf]; omega
    · obtain rfl : k = 8 := by omega
      have hb := HB2.out
      rw [Nat.sub_self, List.replicate_zero, List.append_nil] at hb
      have hst : (List.range 8).map (fun (i : Nat) => 16777619 * ((i : Int) + 1) + tag) = startL tag := by rw [startL]
      rw [hst] at hb
      have HB := Lib.hid hb
      clear hb hst
      go_wp2_with (first
        | (refine wpl_loadN HB.out aggU32 (startL_length tag) rfl _ rfl rfl ?_)
        | (refine wpl_storeN HB1.out aggU32 (startL_length tag) hz rfl _ _ rfl rfl rfl rfl ?_))
      refine bodyPost_ret (results_blk rfl _ rfl aggU32 (startL_length tag) (HB1.out.setRow _)) rfl ?_
      exact ⟨rfl, HX.out.setRow (Nat.le_refl _) _⟩
set_option maxHeartbeats 1000000 in
set_option maxRecDepth 100000 in
theorem startState_any (tag : Int) (h : 0 ≤ tag ∧ tag ≤ 255) (w : World) : Calls Try.prog 127 #[.int .u8 tag] w fun e w' => e = .returned (.agg (numsA .u32 (startL tag))) ∧ Ext w w' := by
  go_enter Try.func127, Try.ntmps127
  go_wp2
  go_loopw [6] (fun i wr => ∃ (k : Nat) (z : Array Value), k ≤ 8 ∧ i = .int .i64 k ∧ z.size = 8 ∧ Blk wr w.heap.size 155 z ∧ Blk wr (w.heap.size + 1) 155 (numsA .u32 ((List.range k).map (fun (i : Nat) => 16777619 * ((i : Int) + 1) + tag) ++ List.replicate (8 - k) 0)) ∧ Ext w wr) (fun i _ => 8 - (intOf i).toNat)
  case atStart => exact ⟨0, _, by omega, rfl, rfl, (Blk.new _ _ _).alloc _, Blk.new' (by simp) _ _, (ext_alloc _ _).alloc _⟩
  case round =>
    obtain ⟨k, z, hk, rfl, hz, hb1, hb2, hx⟩ := hrel
    have HX := Lib.hid hx
    have HB1 := Lib.hid hb1
    have HB2 := Lib.hid hb2
    clear hx hb1 hb2
    by_cases hlt : k < 8
    · have hc := HB2.out.num k (by simp; omega)
      have hf := HB2.out.free k
      go_wp2
      go_roundw
      case rel =>
        have h2 := HB2.out.set k (.int .u32 (16777619 * ((k : Int) + 1) + tag))
        rw [numsA_set, mapRange_set (fun (i : Nat) => 16777619 * ((i : Int) + 1) + tag) 8 k hlt] at h2
        exact ⟨k + 1, z, by omega, by go_num, hz, HB1.out.far (by simp) _, h2, HX.out.set (by simp) _⟩
      case measure => simp [intOf]; omega
    · obtain rfl : k = 8 := by omega
      have hb := HB2.out
      rw [Nat.sub_self, List.replicate_zero, List.append_nil] at hb
      have hst : (List.range 8).map (fun (i : Nat) => 16777619 * ((i : Int) + 1) + tag) = startL tag := by rw [startL]
      rw [hst] at hb
      have HB := Lib.hid hb
      clear hb hst
      go_wp2_with (first
        | (refine wpl_loadN HB.out aggU32 (startL_length tag) rfl _ rfl rfl ?_)
        | (refine wpl_storeN HB1.out aggU32 (startL_length tag) hz rfl _ _ rfl rfl rfl rfl ?_))
      refine bodyPost_ret (results_blk rfl _ rfl aggU32 (startL_length tag) (HB1.out.setRow _)) rfl ?_
      exact ⟨rfl, HX.out.setRow (Nat.le_refl _) _⟩

end Go.Proofs.Yteegnbdgfedajaa
/- The program's mixing of a block into a state. No condition. -/
namespace Go.Proofs.Yteegnbdgfedajaa
open Go.RowKit
set_option linter.unusedVariables false
set_option linter.unusedSimpArgs false

set_option maxHeartbeats 8000000 in
set_option maxRecDepth 100000 in
theorem mixBlock_any (st b : List Int) (hs : st.length = 8) (hu : U32 st) (hk : K32 b) (w : World) : Calls Try.prog 133 #[.agg (numsA .u32 st), .agg (numsA .u8 b)] w fun e w' => e = .returned (.agg (numsA .u32 (mixL st b))) ∧ Ext w w' := by
  have HU := Lib.hid hu
  have HK := Lib.hid hk
  have HS := Lib.hid hs
  clear hu hk hs
  go_enter Try.func133, Try.ntmps133
  go_wp2_with fail
  go_loopw [14] (fun i wr => ∃ (k : Nat) (z : Array Value), k ≤ 8 ∧ i = .int .i64 k ∧ z.size = 8 ∧ Blk wr w.heap.size 155 (numsA .u32 st) ∧ Blk wr (w.heap.size + 1) 39 (numsA .u8 b) ∧ Blk wr (w.heap.size + 2) 155 z ∧ Blk wr (w.heap.size + 3) 155 (numsA .u32 ((List.range k).map (word b) ++ List.replicate (8 - k) 0)) ∧ Ext w wr) (fun i _ => 8 - (intOf i).toNat)
  case atStart => exact ⟨0, _, by omega, rfl, rfl, ((((Blk.new _ _ _).alloc _).alloc _).alloc _), ((Blk.new' (by simp) _ _).alloc _).alloc _, (Blk.new' (by simp) _ _).alloc _, Blk.new' (by simp) _ _, (((ext_alloc _ _).alloc _).alloc _).alloc _⟩
  case round =>
    obtain ⟨k, z, hk, rfl, hz, hb1, hb2, hb3, hb4, hx⟩ := hrel
    have HX := Lib.hid hx
    have HB1 := Lib.hid hb1
    have HB2 := Lib.hid hb2
    have HB3 := Lib.hid hb3
    have HB4 := Lib.hid hb4
    clear hx hb1 hb2 hb3 hb4
    by_cases hlt : k < 8
    · have hl : ((List.range k).map (word b) ++ List.replicate (8 - k) 0).length = 8 := by simp; omega
      have hc := HB4.out.num k (by omega)
      have hf := HB4.out.free k
      have hN := mapRange_set (word b) 8 k hlt
      generalize (List.range k).map (word b) ++ List.replicate (8 - k) 0 = M at *
      have HN := Lib.hid hN
      clear hN
      have hw : 0 ≤ word b k ∧ word b k ≤ 4294967295 := by
        have h1 := littleN_bound ((b.drop (4 * k)).take 4) ((HK.out.2.drop _).take _)
        have h2 : ((b.drop (4 * k)).take 4).length = 4 := by simp [HK.out.1]; omega
        rw [h2] at h1
        unfold word
        omega
      have HLN := Lib.hid (littleNumber_any (.slice (some ⟨w.heap.size + 1, 4 * k, none⟩) 4 (32 - 4 * k)) ((b.drop (4 * k)).take 4) wr (fun _ => True) ⟨some ⟨w.heap.size + 1, 4 * k, none⟩, 32 - 4 * k, by simp [HK.out.1]; omega, by simp [HK.out.1]; omega, by simp; omega, by
        refine ⟨by rw [flat_bytes, nums_length]; exact (Nat.mul_one _).symm, fun _ => ⟨_, _, rfl, trivial, fun j u hu => ?_⟩⟩
        rw [flat_bytes] at hu
        rw [HB2.out.cell]
        have hj : j < 4 := by
          have := (List.getElem?_eq_some_iff.1 hu).1
          rw [nums_length, List.length_take] at this
          omega
        rw [← hu]
        simp [numsA, nums, List.getElem?_take, hj], (HK.out.2.drop _).take _⟩ (by simp; omega))
      have hwd : littleN ((b.drop (4 * k)).take 4) = word b k := by unfold word; rfl
      rw [hwd] at HLN
      clear hwd
      generalize word b k = W at *
      have hw0 := hw.1
      have hw1 := hw.2
      have e0 : IntKind.i64.wrap (4 * (k : Int)) = 4 * k := IntWalk.i64_in _ (by omega)
      have e1 : IntKind.i64.wrap (4 * (k : Int) + 4) = 4 * k + 4 := IntWalk.i64_in _ (by omega)
      have e2 : (4 * (k : Int) + 4).toNat = 4 * k + 4 := by omega
      have e3 : (4 * (k : Int)).toNat = 4 * k := by omega
      have e4 : ¬ 32 = 4 * k := by omega
      have e5 : 4 * k + 4 - 4 * k = 4 := by omega
      have A0 : (0 : Int) ≤ 4 * k := by omega
      have A1 : (4 * (k : Int)) ≤ 4 * k + 4 := by omega
      have A2 : (4 * (k : Int) + 4) ≤ 32 := by omega
      clear hw
      go_wp2_with (go_at_call 84; refine (HLN.out).mono ?_; rintro e w' ⟨rfl, rfl⟩)
      go_roundw
      case rel =>
        have h4 := HB4.out.set k (.int .u32 W)
        rw [numsA_set, HN.out] at h4
        exact ⟨k + 1, z, by omega, by go_num, hz, HB1.out.far (by simp; omega) _, HB2.out.far (by simp) _, HB3.out.far (by simp) _, h4, HX.out.set (by simp; omega) _⟩
      case measure => simp [intOf]; omega
    · obtain rfl : k = 8 := by omega
      go_wp2_with (first
        | (refine wpl_loadN HB1.out aggU32 HS.out rfl _ rfl rfl ?_)
        | (refine wpl_storeN (Blk.new wr _ _) aggU32 HS.out rfl rfl _ _ rfl rfl rfl rfl ?_))
      have h4 := HB4.out
      rw [Nat.sub_self, List.replicate_zero, List.append_nil, ← words_eq] at h4
      have h5 : Blk _ wr.heap.size 155 (numsA .u32 st) := (Blk.new wr 155 #[Value.int IntKind.u32 0, Value.int IntKind.u32 0, Value.int IntKind.u32 0, Value.int IntKind.u32 0, Value.int IntKind.u32 0, Value.int IntKind.u32 0, Value.int IntKind.u32 0, Value.int IntKind.u32 0]).setRow (numsA .u32 st)
      have lt4 := h4.lt
      have n1 : w.heap.size ≠ wr.heap.size := by omega
      have n3 : w.heap.size + 2 ≠ wr.heap.size := by omega
      have n4 : w.heap.size + 3 ≠ wr.heap.size := by omega
      have hgs : w.heap.size + 4 ≤ wr.heap.size := by omega
      have hx0 := (HX.out.alloc (.cells #[Value.int IntKind.u32 0, Value.int IntKind.u32 0, Value.int IntKind.u32 0, Value.int IntKind.u32 0, Value.int IntKind.u32 0, Value.int IntKind.u32 0, Value.int IntKind.u32 0, Value.int IntKind.u32 0] 155)).setRow HX.out.size (numsA .u32 st)
      have hb1 := (HB1.out.alloc (.cells #[Value.int IntKind.u32 0, Value.int IntKind.u32 0, Value.int IntKind.u32 0, Value.int IntKind.u32 0, Value.int IntKind.u32 0, Value.int IntKind.u32 0, Value.int IntKind.u32 0, Value.int IntKind.u32 0] 155)).row_far n1 (numsA .u32 st)
      have hb3 := (HB3.out.alloc (.cells #[Value.int IntKind.u32 0, Value.int IntKind.u32 0, Value.int IntKind.u32 0, Value.int IntKind.u32 0, Value.int IntKind.u32 0, Value.int IntKind.u32 0, Value.int IntKind.u32 0, Value.int IntKind.u32 0] 155)).row_far n3 (numsA .u32 st)
      have hb4 := (h4.alloc (.cells #[Value.int IntKind.u32 0, Value.int IntKind.u32 0, Value.int IntKind.u32 0, Value.int IntKind.u32 0, Value.int IntKind.u32 0, Value.int IntKind.u32 0, Value.int IntKind.u32 0, Value.int IntKind.u32 0] 155)).row_far n4 (numsA .u32 st)
      clear h4 lt4 HB1 HB2 HB3 HB4 HX n1 n3 n4
      generalize wr.heap.size = gs at *
      have HW := Lib.hid (words_eq b)
      go_loopw [29] (fun i wq => ∃ r : Nat, r ≤ 12 ∧ i = .int .i64 r ∧ Blk wq w.heap.size 155 (numsA .u32 st) ∧ Blk wq (w.heap.size + 2) 155 z ∧ Blk wq (w.heap.size + 3) 155 (numsA .u32 (words b)) ∧ Blk wq gs 155 (numsA .u32 (mixOut (words b) r st)) ∧ Ext w wq) (fun i _ => 12 - (intOf i).toNat)
      case atStart => exact ⟨0, by omega, rfl, hb1, hb3, hb4, by rw [mixOut_zero]; exact h5, hx0⟩
      case round =>
        clear hx0 hb1 hb3 hb4 h5
        obtain ⟨r, hr, rfl, hb1, hb3, hb4, hb5, hx⟩ := hrel
        have HX := Lib.hid hx
        have HB1 := Lib.hid hb1
        have HB3 := Lib.hid hb3
        have HB4 := Lib.hid hb4
        have HB5 := Lib.hid hb5
        clear hx hb1 hb3 hb4 hb5
        by_cases hlr : r < 12
        · go_wp2_with fail
          have hd12 : decide ((r : Int) < 12) = true := by simp; omega
          simp only [hd12]
          go_loopw [32] (fun i wq => ∃ k : Nat, k ≤ 8 ∧ i = .int .i64 k ∧ Blk wq w.heap.size 155 (numsA .u32 st) ∧ Blk wq (w.heap.size + 2) 155 z ∧ Blk wq (w.heap.size + 3) 155 (numsA .u32 (words b)) ∧ Blk wq gs 155 (numsA .u32 (mixIn (words b) r k (mixOut (words b) r st))) ∧ Ext w wq) (fun i _ => 8 - (intOf i).toNat)
          case atStart => exact ⟨0, by omega, rfl, HB1.out, HB3.out, HB4.out, by rw [mixIn_zero]; exact HB5.out, HX.out⟩
          case round =>
            clear HX HB1 HB3 HB4 HB5
            obtain ⟨k, hk, rfl, hb1, hb3, hb4, hb5, hx⟩ := hrel
            have HX := Lib.hid hx
            have HB1 := Lib.hid hb1
            have HB3 := Lib.hid hb3
            have HB4 := Lib.hid hb4
            have HB5 := Lib.hid hb5
            clear hx hb1 hb3 hb4 hb5
            by_cases hlk : k < 8
            · have hl := (mixIn_length (words b) r k (mixOut (words b) r st)).trans ((mixOut_length (words b) r st).trans HS.out)
              have hu := mixIn_ok (words b) r k _ (mixOut_ok (words b) r st HU.out)
              have HE := Lib.hid (mixIn_succ (words b) r k (mixOut (words b) r st))
              generalize mixIn (words b) r k (mixOut (words b) r st) = s at *
              have p1 : (k + 3 * r) % 8 < 8 := Nat.mod_lt _ (by decide)
              have p2 : (k + 1) % 8 < 8 := Nat.mod_lt _ (by decide)
              have p3 : (k + 5) % 8 < 8 := Nat.mod_lt _ (by decide)
              have c0 := HB5.out.num k (by omega)
              have c1 := HB4.out.num ((k + 3 * r) % 8) (by rw [words_length]; omega)
              have c2 := HB5.out.num ((k + 1) % 8) (by omega)
              have c3 := HB5.out.num ((k + 5) % 8) (by omega)
              have hf := HB5.out.free k
              have u0 := hu.get k
              have u2 := hu.get ((k + 1) % 8)
              have u3 := hu.get ((k + 5) % 8)
              have q1 : ((k : Int) + 3 * r) % 8 = (((k + 3 * r) % 8 : Nat) : Int) := by omega
              have q2 : ((k : Int) + 1) % 8 = (((k + 1) % 8 : Nat) : Int) := by omega
              have q3 : ((k : Int) + 5) % 8 = (((k + 5) % 8 : Nat) : Int) := by omega
              generalize hj1 : (k + 3 * r) % 8 = j1 at *
              generalize hj2 : (k + 1) % 8 = j2 at *
              generalize hj3 : (k + 5) % 8 = j3 at *
              have J1 := Lib.hid hj1
              have J2 := Lib.hid hj2
              have J3 := Lib.hid hj3
              clear hj1 hj2 hj3 hu
              go_wp2_with fail
              go_quiet (fail)
              replace c0 := (show (wr.drewN nq).cell? _ = _ from c0)
              replace c2 := (show (wr.drewN nq).cell? _ = _ from c2)
              replace c3 := (show (wr.drewN nq).cell? _ = _ from c3)
              replace hf := (show (wr.drewN nq).frozen? _ = _ from hf)
              replace HX := Lib.hid (HX.out.drewN nq)
              replace HB1 := Lib.hid (HB1.out.drewN nq)
              replace HB3 := Lib.hid (HB3.out.drewN nq)
              replace HB4 := Lib.hid (HB4.out.drewN nq)
              replace HB5 := Lib.hid (HB5.out.drewN nq)
              clear c1
              generalize wr.drewN nq = wx at *
              go_wp2_with fail
              go_quiet ((go_at_call 135; exact Calls.quiet_of ((rot_7 _ _).mono fun e w' ⟨he, hw⟩ => ⟨he, 0, hw.symm⟩)))
              go_wp2_with (go_at_call 135; refine (rot_13 _ _).mono ?_; rintro e w' ⟨rfl, rfl⟩)
              go_roundw
              case rel =>
                have h5 := (HB5.out.drewN nq).set k (.int .u32 ((bits .xor .u32 (turn7 ((gI s k + gI (words b) j1 + 2654435769 * (8 * (r : Int) + (k : Int) + 1)) % 4294967296)) (gI s j2) + turn13 (gI s j3)) % 4294967296))
                rw [numsA_set] at h5
                have he := HE.out
                unfold mixStep at he
                rw [J1.out, J2.out, J3.out] at he
                rw [← he] at h5
                exact ⟨k + 1, by omega, by go_num, (HB1.out.drewN _).far (by simp; omega) _, (HB3.out.drewN _).far (by simp; omega) _, (HB4.out.drewN _).far (by simp; omega) _, h5, (HX.out.drewN _).set (by simp; omega) _⟩
              case measure => simp [intOf]; omega
            · obtain rfl : k = 8 := by omega
              go_wp2_with fail
              go_roundw
              case rel => exact ⟨r + 1, by omega, by go_num, HB1.out, HB3.out, HB4.out, by rw [mixOut_succ]; exact HB5.out, HX.out⟩
              case measure => simp [intOf]; omega
        · obtain rfl : r = 12 := by omega
          go_wp2_with fail
          have HL := Lib.hid ((mixOut_length (words b) 12 st).trans HS.out)
          have HE := Lib.hid (show mixL st b = xorIn st 8 (mixOut (words b) 12 st) by rw [mixL])
          generalize mixOut (words b) 12 st = s at *
          go_loopw [74] (fun i wq => ∃ k : Nat, k ≤ 8 ∧ i = .int .i64 k ∧ Blk wq w.heap.size 155 (numsA .u32 st) ∧ Blk wq (w.heap.size + 2) 155 z ∧ Blk wq gs 155 (numsA .u32 (xorIn st k s)) ∧ Ext w wq) (fun i _ => 8 - (intOf i).toNat)
          case atStart => exact ⟨0, by omega, rfl, HB1.out, HB3.out, by rw [xorIn_zero]; exact HB5.out, HX.out⟩
          case round =>
            clear HX HB1 HB3 HB4 HB5
            obtain ⟨k, hk, rfl, hb1, hb3, hb5, hx⟩ := hrel
            have HX := Lib.hid hx
            have HB1 := Lib.hid hb1
            have HB3 := Lib.hid hb3
            have HB5 := Lib.hid hb5
            clear hx hb1 hb3 hb5
            have hl := (xorIn_length st k s).trans HL.out
            by_cases hlk : k < 8
            · have c0 := HB5.out.num k (by omega)
              have c1 := HB1.out.num k (by rw [HS.out]; omega)
              have hf := HB5.out.free k
              have HE2 := Lib.hid (xorIn_succ st k s)
              generalize xorIn st k s = s1 at *
              go_wp2_with fail
              go_region
              go_wp2_with fail
              go_roundw
              case rel =>
                have h5 := HB5.out.set k (.int .u32 (bits .xor .u32 (gI s1 k) (gI st k)))
                rw [numsA_set, ← HE2.out] at h5
                exact ⟨k + 1, by omega, by go_num, (HB1.out.far (by simp; omega) _).drewN 1, (HB3.out.far (by simp; omega) _).drewN 1, h5.drewN 1, (HX.out.set (by simp; omega) _).drew⟩
              case measure => simp [intOf]; omega
            · obtain rfl : k = 8 := by omega
              rw [← HE.out] at HB5 hl
              go_wp2_with (first
                | (refine wpl_loadN HB5.out aggU32 hl rfl _ rfl rfl ?_)
                | (refine wpl_storeN HB3.out aggU32 hl hz rfl _ _ rfl rfl rfl rfl ?_))
              refine bodyPost_ret (results_blk rfl _ rfl aggU32 hl (HB3.out.setRow _)) rfl ?_
              exact ⟨rfl, HX.out.setRow (by omega) _⟩

end Go.Proofs.Yteegnbdgfedajaa
/- Two slices of bytes put together. No condition. -/
namespace Go.Proofs.Yteegnbdgfedajaa
open Go.RowKit
set_option linter.unusedVariables false
set_option linter.unusedSimpArgs false

set_option maxHeartbeats 1000000 in
set_option maxRecDepth 100000 in
theorem grow_any (n : Nat) (h0 : 0 < n) (hn : n ≤ 70368744177664) (w : World) : Calls Try.prog 132 #[.slice none 0 0, .int .i64 n] w fun e w' => ∃ v', e = .returned v' ∧ Own tByte 5 w' w.heap.size v' [] ∧ Ext w w' := by
  obtain ⟨i, z, hi, hz, hs, hby, hzs⟩ := rowByte.info
  have hr := Lib.run_append_nil_zeros (P := Try.prog) w 22 3 22 5 i z .i64 .i64 rowByte.ht (by kernel_rfl) hi hz n h0 (by rw [hs]; decide) (by omega) (by rw [hby]; omega)
  have hc1 := grownCap_ge w n 0 5
  have hc2 := grownCap_le_maxLen w n 0 5 (by simp only [maxLen]; omega)
  generalize grownCap w n 0 5 = c at *
  obtain ⟨row, hrow⟩ : ∃ row, row = Builtin.zeroCells z.cells n ++ Builtin.zeroCells z.cells (c - n) := ⟨_, rfl⟩
  have hsz : row.size = c := by rw [hrow, Array.size_append, size_zeroCells, size_zeroCells, hzs]; show n * 1 + (c - n) * 1 = c; omega
  rw [← hrow] at hr
  clear hrow
  have HR := Lib.hid hr
  have HC := Lib.hid hc2
  clear hr hc2 hi hz hs hby hzs
  go_enter Try.func132, Try.ntmps132
  go_wp2_with (at_builtin; refine Lib.wpList_append_run _ rfl _ _ _ _ rfl _ _ rfl rfl _ _ HR.out ?_)
  go_ret
  exact ⟨_, rfl, ⟨⟨by simp, .inr ⟨w.heap.size, c, row, rfl, Nat.le_refl _, heap_alloc_new w _, Nat.zero_le _, HC.out, by show row.size = c * 1; omega, by simp⟩⟩, by simp, by simp⟩, (ext_alloc w _).drew⟩

set_option maxHeartbeats 1000000 in
set_option maxRecDepth 100000 in
theorem concat2_any (g o : Nat) (v u : Value) (xs ys : List Int) (w : World) (S S' : Nat → Prop) (h : RdL tByte w S v xs) (h' : RdL tByte w S' u ys) (h0 : 0 < xs.length + ys.length) (hn : xs.length + ys.length ≤ 70368744177664)
    (c0 : w.cell? ⟨g, o, none⟩ = some v) (c1 : w.cell? ⟨g, o + 1, none⟩ = some u) :
    Calls Try.prog 122 #[.slice (some ⟨g, o, none⟩) 2 2] w fun e w' => ∃ v', e = .returned v' ∧ Own tByte 5 w' w.heap.size v' (xs ++ ys) ∧ Ext w w' := by
  have H := Lib.hid h
  have H' := Lib.hid h'
  obtain ⟨A, cap, rfl, hcap, hlen, _⟩ := h
  obtain ⟨A', cap', rfl, hcap', hlen', _⟩ := h'
  go_enter Try.func122, Try.ntmps122
  go_wp2_with fail
  go_loop [3, 11] (fun s i => (i = .int .i64 0 ∧ s = .int .i64 0) ∨ (i = .int .i64 1 ∧ s = .int .i64 xs.length) ∨ (i = .int .i64 2 ∧ s = .int .i64 (xs.length + ys.length : Nat))) (fun _ i => 2 - (intOf i).toNat)
  case atStart => exact .inl ⟨rfl, rfl⟩
  case round =>
    rcases hrel with ⟨rfl, rfl⟩ | ⟨rfl, rfl⟩ | ⟨rfl, rfl⟩
    · go_wp2_with fail
      go_round
      case rel => exact .inr (.inl ⟨rfl, rfl⟩)
      case measure => simp [intOf]
    · go_wp2_with fail
      go_round
      case rel => exact .inr (.inr ⟨rfl, by go_num⟩)
      case measure => simp [intOf]
    · have G := grow_any (xs.length + ys.length) h0 hn w
      have HG := Lib.hid G
      clear G
      go_wp2_with fail
      refine HG.out.mono ?_
      rintro e w1 ⟨v1, rfl, ho, hx⟩
      have HO := Lib.hid ho
      have HX := Lib.hid hx
      have c0' := hx.cell c0
      have c1' := hx.cell c1
      clear ho hx
      go_wp2_with fail
      go_loopw [6, 27] (fun v i wr => Ext w wr ∧ ((i = .int .i64 0 ∧ Own tByte 5 wr w.heap.size v []) ∨ (i = .int .i64 1 ∧ Own tByte 5 wr w.heap.size v xs) ∨ (i = .int .i64 2 ∧ Own tByte 5 wr w.heap.size v (xs ++ ys)))) (fun _ i _ => 2 - (intOf i).toNat)
      case atStart => exact ⟨HX.out, .inl ⟨rfl, HO.out⟩⟩
      case round =>
        clear HO HX c0' c1'
        obtain ⟨hx, hr⟩ := hrel
        have HX := Lib.hid hx
        have d0 := hx.cell c0
        have d1 := hx.cell c1
        clear hx
        rcases hr with ⟨rfl, ho⟩ | ⟨rfl, ho⟩ | ⟨rfl, ho⟩
        · obtain ⟨B, bn, bc, rfl⟩ := ho.shape3
          have HO := Lib.hid ho
          have hr := H.out.ext (by decide) HX.out
          obtain ⟨A2, cap2, he, _, _, hr1, hok1⟩ := hr
          injection he with e1 e2 e3
          subst e1 e3
          have HR := Lib.hid hr1
          have HK := Lib.hid hok1
          clear ho hr1 hok1
          go_wp2_with (at_builtin; refine wpl_append rowByte rfl _ _ rfl (v := .slice B bn bc) rfl HO.out _ _ rfl (ys := xs) (A := A) (S := S) rfl HR.out HK.out (by simp; omega) HX.out.size ?_; intro v1 w1 ho1 hg1 hat1; have HO1 := Lib.hid ho1; have HX1 := Lib.hid (HO.out.ext_app HX.out hg1); clear ho1 hg1 hat1)
          go_roundw
          case rel => exact ⟨HX1.out, .inr (.inl ⟨rfl, HO1.out⟩)⟩
          case measure => simp [intOf]
        · obtain ⟨B, bn, bc, rfl⟩ := ho.shape3
          have HO := Lib.hid ho
          have hr := H'.out.ext (by decide) HX.out
          obtain ⟨A2, cap2, he, _, _, hr1, hok1⟩ := hr
          injection he with e1 e2 e3
          subst e1 e3
          have HR := Lib.hid hr1
          have HK := Lib.hid hok1
          clear ho hr1 hok1
          go_wp2_with (at_builtin; refine wpl_append rowByte rfl _ _ rfl (v := .slice B bn bc) rfl HO.out _ _ rfl (ys := ys) (A := A') (S := S') rfl HR.out HK.out (by omega) HX.out.size ?_; intro v1 w1 ho1 hg1 hat1; have HO1 := Lib.hid ho1; have HX1 := Lib.hid (HO.out.ext_app HX.out hg1); clear ho1 hg1 hat1)
          go_roundw
          case rel => exact ⟨HX1.out, .inr (.inr ⟨rfl, HO1.out⟩)⟩
          case measure => simp [intOf]
        · have HO := Lib.hid ho
          clear ho
          go_wp2_with fail
          go_ret
          exact ⟨_, rfl, HO.out, HX.out⟩

end Go.Proofs.Yteegnbdgfedajaa
/- The program's key of bytes: the parts. No condition. -/
namespace Go.Proofs.Yteegnbdgfedajaa
open Go.RowKit
set_option linter.unusedVariables false
set_option linter.unusedSimpArgs false

set_option maxHeartbeats 1000000 in
set_option maxRecDepth 100000 in
theorem appendLittle_any (v : Value) (ys : List Int) (n : Int) (c : Nat) (w w0 : World) (h : Own tByte 5 w w0.heap.size v ys) (hx : Ext w0 w) (hn : 0 ≤ n ∧ n ≤ 18446744073709551615) (hc : c ≤ 8) (hl : ys.length ≤ 70368744177664) :
    Calls Try.prog 80 #[v, .int .u64 n, .int .i64 c] w fun e w' => ∃ v', e = .returned v' ∧ Own tByte 5 w' w0.heap.size v' (ys ++ bytesLE n c) ∧ Ext w0 w' := by
  obtain ⟨B, bn, bc, rfl⟩ := h.shape3
  have HO := Lib.hid h
  have HX := Lib.hid hx
  clear h hx
  go_enter Try.func80, Try.ntmps80
  go_wp2_with fail
  go_loopw [0, 9] (fun o i wr => ∃ k : Nat, k ≤ c ∧ i = .int .i64 k ∧ Own tByte 5 wr w0.heap.size o (ys ++ bytesLE n k) ∧ Ext w0 wr) (fun _ i _ => c - (intOf i).toNat)
  case atStart => exact ⟨0, by omega, rfl, by rw [bytesLE_zero, List.append_nil]; exact HO.out, HX.out⟩
  case round =>
    clear HO HX
    obtain ⟨k, hk, rfl, ho, hx⟩ := hrel
    have HO := Lib.hid ho
    have HX := Lib.hid hx
    obtain ⟨C, cn, cc, rfl⟩ := ho.shape3
    clear ho hx
    by_cases hlt : k < c
    · have hs2 := bytesLE_succ n k
      rw [pow256] at hs2
      have HS2 := Lib.hid hs2
      clear hs2
      go_wp2_with (at_builtin; refine wpl_append rowByte rfl _ _ rfl (v := .slice C cn cc) rfl (HO.out.alloc _) _ _ rfl (A := some ⟨wr.heap.size, 0, none⟩) (ys := [n / 2 ^ (8 * k) % 256]) rfl (rd_byte wr (n / 2 ^ (8 * k) % 256) (by omega) _) (okOne (by omega)) (by simp [bytesLE_length]; omega) (HX.out.alloc _).size ?_; intro v9 w9 ho1 hg1 hat1; have HX9 := Lib.hid ((HO.out.alloc _).ext_app (HX.out.alloc _) hg1); have HO9 := Lib.hid ho1; clear ho1 hg1 hat1)
      go_roundw
      case rel => exact ⟨k + 1, by omega, by go_num, by rw [HS2.out, ← List.append_assoc]; exact HO9.out, HX9.out⟩
      case measure => simp [intOf]; omega
    · obtain rfl : k = c := by omega
      go_wp2_with fail
      go_ret
      exact ⟨_, rfl, HO.out, HX.out⟩

end Go.Proofs.Yteegnbdgfedajaa
/- The program's key of bytes: what stands behind the bytes. No condition. -/
namespace Go.Proofs.Yteegnbdgfedajaa
open Go.RowKit
set_option linter.unusedVariables false
set_option linter.unusedSimpArgs false

/-- a literal's cells, written one by one -/
theorem fold_fill_at (l : List Value) (n : Nat) (Z : Array Value) (h : Z.size = n + l.length) : ((l.zipIdx n).foldl (fun cs x => cs.setIfInBounds x.2 x.1) Z) = (Z.toList.take n ++ l).toArray := by
  induction l generalizing n Z with
  | nil =>
    have : n = Z.toList.length := by simpa using h.symm
    rw [this, List.take_length]
    simp
  | cons a r ih =>
    have hn : n < Z.size := by rw [h]; simp
    simp only [List.zipIdx_cons, List.foldl_cons]
    rw [ih (n + 1) _ (by simp at h ⊢; omega)]
    congr 1
    rw [Array.toList_setIfInBounds, List.take_succ_eq_append_getElem (by simpa using hn), List.getElem_set_self, List.take_set_of_le (Nat.le_refl _), List.append_assoc]
    rfl
theorem fold_fill (l : List Value) (Z : Array Value) (h : Z.size = l.length) : (l.zipIdx.foldl (fun cs x => cs.setIfInBounds x.2 x.1) Z) = l.toArray := by
  rw [fold_fill_at l 0 Z (by omega)]
  simp
set_option maxHeartbeats 1000000 in
set_option maxRecDepth 100000 in
theorem padding_any (n : Nat) (hn : n ≤ 70368744177664) (w : World) :
    Calls Try.prog 123 #[.int .i64 n] w fun e w' => ∃ v', e = .returned v' ∧ Own tByte 5 w' w.heap.size v' (padL n n) ∧ Ext w w' := by
  go_enter Try.func123, Try.ntmps123
  go_wp2_with fail
  go_loopw [3] (fun o wr => ∃ z : Nat, z ≤ padZ n ∧ Own tByte 5 wr w.heap.size o ([128] ++ List.replicate z 0) ∧ Ext w wr) (fun o _ => 40 - lenV o)
  case atStart => exact ⟨0, by omega, by rw [List.replicate_zero, List.append_nil]; exact Own.of_blk8 (Blk.new w _ _) (Nat.le_refl _) (by simp) (fun x hx => by simp at hx; omega), ext_alloc _ _⟩
  case round =>
    obtain ⟨z, hz, ho, hx⟩ := hrel
    have HX := Lib.hid hx
    have HO := Lib.hid ho
    obtain ⟨B, bn, bc, rfl⟩ := ho.shape3
    have hbn := ho.len
    simp only [List.length_append, List.length_cons, List.length_nil, List.length_replicate] at hbn
    clear hx ho
    have hp := padZ_eq n
    have hbl : (bn : Int) ≤ 100 := by omega
    have hz31 : z ≤ 31 := by omega
    by_cases hlt : z < padZ n
    · have hm : ¬ (((n : Int) + bn) % 32 = 24) := by omega
      have HP := Lib.hid hp
      have HN := Lib.hid hbn
      clear hp hbn
      go_wp2_with (first
        | (go_at_call 124; refine (sizeB_any _ _ _ _).mono ?_; rintro e w' ⟨rfl, rfl⟩)
        | (at_builtin; refine wpl_append rowByte rfl _ _ rfl (v := .slice B bn bc) rfl (HO.out.alloc _) _ _ rfl (A := some ⟨wr.heap.size, 0, none⟩) (ys := [0]) rfl (rd_byte wr 0 (by decide) _) (okOne (by decide)) (by simp; omega) (HX.out.alloc _).size ?_; intro v9 w9 ho1 hg1 hat1; have HX9 := Lib.hid ((HO.out.alloc _).ext_app (HX.out.alloc _) hg1); have HO9 := Lib.hid ho1; clear ho1 hg1 hat1))
      go_roundw
      case rel => exact ⟨z + 1, by omega, by rw [List.replicate_succ', ← List.append_assoc]; exact HO9.out, HX9.out⟩
      case measure =>
        have h1 := HO9.out.shape
        obtain ⟨_, _, rfl⟩ := h1
        have := HN.out
        have := HP.out
        simp [lenV]
        omega
    · have hm : ((n : Int) + bn) % 32 = 24 := by omega
      obtain rfl : z = padZ n := by omega
      have HP := Lib.hid hp
      have HN := Lib.hid hbn
      clear hp hbn
      go_wp2_with (first
        | (go_at_call 124; refine (sizeB_any _ _ _ _).mono ?_; rintro e w' ⟨rfl, rfl⟩)
        | (go_at_call 80; refine (appendLittle_any _ _ n 8 _ w HO.out HX.out (by omega) (by omega) (by simp; omega)).mono ?_; rintro e w9 ⟨v9, rfl, ho9, hx9⟩))
      go_ret
      exact ⟨_, rfl, by rw [padL_eq]; exact ho9, hx9⟩

set_option maxHeartbeats 1000000 in
set_option maxRecDepth 100000 in
theorem blocks_any (v : Value) (al : List Int) (m : Nat) (w : World) (S : Nat → Prop) (h : RdL tByte w S v al) (hm : al.length = 32 * m) (hl : al.length ≤ 140737488355) :
    Calls Try.prog 121 #[v] w fun e w' => ∃ v' u, e = .returned (.tuple #[v', u]) ∧ Own tKey 39 w' w.heap.size v' (blocksL al m) ∧ Ext w w' := by
  obtain ⟨A, cap, rfl, hcap, hlen, hrd, hok⟩ := h
  have Hrd := Lib.hid (show Rd w S 1 A al.length (nums .u8 al) by rw [← flat_bytes]; exact hrd)
  have Hok := Lib.hid (show B8 al from hok)
  clear hrd hok
  have rowBlk : Row Try.prog tKey 118 39 32 := Row.mk' (by kernel_rfl) (.agg #[.int .u8 0, .int .u8 0, .int .u8 0, .int .u8 0, .int .u8 0, .int .u8 0, .int .u8 0, .int .u8 0, .int .u8 0, .int .u8 0, .int .u8 0, .int .u8 0, .int .u8 0, .int .u8 0, .int .u8 0, .int .u8 0, .int .u8 0, .int .u8 0, .int .u8 0, .int .u8 0, .int .u8 0, .int .u8 0, .int .u8 0, .int .u8 0, .int .u8 0, .int .u8 0, .int .u8 0, .int .u8 0, .int .u8 0, .int .u8 0, .int .u8 0, .int .u8 0]) (by kernel_rfl) rfl (by decide) (by decide)
  have HR := Lib.hid rowBlk
  clear rowBlk
  go_enter Try.func121, Try.ntmps121
  go_wp2_with fail
  go_loopw [0, 4] (fun d o wr => ∃ (k : Nat) (A1 : Option Addr) (c1 : Nat), k ≤ m ∧ d = .slice A1 (al.drop (32 * k)).length c1 ∧ (al.drop (32 * k)).length ≤ c1 ∧ Rd w S 1 A1 (al.drop (32 * k)).length (nums .u8 (al.drop (32 * k))) ∧ Own tKey 39 wr w.heap.size o (blocksL al k) ∧ Ext w wr) (fun d _ _ => lenV d)
  case atStart => exact ⟨0, A, cap, by omega, rfl, hcap, Hrd.out, Own.empty _ _ _ _ (Nat.le_refl _), ext_alloc _ _⟩
  case round =>
    obtain ⟨k, A1, c1, hk, rfl, hc1, hr, ho, hx⟩ := hrel
    have HX := Lib.hid hx
    have HO := Lib.hid ho
    have HR1 := Lib.hid hr
    obtain ⟨B, bn, bc, rfl⟩ := ho.shape3
    clear hx ho hr
    have hdl : (al.drop (32 * k)).length = 32 * (m - k) := by rw [List.length_drop]; omega
    rw [hdl] at HR1 hc1 ⊢
    by_cases hlt : k < m
    · obtain ⟨n, hn⟩ : ∃ n, n = 32 * (m - k) := ⟨_, rfl⟩
      rw [← hn] at HR1 hc1 ⊢
      have hn32 : 32 ≤ n := by omega
      obtain ⟨g, o, rfl, hs, hcell⟩ := HR1.out.2 (by omega)
      have hK := blockL_ok al k Hok.out (by omega)
      have hbl : (blockL al k).length = 32 := hK.1
      have hck : ∀ j u, (nums .u8 (blockL al k))[j]? = some u → wr.cell? ((⟨g, o, none⟩ : Addr).add j) = some u := by
        intro j u hu
        rw [Addr.add_lit]
        refine HX.out.cell (hcell j u ?_)
        have hj : j < 32 := by
          have := (List.getElem?_eq_some_iff.1 hu).1
          rw [nums_length, hbl] at this
          exact this
        rw [blockL_eq] at hu
        rw [← hu]
        simp [nums, List.getElem?_take, hj]
      have HCK := Lib.hid hck
      have HCut := Lib.hid (HR1.out.cut8 32 c1 hn32 hc1)
      have HBS := Lib.hid (blocksL_succ al k)
      have hle : (blocksL al k).length = k := by simp [blocksL]
      generalize blockL al k = blk at *
      have HN := Lib.hid hn
      have HDL := Lib.hid hdl
      have HK := Lib.hid hK
      have HLE := Lib.hid hle
      clear hn hdl hcell hck hK hle
      have hnl : (nums .u8 blk).length = 32 := by rw [nums_length, hbl]
      have hge : (32 : Int) ≤ (n : Int) := by omega
      have W7 : ¬ n < 32 := by omega
      have harr : (Instr.arrayAt 39 (.slice (some ⟨g, o, none⟩) n c1)).run Try.prog wr = .ok (.pointer (some ⟨g, o, none⟩)) wr := by
        simp [Instr.arrayAt, run_underlying (show Try.prog.underlying 39 = some (.array 32 5) by kernel_rfl), W7]
      go_wp2_with (first
        | (refine wpl_load ⟨g, o, none⟩ (nums .u8 blk) (by rw [nums_length, hbl]; exact aggB32) rfl _ rfl rfl HCK.out ?_)
        | (at_builtin; rw [fold_fill (nums .u8 blk) _ (by rw [hnl]; rfl)]; refine wpl_append HR.out rfl _ _ rfl (v := .slice B bn bc) rfl (HO.out.alloc _) _ _ rfl (A := some ⟨wr.heap.size, 0, none⟩) (ys := [blk]) rfl (rd_one (T := tKey) wr blk HK.out _) (by intro y hy; obtain rfl := List.mem_singleton.1 hy; exact HK.out) (by rw [HLE.out]; simp; omega) (HX.out.alloc _).size ?_; intro v9 w9 ho1 hg1 hat1; have HX9 := Lib.hid ((HO.out.alloc _).ext_app (HX.out.alloc _) hg1); have HO9 := Lib.hid ho1; clear ho1 hg1 hat1))
      go_roundw
      case rel =>
        have hcut := HCut.out
        rw [List.drop_drop, show 32 * k + 32 = 32 * (k + 1) by omega] at hcut
        have hl2 : (al.drop (32 * (k + 1))).length = n - 32 := by rw [List.length_drop]; have := HN.out; omega
        refine ⟨k + 1, _, c1 - 32, by omega, ?_, by omega, hcut, by rw [HBS.out]; exact HO9.out, HX9.out⟩
        rw [hl2]
      case measure => simp [lenV]; omega
    · obtain rfl : k = m := by omega
      rw [Nat.sub_self, Nat.mul_zero] at HR1 hc1 ⊢
      go_wp2_with fail
      go_ret2
      exact ⟨_, _, rfl, HO.out, HX.out⟩

end Go.Proofs.Yteegnbdgfedajaa
/- The program's key of bytes: the blocks mixed in. No condition. -/
namespace Go.Proofs.Yteegnbdgfedajaa
open Go.RowKit
set_option linter.unusedVariables false
set_option linter.unusedSimpArgs false

set_option maxHeartbeats 1000000 in
set_option maxRecDepth 100000 in
theorem mixed_any (st : List Int) (hs8 : st.length = 8) (hu : U32 st) (v : Value) (al : List Int) (m : Nat) (w : World) (S : Nat → Prop) (h : RdL tKey w S v (blocksL al m)) :
    Calls Try.prog 126 #[.agg (numsA .u32 st), v] w fun e w' => e = .returned (.agg (numsA .u32 (mixN al st m))) ∧ Ext w w' := by
  obtain ⟨A, cap, rfl, hcap, hlen, hrd, hok⟩ := h
  have HEL := Lib.hid (fun k (hk : k < (blocksL al m).length) => hrd.elem hok k hk)
  have HOK := Lib.hid hok
  have HS8 := Lib.hid hs8
  have HU := Lib.hid hu
  have hbl : (blocksL al m).length = m := by simp [blocksL]
  have HBL := Lib.hid (show ∀ k, (h : k < (blocksL al m).length) → (blocksL al m)[k] = blockL al k from fun k h => by simp [blocksL])
  have HBM := Lib.hid hbl
  rw [hbl] at hcap hlen ⊢
  clear hrd hok hs8 hu
  go_enter Try.func126, Try.ntmps126
  go_wp2_with fail
  go_loopw [9] (fun q wr => ∃ (k : Nat) (z : Array Value), k ≤ m ∧ q = .int .i64 k ∧ z.size = 8 ∧ Blk wr w.heap.size 155 (numsA .u32 (mixN al st k)) ∧ Blk wr (w.heap.size + 1) 155 z ∧ Ext w wr) (fun q _ => m - (intOf q).toNat)
  case atStart => exact ⟨0, _, by omega, rfl, rfl, by rw [mixN_zero]; exact (Blk.new w _ _).alloc _, Blk.new' (by simp) _ _, (ext_alloc _ _).alloc _⟩
  case round =>
    obtain ⟨k, z, hk, rfl, hz, hb0, hb1, hx⟩ := hrel
    have HX := Lib.hid hx
    have HB0 := Lib.hid hb0
    have HB1 := Lib.hid hb1
    clear hx hb0 hb1
    by_cases hlt : k < m
    · obtain ⟨g, o, rfl, hs, hc⟩ := HEL.out k (by rw [HBM.out]; exact hlt)
      have hK := HOK.out _ (List.getElem_mem (l := blocksL al m) (n := k) (by rw [HBM.out]; exact hlt))
      rw [HBL.out] at hc hK
      have hbl : (blockL al k).length = 32 := hK.1
      have hck : ∀ j u, (nums .u8 (blockL al k))[j]? = some u → wr.cell? ((⟨g, o + k * 32, none⟩ : Addr).add j) = some u := by
        intro j u hu
        rw [Addr.add_lit]
        exact HX.out.cell (hc j u hu)
      have HCK := Lib.hid hck
      have HK := Lib.hid (show K32 (blockL al k) from hK)
      have hs := mixN_length al st k HS8.out
      have hu := mixN_ok al st k HU.out
      have HN := Lib.hid (mixN_succ al st k)
      have lt1 := HB1.out.lt
      generalize mixN al st k = s at *
      generalize blockL al k = blk at *
      have hb0 := (HB0.out.alloc (.cells #[Value.int .u8 0, Value.int .u8 0, Value.int .u8 0, Value.int .u8 0, Value.int .u8 0, Value.int .u8 0, Value.int .u8 0, Value.int .u8 0, Value.int .u8 0, Value.int .u8 0, Value.int .u8 0, Value.int .u8 0, Value.int .u8 0, Value.int .u8 0, Value.int .u8 0, Value.int .u8 0, Value.int .u8 0, Value.int .u8 0, Value.int .u8 0, Value.int .u8 0, Value.int .u8 0, Value.int .u8 0, Value.int .u8 0, Value.int .u8 0, Value.int .u8 0, Value.int .u8 0, Value.int .u8 0, Value.int .u8 0, Value.int .u8 0, Value.int .u8 0, Value.int .u8 0, Value.int .u8 0] 39)).row_far (by omega : w.heap.size ≠ wr.heap.size) (numsA .u8 blk)
      have hb1 := (HB1.out.alloc (.cells #[Value.int .u8 0, Value.int .u8 0, Value.int .u8 0, Value.int .u8 0, Value.int .u8 0, Value.int .u8 0, Value.int .u8 0, Value.int .u8 0, Value.int .u8 0, Value.int .u8 0, Value.int .u8 0, Value.int .u8 0, Value.int .u8 0, Value.int .u8 0, Value.int .u8 0, Value.int .u8 0, Value.int .u8 0, Value.int .u8 0, Value.int .u8 0, Value.int .u8 0, Value.int .u8 0, Value.int .u8 0, Value.int .u8 0, Value.int .u8 0, Value.int .u8 0, Value.int .u8 0, Value.int .u8 0, Value.int .u8 0, Value.int .u8 0, Value.int .u8 0, Value.int .u8 0, Value.int .u8 0] 39)).row_far (by omega : w.heap.size + 1 ≠ wr.heap.size) (numsA .u8 blk)
      have hb2 := (Blk.new wr 39 #[Value.int .u8 0, Value.int .u8 0, Value.int .u8 0, Value.int .u8 0, Value.int .u8 0, Value.int .u8 0, Value.int .u8 0, Value.int .u8 0, Value.int .u8 0, Value.int .u8 0, Value.int .u8 0, Value.int .u8 0, Value.int .u8 0, Value.int .u8 0, Value.int .u8 0, Value.int .u8 0, Value.int .u8 0, Value.int .u8 0, Value.int .u8 0, Value.int .u8 0, Value.int .u8 0, Value.int .u8 0, Value.int .u8 0, Value.int .u8 0, Value.int .u8 0, Value.int .u8 0, Value.int .u8 0, Value.int .u8 0, Value.int .u8 0, Value.int .u8 0, Value.int .u8 0, Value.int .u8 0]).setRow (numsA .u8 blk)
      have hx0 := (HX.out.alloc (.cells #[Value.int .u8 0, Value.int .u8 0, Value.int .u8 0, Value.int .u8 0, Value.int .u8 0, Value.int .u8 0, Value.int .u8 0, Value.int .u8 0, Value.int .u8 0, Value.int .u8 0, Value.int .u8 0, Value.int .u8 0, Value.int .u8 0, Value.int .u8 0, Value.int .u8 0, Value.int .u8 0, Value.int .u8 0, Value.int .u8 0, Value.int .u8 0, Value.int .u8 0, Value.int .u8 0, Value.int .u8 0, Value.int .u8 0, Value.int .u8 0, Value.int .u8 0, Value.int .u8 0, Value.int .u8 0, Value.int .u8 0, Value.int .u8 0, Value.int .u8 0, Value.int .u8 0, Value.int .u8 0] 39)).setRow HX.out.size (numsA .u8 blk)
      have G0 := Lib.hid hb0
      have G1 := Lib.hid hb1
      have G2 := Lib.hid hb2
      have GX := Lib.hid hx0
      have HM := Lib.hid (fun W => mixBlock_any s blk hs hu HK.out W)
      have HSS := Lib.hid hs
      clear hc hck hK hb0 hb1 hb2 hx0 hu hs
      go_wp2_with (first
        | (refine wpl_load ⟨g, o + k * 32, none⟩ (nums .u8 blk) (by rw [nums_length, hbl]; exact aggB32) rfl _ rfl rfl HCK.out ?_)
        | (refine wpl_storeN (k := .u8) (xs := blk) (Blk.new wr _ _) aggB32 hbl rfl rfl _ _ rfl rfl rfl rfl ?_)
        | (refine wpl_loadN G0.out aggU32 HSS.out rfl _ rfl rfl ?_)
        | (refine wpl_loadN G2.out aggB32 hbl rfl _ rfl rfl ?_))
      refine (HM.out _).mono ?_
      rintro e w4 ⟨rfl, hx4⟩
      have F0 := Lib.hid (G0.out.ext hx4)
      have F1 := Lib.hid (G1.out.ext hx4)
      have FX := Lib.hid (GX.out.trans hx4)
      have hml := mixL_length s blk HSS.out
      clear hx4
      go_wp2_with (refine wpl_storeN (k := .u32) (xs := mixL s blk) F0.out aggU32 hml (by rw [numsA_size]; exact HSS.out) rfl _ _ rfl rfl rfl rfl ?_)
      go_roundw
      case rel => exact ⟨k + 1, z, by omega, by go_num, hz, by rw [HN.out]; exact F0.out.setRow _, F1.out.row_far (by omega) _, FX.out.setRow (Nat.le_refl _) _⟩
      case measure => simp [intOf]; omega
    · obtain rfl : k = m := by omega
      have hs := mixN_length al st k HS8.out
      go_wp2_with (first
        | (refine wpl_loadN HB0.out aggU32 hs rfl _ rfl rfl ?_)
        | (refine wpl_storeN HB1.out aggU32 hs hz rfl _ _ rfl rfl rfl rfl ?_))
      refine bodyPost_ret (results_blk rfl _ rfl aggU32 hs (HB1.out.setRow _)) rfl ?_
      exact ⟨rfl, HX.out.setRow (by omega) _⟩

end Go.Proofs.Yteegnbdgfedajaa
/- The program's key of bytes: the key of a state. No condition. -/
namespace Go.Proofs.Yteegnbdgfedajaa
open Go.RowKit
set_option linter.unusedVariables false
set_option linter.unusedSimpArgs false

theorem stp_copy {P : Program} {dT sT elem : TypeId} {ops : Array Oper} {o : Oper} {a : Act} {w : World} {K : Act → World → Prop} {Q : Exit → Act → World → Prop} {E : Prop} (hgd : o.guard = none) (d x : Operand)
    (hop : o.op = .call { callee := .builtin .copy, args := #[d, x], argTypes := #[dT, sT] }) (g off dLen dCap : Nat) (A : Addr) (n c : Nat) {cur : Array Value} {t : TypeId} (cs : List Value)
    (hd : a.eval d = .slice (some ⟨g, off, none⟩) dLen dCap) (hx : a.eval x = .slice (some A) n c) (hu : P.underlying dT = some (.slice elem)) (hs : (P.info? elem).map (·.size) = some 1)
    (hg : Blk w g t cur) (hn : cs.length = Nat.min n dLen) (hsrc : ∀ j v, cs[j]? = some v → w.cell? (A.add j) = some v) (hfit : off + cs.length ≤ cur.size) (h1 : ∀ v ∈ cs, v.oneCell' = true)
    (h : K (a.put o.dst (goInt cs.length)) (w.setRow g (splice cur off cs))) :
    if Region.wanted o (yielded ops a.tmps) = true then Oper.wp P o a w K Q else E := by
  have hrun := run_copy_row (P := P) w dT sT o.type elem g off dLen dCap A n c cur t cs hu hs hg hn hsrc hfit h1
  have hw : Region.wanted o (yielded ops a.tmps) = true := by simp [Region.wanted, hgd]
  rw [if_pos hw]
  unfold Oper.wp execOp
  simp only [hop, resolve, invoke, builtin, Sem.run_bind, Sem.run_pure, Result.andThen_ok, List.map_toArray, List.map_cons, List.map_nil, hd, hx, hrun]
  exact h
theorem keyL_word (s : List Int) (k : Nat) (h : k < 8) : bytesLE (gI s k) 4 = ((keyL s).drop (4 * k)).take 4 := by
  apply List.ext_getElem
  · rw [bytesLE_length, List.length_take, List.length_drop, keyL_length]; omega
  · intro j h1 h2
    rw [bytesLE_length] at h1
    have e := keyL_at s (4 * k + j) (by omega)
    rw [gI_lt (by rw [keyL_length]; omega), show (4 * k + j) / 4 = k by omega, show (4 * k + j) % 4 = j by omega] at e
    simp only [List.getElem_take, List.getElem_drop, e]
    simp only [bytesLE, List.getElem_map, List.getElem_range, pow256]
theorem keyL_splice (s : List Int) (k : Nat) (h : k < 8) : splice (numsA .u8 ((keyL s).take (4 * k) ++ List.replicate (32 - 4 * k) 0)) (4 * k) (nums .u8 (bytesLE (gI s k) 4)) = numsA .u8 ((keyL s).take (4 * (k + 1)) ++ List.replicate (32 - 4 * (k + 1)) 0) := by
  have hl := keyL_length s
  have h1 : ((keyL s).take (4 * k)).length = 4 * k := by rw [List.length_take]; omega
  have hd : ((keyL s).take (4 * k)).drop (4 * k + 4) = [] := List.drop_eq_nil_of_le (by omega)
  unfold splice numsA
  congr 1
  rw [nums_length, bytesLE_length, keyL_word s k h]
  simp only [nums, ← List.map_take, ← List.map_drop, ← List.map_append]
  congr 1
  rw [List.take_left' h1, List.drop_append, hd, List.nil_append, h1, List.drop_replicate, show 4 * (k + 1) = 4 * k + 4 by omega, List.take_add, show 32 - 4 * k - (4 * k + 4 - 4 * k) = 32 - (4 * k + 4) by omega]
set_option maxHeartbeats 1000000 in
set_option maxRecDepth 100000 in
theorem keyOf_any (s : List Int) (hs8 : s.length = 8) (hu : U32 s) (w : World) :
    Calls Try.prog 125 #[.agg (numsA .u32 s)] w fun e w' => e = .returned (.agg (numsA .u8 (keyL s))) ∧ Ext w w' := by
  have HS8 := Lib.hid hs8
  have HU := Lib.hid hu
  have hkl := keyL_length s
  have HKL := Lib.hid hkl
  clear hkl hu
  go_enter Try.func125, Try.ntmps125
  go_wp2_with (first
    | (refine wpl_storeN (k := .u8) (xs := List.replicate 32 0) (Blk.new' (g := w.heap.size + 2) (by simp) _ _) aggKey (by simp) rfl rfl _ _ rfl rfl rfl rfl ?_)
    | (refine wpl_loadN (Blk.row_far (g := w.heap.size) (((Blk.new w _ _).alloc _).alloc _) (by omega) _) aggU32 hs8 rfl _ rfl rfl ?_))
  have HB1 := Lib.hid ((((Blk.new' (g := w.heap.size + 1) (by simp) 40 #[Value.int .u8 0, Value.int .u8 0, Value.int .u8 0, Value.int .u8 0, Value.int .u8 0, Value.int .u8 0, Value.int .u8 0, Value.int .u8 0, Value.int .u8 0, Value.int .u8 0, Value.int .u8 0, Value.int .u8 0, Value.int .u8 0, Value.int .u8 0, Value.int .u8 0, Value.int .u8 0, Value.int .u8 0, Value.int .u8 0, Value.int .u8 0, Value.int .u8 0, Value.int .u8 0, Value.int .u8 0, Value.int .u8 0, Value.int .u8 0, Value.int .u8 0, Value.int .u8 0, Value.int .u8 0, Value.int .u8 0, Value.int .u8 0, Value.int .u8 0, Value.int .u8 0, Value.int .u8 0] : Blk ((w.alloc (.cells (numsA .u32 s) 155)).alloc _) _ _ _).alloc (.cells #[Value.int .u8 0, Value.int .u8 0, Value.int .u8 0, Value.int .u8 0, Value.int .u8 0, Value.int .u8 0, Value.int .u8 0, Value.int .u8 0, Value.int .u8 0, Value.int .u8 0, Value.int .u8 0, Value.int .u8 0, Value.int .u8 0, Value.int .u8 0, Value.int .u8 0, Value.int .u8 0, Value.int .u8 0, Value.int .u8 0, Value.int .u8 0, Value.int .u8 0, Value.int .u8 0, Value.int .u8 0, Value.int .u8 0, Value.int .u8 0, Value.int .u8 0, Value.int .u8 0, Value.int .u8 0, Value.int .u8 0, Value.int .u8 0, Value.int .u8 0, Value.int .u8 0, Value.int .u8 0] 40))).row_far (by omega : w.heap.size + 1 ≠ w.heap.size + 2) (numsA .u8 (List.replicate 32 0)))
  go_loopw [8] (fun q wr => ∃ (k : Nat) (z : Array Value), k ≤ 8 ∧ q = .int .i64 k ∧ z.size = 32 ∧ Blk wr (w.heap.size + 1) 40 z ∧ Blk wr (w.heap.size + 2) 40 (numsA .u8 ((keyL s).take (4 * k) ++ List.replicate (32 - 4 * k) 0)) ∧ Ext w wr) (fun q _ => 8 - (intOf q).toNat)
  case atStart => exact ⟨0, _, by omega, rfl, rfl, HB1.out, by rw [Nat.mul_zero, List.take_zero, List.nil_append, Nat.sub_zero]; exact (Blk.new' (by simp) _ _).setRow _, (((ext_alloc _ _).alloc _).alloc _).setRow (by omega) _⟩
  case round =>
    clear HB1
    obtain ⟨k, z, hk, rfl, hz, hb1, hb2, hx⟩ := hrel
    have HX := Lib.hid hx
    have HB1 := Lib.hid hb1
    have HB2 := Lib.hid hb2
    clear hx hb1 hb2
    by_cases hlt : k < 8
    · have hat := numsA_at .u32 s k (by rw [hs8]; exact hlt)
      have hu := HU.out.get k
      have hz0 : (0 : Int) ≤ (k : Int) := by omega
      have hk8 : (k : Int) < 8 := by omega
      have hidx : (Instr.index 155 (.agg (numsA .u32 s)) (.int .i64 k)).run Try.prog wr = .ok (.int .u32 (gI s k)) wr := by
        have h1 : (isAgg 154).run Try.prog wr = .ok false wr := by kernel_rfl
        have h2 : (sizeOf 154).run Try.prog wr = .ok 1 wr := by kernel_rfl
        simp [Instr.index, asIntOf, run_underlying (show Try.prog.underlying 155 = some (.array 8 154) by kernel_rfl), hk8, hlt, part, h1, h2, hat]
      have HSP := Lib.hid (keyL_splice s k hlt)
      have hcur : (numsA .u8 ((keyL s).take (4 * k) ++ List.replicate (32 - 4 * k) 0)).size = 32 := by
        rw [numsA_size, List.length_append, List.length_replicate, List.length_take, HKL.out]; omega
      generalize numsA .u8 ((keyL s).take (4 * k) ++ List.replicate (32 - 4 * k) 0) = cur at *
      have hbl := bytesLE_length (gI s k) 4
      have hal : ∀ W, Calls Try.prog 80 #[.slice none 0 0, .int .u64 (gI s k), .int .i64 4] W fun e w' => ∃ v', e = .returned v' ∧ Own tByte 5 w' W.heap.size v' (bytesLE (gI s k) 4) ∧ Ext W w' := by
        intro W
        have := appendLittle_any (.slice none 0 0) [] (gI s k) 4 W W (Own.nil _ _ _ _) (Ext.refl _) (by omega) (by decide) (by simp)
        rw [List.nil_append] at this
        exact this
      generalize bytesLE (gI s k) 4 = bs at *
      have HAL := Lib.hid hal
      have W1 : IntKind.i64.wrap (4 * (k : Int)) = 4 * k := IntWalk.i64_in _ (by omega)
      have W2 : (4 * (k : Int)).toNat = 4 * k := by omega
      have W3 : ¬ 32 = 4 * k := by omega
      have W6 : IntKind.u64.wrap (gI s k) = gI s k := wraps_u64 _ (by omega) (by omega)
      have W4 : (0 : Int) ≤ 4 * k := by omega
      have W5 : 4 * (k : Int) ≤ 32 := by omega
      have HBL := Lib.hid hbl
      clear hal hbl
      have r1 := (Ext.refl wr).drew
      go_wp2_with fail
      go_region_law (first
        | (go_simp; go_at_call 80; refine (HAL.out _).mono ?_; rintro e p1 ⟨v1, rfl, ho1, hx1⟩; obtain ⟨g1, bc1, rfl, hb1, hlt1, hcc1, hf1, hs1⟩ := ho1.byte 0 (by rw [HBL.out]; decide); clear hcc1 hf1 hs1; have HCL := Lib.hid (fun j v (hj : (nums .u8 bs)[j]? = some v) => ho1.1.cells (g := g1) rfl j v (by rw [flat_bytes]; exact hj)); have HX1 := Lib.hid hx1; clear ho1 hx1)
        | (refine stp_copy (dT := 22) (sT := 22) (elem := 5) rfl (.tmp 14) (.tmp 17) rfl (w.heap.size + 1 + 1) (4 * k) (32 - 4 * k) (32 - 4 * k) ⟨g1, 0, none⟩ bs.length bc1 (cur := cur) (t := 40) (nums .u8 bs) rfl rfl rowByte.ht (by kernel_rfl) ((HB2.out.drewN 1).ext HX1.out) (by rw [nums_length, HBL.out]; exact (Nat.min_eq_left (by omega)).symm) HCL.out (by rw [nums_length, HBL.out, hcur]; omega) (one_nums _ _) ?_))
      all_goals
        (try simp only [Act.put, List.setIfInBounds_toArray, List.set_cons_zero, List.set_cons_succ, List.getElem_cons_zero, List.getElem_cons_succ, List.getElem_toArray])
        go_wp2_with fail
        go_roundw
        case rel => exact ⟨k + 1, z, by omega, by go_num, hz, ((HB1.out.drewN 1).ext HX1.out).row_far (by omega) _, by rw [← HSP.out]; exact ((HB2.out.drewN 1).ext HX1.out).setRow _, ((HX.out.drew).trans HX1.out).setRow (by omega) _⟩
        case measure => simp [intOf]; omega
    · obtain rfl : k = 8 := by omega
      have hb := HB2.out
      rw [Nat.sub_self, List.replicate_zero, List.append_nil, List.take_of_length_le (by rw [HKL.out]; decide)] at hb
      have HB3 := Lib.hid hb
      clear hb
      go_wp2_with (first
        | (refine wpl_loadN HB3.out aggKey HKL.out rfl _ rfl rfl ?_)
        | (refine wpl_storeN HB1.out aggKey HKL.out hz rfl _ _ rfl rfl rfl rfl ?_))
      refine bodyPost_ret (results_blk rfl _ rfl aggKey HKL.out (HB1.out.setRow _)) rfl ?_
      exact ⟨rfl, HX.out.setRow (by omega) _⟩

end Go.Proofs.Yteegnbdgfedajaa
/- The program's key of bytes. No condition. -/
namespace Go.Proofs.Yteegnbdgfedajaa
open Go.RowKit
set_option linter.unusedVariables false
set_option linter.unusedSimpArgs false

set_option maxHeartbeats 1000000 in
set_option maxRecDepth 100000 in
theorem hash_any (tag : Int) (ht : 0 ≤ tag ∧ tag ≤ 255) (v : Value) (xs : List Int) (w : World) (S : Nat → Prop) (h : RdL tByte w S v xs) (hl : xs.length ≤ 140737488000) :
    Calls Try.prog 114 #[.int .u8 tag, v] w fun e w' => e = .returned (.agg (numsA .u8 (hashL tag xs))) ∧ Ext w w' := by
  have H := Lib.hid h
  obtain ⟨A, cap, rfl, hcap, hlen, hz1, hz2⟩ := h
  clear hz1 hz2
  go_enter Try.func114, Try.ntmps114
  go_wp2_with fail
  refine (sizeB_any _ _ _ _).mono ?_
  rintro e w' ⟨rfl, rfl⟩
  go_wp2_with fail
  refine (padding_any xs.length (by omega) _).mono ?_
  rintro e w1 ⟨v1, rfl, ho1, hx1⟩
  have HO1 := Lib.hid ho1
  have HX1 := Lib.hid hx1
  obtain ⟨B1, bn1, bc1, rfl⟩ := ho1.shape3
  clear ho1 hx1
  go_wp2_with fail
  have hcc := concat2_any w1.heap.size 0 _ _ xs (padL xs.length xs.length) (w1.alloc (.cells #[.slice A xs.length cap, .slice B1 bn1 bc1] 22)) S _ (H.out.ext (by decide) (((ext_alloc w _).trans HX1.out).alloc _)) (HO1.out.alloc _).rd (by rw [padL_length]; omega) (by rw [padL_length, padZ_eq]; omega) (by go_simp) (by go_simp)
  refine hcc.mono ?_
  clear hcc
  rintro e w2 ⟨v2, rfl, ho2, hx2⟩
  have HO2 := Lib.hid ho2
  have HX2 := Lib.hid (((ext_alloc w (.cells _ 40)).trans (HX1.out.alloc _)).trans hx2)
  have HB2 := Lib.hid (((Blk.new w 40 _).ext (HX1.out.alloc _)).ext hx2)
  obtain ⟨B2, bn2, bc2, rfl⟩ := ho2.shape3
  clear ho2 hx2 HX1 HO1
  have hlen2 : (xs ++ padL xs.length xs.length).length = xs.length + padZ xs.length + 9 := by rw [List.length_append, padL_length]; omega
  have hpz : padZ xs.length ≤ 31 := by rw [padZ_eq]; omega
  have hm0 := padded_mod xs.length
  have HE := Lib.hid (show hashL tag xs = keyL (mixN (xs ++ padL xs.length xs.length) (startL tag) ((xs.length + padZ xs.length + 9) / 32)) by rw [hashL, endL])
  obtain ⟨m, hm⟩ : ∃ m, xs.length + padZ xs.length + 9 = 32 * m := ⟨(xs.length + padZ xs.length + 9) / 32, by omega⟩
  rw [show (xs.length + padZ xs.length + 9) / 32 = m by omega] at HE
  have hal : (xs ++ padL xs.length xs.length).length = 32 * m := by omega
  have hal2 : (xs ++ padL xs.length xs.length).length ≤ 140737488355 := by omega
  clear hlen2 hpz hm0 hm
  generalize xs ++ padL xs.length xs.length = al at *
  go_wp2_with fail
  refine (blocks_any _ al m w2 _ HO2.out.rd hal hal2).mono ?_
  rintro e w3 ⟨v3, u3, rfl, ho3, hx3⟩
  have HO3 := Lib.hid ho3
  have HX3 := Lib.hid (HX2.out.trans hx3)
  have HB3 := Lib.hid (HB2.out.ext hx3)
  clear ho3 hx3 HX2 HB2 HO2
  go_wp2_with fail
  refine (startState_any tag ht _).mono ?_
  rintro e w4 ⟨rfl, hx4⟩
  have HX4 := Lib.hid (HX3.out.trans hx4)
  have HB4 := Lib.hid (HB3.out.ext hx4)
  have HO4 := Lib.hid (HO3.out.ext hx4)
  clear hx4 HX3 HB3 HO3
  go_wp2_with fail
  refine (mixed_any (startL tag) (startL_length tag) (startL_ok tag ht) v3 al m w4 _ HO4.out.rd).mono ?_
  rintro e w5 ⟨rfl, hx5⟩
  have HX5 := Lib.hid (HX4.out.trans hx5)
  have HB5 := Lib.hid (HB4.out.ext hx5)
  clear hx5 HX4 HB4 HO4
  go_wp2_with fail
  refine (keyOf_any (mixN al (startL tag) m) (mixN_length _ _ _ (startL_length tag)) (mixN_ok _ _ _ (startL_ok tag ht)) w5).mono ?_
  rintro e w6 ⟨rfl, hx6⟩
  have HX6 := Lib.hid (HX5.out.trans hx6)
  have HB6 := Lib.hid (HB5.out.ext hx6)
  clear hx6 HX5 HB5
  have hk := (hashL_ok tag xs).1
  rw [← HE.out]
  go_wp2_with (refine wpl_storeN HB6.out aggKey hk rfl rfl _ _ rfl rfl rfl rfl ?_)
  refine bodyPost_ret (results_blk rfl _ rfl aggKey hk (HB6.out.setRow _)) rfl ?_
  exact ⟨rfl, HX6.out.setRow (Nat.le_refl _) _⟩

end Go.Proofs.Yteegnbdgfedajaa
/- The statements' mixing of a block into a state. No condition. -/
namespace Go.Proofs.Yteegnbdgfedajaa
open Go.RowKit
set_option linter.unusedVariables false
set_option linter.unusedSimpArgs false

set_option maxHeartbeats 8000000 in
set_option maxRecDepth 100000 in
theorem l01Mix_any (st b : List Int) (hs : st.length = 8) (hu : U32 st) (hk : K32 b) (w : World) : Calls Try.prog 130 #[.agg (numsA .u32 st), .agg (numsA .u8 b)] w fun e w' => e = .returned (.agg (numsA .u32 (mixL st b))) ∧ Ext w w' := by
  have HU := Lib.hid hu
  have HK := Lib.hid hk
  have HS := Lib.hid hs
  clear hu hk hs
  go_enter Try.func130, Try.ntmps130
  go_wp2_with fail
  go_loopw [6] (fun i wr => ∃ (k : Nat) (z : Array Value), k ≤ 8 ∧ i = .int .i64 k ∧ z.size = 8 ∧ Blk wr w.heap.size 155 (numsA .u32 st) ∧ Blk wr (w.heap.size + 1) 39 (numsA .u8 b) ∧ Blk wr (w.heap.size + 2) 155 z ∧ Blk wr (w.heap.size + 3) 155 (numsA .u32 ((List.range k).map (word b) ++ List.replicate (8 - k) 0)) ∧ Ext w wr) (fun i _ => 8 - (intOf i).toNat)
  case atStart => exact ⟨0, _, by omega, rfl, rfl, ((((Blk.new _ _ _).alloc _).alloc _).alloc _), ((Blk.new' (by simp) _ _).alloc _).alloc _, (Blk.new' (by simp) _ _).alloc _, Blk.new' (by simp) _ _, (((ext_alloc _ _).alloc _).alloc _).alloc _⟩
  case round =>
    obtain ⟨k, z, hk, rfl, hz, hb1, hb2, hb3, hb4, hx⟩ := hrel
    have HX := Lib.hid hx
    have HB1 := Lib.hid hb1
    have HB2 := Lib.hid hb2
    have HB3 := Lib.hid hb3
    have HB4 := Lib.hid hb4
    clear hx hb1 hb2 hb3 hb4
    by_cases hlt : k < 8
    · obtain ⟨M, hM⟩ : ∃ M, M = (List.range k).map (word b) ++ List.replicate (8 - k) 0 := ⟨_, rfl⟩
      have hMl : M.length = 8 := by rw [hM]; simp; omega
      have hMk : gI M k = 0 := by rw [hM]; unfold gI; rw [List.getD_eq_getElem?_getD, List.getElem?_append_right (by simp)]; rw [List.getElem?_replicate, if_pos (by simp; omega)]; rfl
      rw [← hM] at HB4
      have HM := Lib.hid hM
      clear hM
      go_wp2_with fail
      go_loopw [7] (fun i wq => ∃ j : Nat, j ≤ 4 ∧ i = .int .i64 (3 - (j : Int)) ∧ Blk wq w.heap.size 155 (numsA .u32 st) ∧ Blk wq (w.heap.size + 1) 39 (numsA .u8 b) ∧ Blk wq (w.heap.size + 2) 155 z ∧ Blk wq (w.heap.size + 3) 155 (numsA .u32 (M.set k (littleN ((b.drop (4 * k + (4 - j))).take j)))) ∧ Ext w wq) (fun i _ => (intOf i + 1).toNat)
      case atStart => exact ⟨0, by omega, by go_num, HB1.out, HB2.out, HB3.out, by
        have h0 : M.set k (littleN ((b.drop (4 * k + (4 - 0))).take 0)) = M := by
          have := set_same M k (by omega)
          rwa [hMk] at this
        rw [h0]; exact HB4.out, HX.out⟩
      case round =>
        obtain ⟨j, hj, rfl, hb1, hb2, hb3, hb4, hx⟩ := hrel
        clear HX HB1 HB2 HB3 HB4
        have HX := Lib.hid hx
        have HB1 := Lib.hid hb1
        have HB2 := Lib.hid hb2
        have HB3 := Lib.hid hb3
        have HB4 := Lib.hid hb4
        clear hx hb1 hb2 hb3 hb4
        by_cases hl4 : j < 4
        · have hc := HB4.out.num k (by simp; omega)
          rw [gI_set _ _ _ _ (by omega), if_pos rfl] at hc
          have hX := littleN_bound ((b.drop (4 * k + (4 - j))).take j) ((HK.out.2.drop _).take _)
          have hXl : ((b.drop (4 * k + (4 - j))).take j).length = j := by simp [HK.out.1]; omega
          have hp : (256 : Int) ^ j ≤ 16777216 := by
            rcases (show j = 0 ∨ j = 1 ∨ j = 2 ∨ j = 3 by omega) with rfl | rfl | rfl | rfl <;> decide
          rw [hXl] at hX
          have hstep : littleN ((b.drop (4 * k + (4 - (j + 1)))).take (j + 1)) = gI b (4 * k + (3 - j)) + 256 * littleN ((b.drop (4 * k + (4 - j))).take j) := by
            have h1 : 4 * k + (3 - j) < b.length := by rw [HK.out.1]; omega
            rw [show 4 * k + (4 - (j + 1)) = 4 * k + (3 - j) by omega, List.drop_eq_getElem_cons h1, List.take_succ_cons, show 4 * k + (3 - j) + 1 = 4 * k + (4 - j) by omega, gI_lt h1]
            rfl
          have hy := B8.get HK.out.2 (4 * k + (3 - j))
          have hd := HB2.out.num (4 * k + (3 - j)) (by rw [HK.out.1]; omega)
          have hor : bits .or .u32 (littleN ((b.drop (4 * k + (4 - j))).take j) * 256) (gI b (4 * k + (3 - j))) = gI b (4 * k + (3 - j)) + 256 * littleN ((b.drop (4 * k + (4 - j))).take j) := by
            have := bits_join .u32 32 (by decide) wraps_u32 8 (littleN ((b.drop (4 * k + (4 - j))).take j) * 256) (gI b (4 * k + (3 - j))) (by omega) (Int.mul_emod_left _ _) (by omega) (by omega) (by omega) (by omega)
            omega
          rw [← hstep] at hor
          generalize gI b (4 * k + (3 - j)) = Y at hd hy hor
          generalize littleN ((b.drop (4 * k + (4 - j))).take j) = X at hc hX hor HB4
          clear hstep hXl
          have hX0 : 0 ≤ X := hX.1
          have hX1 : X ≤ 16777215 := by omega
          clear hX hp
          have HOR := Lib.hid hor
          clear hor
          have hf := HB4.out.free k
          generalize hq : 4 * k + (3 - j) = q at hd
          have hq1 : 4 * (k : Int) + (3 - (j : Int)) = (q : Int) := by omega
          have hq2 : (q : Int) < 32 := by omega
          have HQ := Lib.hid hq
          clear hq
          go_wp2_with fail
          go_region
          go_wp2_with fail
          go_roundw
          case rel =>
            have h4 := HB4.out.set k (.int .u32 (bits .or .u32 (X * 256) Y))
            rw [numsA_set, HOR.out, List.set_set] at h4
            rw [HOR.out]
            exact ⟨j + 1, by omega, by go_num, (HB1.out.far (by simp; omega) _).drewN 1, (HB2.out.far (by simp) _).drewN 1, (HB3.out.far (by simp) _).drewN 1, h4.drewN 1, (HX.out.set (by simp; omega) _).drew⟩
          case measure => simp [intOf]; omega
        · go_wp2_with fail
          go_roundw
          case rel =>
            obtain rfl : j = 4 := by omega
            have h4 := HB4.out
            rw [HM.out, show 4 * k + (4 - 4) = 4 * k by omega] at h4
            have := mapRange_set (word b) 8 k hlt
            unfold word at this h4
            rw [this] at h4
            exact ⟨k + 1, z, by omega, by go_num, hz, HB1.out, HB2.out, HB3.out, h4, HX.out⟩
          case measure => simp [intOf]; omega
    · obtain rfl : k = 8 := by omega
      go_wp2_with (first
        | (refine wpl_loadN HB1.out aggU32 HS.out rfl _ rfl rfl ?_)
        | (refine wpl_storeN (Blk.new wr _ _) aggU32 HS.out rfl rfl _ _ rfl rfl rfl rfl ?_))
      have h4 := HB4.out
      rw [Nat.sub_self, List.replicate_zero, List.append_nil, ← words_eq] at h4
      have h5 : Blk _ wr.heap.size 155 (numsA .u32 st) := (Blk.new wr 155 #[Value.int IntKind.u32 0, Value.int IntKind.u32 0, Value.int IntKind.u32 0, Value.int IntKind.u32 0, Value.int IntKind.u32 0, Value.int IntKind.u32 0, Value.int IntKind.u32 0, Value.int IntKind.u32 0]).setRow (numsA .u32 st)
      have lt4 := h4.lt
      have n1 : w.heap.size ≠ wr.heap.size := by omega
      have n3 : w.heap.size + 2 ≠ wr.heap.size := by omega
      have n4 : w.heap.size + 3 ≠ wr.heap.size := by omega
      have hgs : w.heap.size + 4 ≤ wr.heap.size := by omega
      have hx0 := (HX.out.alloc (.cells #[Value.int IntKind.u32 0, Value.int IntKind.u32 0, Value.int IntKind.u32 0, Value.int IntKind.u32 0, Value.int IntKind.u32 0, Value.int IntKind.u32 0, Value.int IntKind.u32 0, Value.int IntKind.u32 0] 155)).setRow HX.out.size (numsA .u32 st)
      have hb1 := (HB1.out.alloc (.cells #[Value.int IntKind.u32 0, Value.int IntKind.u32 0, Value.int IntKind.u32 0, Value.int IntKind.u32 0, Value.int IntKind.u32 0, Value.int IntKind.u32 0, Value.int IntKind.u32 0, Value.int IntKind.u32 0] 155)).row_far n1 (numsA .u32 st)
      have hb3 := (HB3.out.alloc (.cells #[Value.int IntKind.u32 0, Value.int IntKind.u32 0, Value.int IntKind.u32 0, Value.int IntKind.u32 0, Value.int IntKind.u32 0, Value.int IntKind.u32 0, Value.int IntKind.u32 0, Value.int IntKind.u32 0] 155)).row_far n3 (numsA .u32 st)
      have hb4 := (h4.alloc (.cells #[Value.int IntKind.u32 0, Value.int IntKind.u32 0, Value.int IntKind.u32 0, Value.int IntKind.u32 0, Value.int IntKind.u32 0, Value.int IntKind.u32 0, Value.int IntKind.u32 0, Value.int IntKind.u32 0] 155)).row_far n4 (numsA .u32 st)
      clear h4 lt4 HB1 HB2 HB3 HB4 HX n1 n3 n4
      generalize wr.heap.size = gs at *
      have HW := Lib.hid (words_eq b)
      go_loopw [9] (fun i wq => ∃ r : Nat, r ≤ 12 ∧ i = .int .i64 r ∧ Blk wq w.heap.size 155 (numsA .u32 st) ∧ Blk wq (w.heap.size + 2) 155 z ∧ Blk wq (w.heap.size + 3) 155 (numsA .u32 (words b)) ∧ Blk wq gs 155 (numsA .u32 (mixOut (words b) r st)) ∧ Ext w wq) (fun i _ => 12 - (intOf i).toNat)
      case atStart => exact ⟨0, by omega, rfl, hb1, hb3, hb4, by rw [mixOut_zero]; exact h5, hx0⟩
      case round =>
        clear hx0 hb1 hb3 hb4 h5
        obtain ⟨r, hr, rfl, hb1, hb3, hb4, hb5, hx⟩ := hrel
        have HX := Lib.hid hx
        have HB1 := Lib.hid hb1
        have HB3 := Lib.hid hb3
        have HB4 := Lib.hid hb4
        have HB5 := Lib.hid hb5
        clear hx hb1 hb3 hb4 hb5
        by_cases hlr : r < 12
        · go_wp2_with fail
          have hd12 : decide ((r : Int) < 12) = true := by simp; omega
          simp only [hd12]
          go_loopw [10] (fun i wq => ∃ k : Nat, k ≤ 8 ∧ i = .int .i64 k ∧ Blk wq w.heap.size 155 (numsA .u32 st) ∧ Blk wq (w.heap.size + 2) 155 z ∧ Blk wq (w.heap.size + 3) 155 (numsA .u32 (words b)) ∧ Blk wq gs 155 (numsA .u32 (mixIn (words b) r k (mixOut (words b) r st))) ∧ Ext w wq) (fun i _ => 8 - (intOf i).toNat)
          case atStart => exact ⟨0, by omega, rfl, HB1.out, HB3.out, HB4.out, by rw [mixIn_zero]; exact HB5.out, HX.out⟩
          case round =>
            clear HX HB1 HB3 HB4 HB5
            obtain ⟨k, hk, rfl, hb1, hb3, hb4, hb5, hx⟩ := hrel
            have HX := Lib.hid hx
            have HB1 := Lib.hid hb1
            have HB3 := Lib.hid hb3
            have HB4 := Lib.hid hb4
            have HB5 := Lib.hid hb5
            clear hx hb1 hb3 hb4 hb5
            by_cases hlk : k < 8
            · have hl := (mixIn_length (words b) r k (mixOut (words b) r st)).trans ((mixOut_length (words b) r st).trans HS.out)
              have hu := mixIn_ok (words b) r k _ (mixOut_ok (words b) r st HU.out)
              have HE := Lib.hid (mixIn_succ (words b) r k (mixOut (words b) r st))
              generalize mixIn (words b) r k (mixOut (words b) r st) = s at *
              have p1 : (k + 3 * r) % 8 < 8 := Nat.mod_lt _ (by decide)
              have p2 : (k + 1) % 8 < 8 := Nat.mod_lt _ (by decide)
              have p3 : (k + 5) % 8 < 8 := Nat.mod_lt _ (by decide)
              have c0 := HB5.out.num k (by omega)
              have c1 := HB4.out.num ((k + 3 * r) % 8) (by rw [words_length]; omega)
              have c2 := HB5.out.num ((k + 1) % 8) (by omega)
              have c3 := HB5.out.num ((k + 5) % 8) (by omega)
              have hf := HB5.out.free k
              have u0 := hu.get k
              have u2 := hu.get ((k + 1) % 8)
              have u3 := hu.get ((k + 5) % 8)
              have q1 : ((k : Int) + 3 * r) % 8 = (((k + 3 * r) % 8 : Nat) : Int) := by omega
              have q2 : ((k : Int) + 1) % 8 = (((k + 1) % 8 : Nat) : Int) := by omega
              have q3 : ((k : Int) + 5) % 8 = (((k + 5) % 8 : Nat) : Int) := by omega
              generalize hj1 : (k + 3 * r) % 8 = j1 at *
              generalize hj2 : (k + 1) % 8 = j2 at *
              generalize hj3 : (k + 5) % 8 = j3 at *
              have J1 := Lib.hid hj1
              have J2 := Lib.hid hj2
              have J3 := Lib.hid hj3
              clear hj1 hj2 hj3 hu
              go_wp2_with fail
              go_quiet (fail)
              replace c0 := (show (wr.drewN nq).cell? _ = _ from c0)
              replace c2 := (show (wr.drewN nq).cell? _ = _ from c2)
              replace c3 := (show (wr.drewN nq).cell? _ = _ from c3)
              replace hf := (show (wr.drewN nq).frozen? _ = _ from hf)
              replace HX := Lib.hid (HX.out.drewN nq)
              replace HB1 := Lib.hid (HB1.out.drewN nq)
              replace HB3 := Lib.hid (HB3.out.drewN nq)
              replace HB4 := Lib.hid (HB4.out.drewN nq)
              replace HB5 := Lib.hid (HB5.out.drewN nq)
              clear c1
              generalize wr.drewN nq = wx at *
              go_wp2_with fail
              go_quiet ((go_at_call 134; exact Calls.quiet_of ((l01Turn_7 _ _).mono fun e w' ⟨he, hw⟩ => ⟨he, 0, hw.symm⟩)))
              go_wp2_with (go_at_call 134; refine (l01Turn_13 _ _).mono ?_; rintro e w' ⟨rfl, rfl⟩)
              go_roundw
              case rel =>
                have h5 := (HB5.out.drewN nq).set k (.int .u32 ((bits .xor .u32 (turn7 ((gI s k + gI (words b) j1 + 2654435769 * (8 * (r : Int) + (k : Int) + 1)) % 4294967296)) (gI s j2) + turn13 (gI s j3)) % 4294967296))
                rw [numsA_set] at h5
                have he := HE.out
                unfold mixStep at he
                rw [J1.out, J2.out, J3.out] at he
                rw [← he] at h5
                exact ⟨k + 1, by omega, by go_num, (HB1.out.drewN _).far (by simp; omega) _, (HB3.out.drewN _).far (by simp; omega) _, (HB4.out.drewN _).far (by simp; omega) _, h5, (HX.out.drewN _).set (by simp; omega) _⟩
              case measure => simp [intOf]; omega
            · obtain rfl : k = 8 := by omega
              go_wp2_with fail
              go_roundw
              case rel => exact ⟨r + 1, by omega, by go_num, HB1.out, HB3.out, HB4.out, by rw [mixOut_succ]; exact HB5.out, HX.out⟩
              case measure => simp [intOf]; omega
        · obtain rfl : r = 12 := by omega
          go_wp2_with fail
          have HL := Lib.hid ((mixOut_length (words b) 12 st).trans HS.out)
          have HE := Lib.hid (show mixL st b = xorIn st 8 (mixOut (words b) 12 st) by rw [mixL])
          generalize mixOut (words b) 12 st = s at *
          go_loopw [13] (fun i wq => ∃ k : Nat, k ≤ 8 ∧ i = .int .i64 k ∧ Blk wq w.heap.size 155 (numsA .u32 st) ∧ Blk wq (w.heap.size + 2) 155 z ∧ Blk wq gs 155 (numsA .u32 (xorIn st k s)) ∧ Ext w wq) (fun i _ => 8 - (intOf i).toNat)
          case atStart => exact ⟨0, by omega, rfl, HB1.out, HB3.out, by rw [xorIn_zero]; exact HB5.out, HX.out⟩
          case round =>
            clear HX HB1 HB3 HB4 HB5
            obtain ⟨k, hk, rfl, hb1, hb3, hb5, hx⟩ := hrel
            have HX := Lib.hid hx
            have HB1 := Lib.hid hb1
            have HB3 := Lib.hid hb3
            have HB5 := Lib.hid hb5
            clear hx hb1 hb3 hb5
            have hl := (xorIn_length st k s).trans HL.out
            by_cases hlk : k < 8
            · have c0 := HB5.out.num k (by omega)
              have c1 := HB1.out.num k (by rw [HS.out]; omega)
              have hf := HB5.out.free k
              have HE2 := Lib.hid (xorIn_succ st k s)
              generalize xorIn st k s = s1 at *
              go_wp2_with fail
              go_region
              go_wp2_with fail
              go_roundw
              case rel =>
                have h5 := HB5.out.set k (.int .u32 (bits .xor .u32 (gI s1 k) (gI st k)))
                rw [numsA_set, ← HE2.out] at h5
                exact ⟨k + 1, by omega, by go_num, (HB1.out.far (by simp; omega) _).drewN 1, (HB3.out.far (by simp; omega) _).drewN 1, h5.drewN 1, (HX.out.set (by simp; omega) _).drew⟩
              case measure => simp [intOf]; omega
            · obtain rfl : k = 8 := by omega
              rw [← HE.out] at HB5 hl
              go_wp2_with (first
                | (refine wpl_loadN HB5.out aggU32 hl rfl _ rfl rfl ?_)
                | (refine wpl_storeN HB3.out aggU32 hl hz rfl _ _ rfl rfl rfl rfl ?_))
              refine bodyPost_ret (results_blk rfl _ rfl aggU32 hl (HB3.out.setRow _)) rfl ?_
              exact ⟨rfl, HX.out.setRow (by omega) _⟩

end Go.Proofs.Yteegnbdgfedajaa
/- The statements' key of bytes: the end. No condition. -/
namespace Go.Proofs.Yteegnbdgfedajaa
open Go.RowKit
set_option linter.unusedVariables false
set_option linter.unusedSimpArgs false

theorem len8 {s : List Int} (h : s.length = 8) : ∃ a0 a1 a2 a3 a4 a5 a6 a7, s = [a0, a1, a2, a3, a4, a5, a6, a7] := by
  match s, h with
  | [a0, a1, a2, a3, a4, a5, a6, a7], _ => exact ⟨a0, a1, a2, a3, a4, a5, a6, a7, rfl⟩

/-- eight words written into a block -/
def put8 (w : World) (g : Nat) (c0 c1 c2 c3 c4 c5 c6 c7 : Int) : World := ((((((((w.setCell ⟨g, 0, none⟩ (.int .u32 c0)).setCell ⟨g, 1, none⟩ (.int .u32 c1)).setCell ⟨g, 2, none⟩ (.int .u32 c2)).setCell ⟨g, 3, none⟩ (.int .u32 c3)).setCell ⟨g, 4, none⟩ (.int .u32 c4)).setCell ⟨g, 5, none⟩ (.int .u32 c5)).setCell ⟨g, 6, none⟩ (.int .u32 c6)).setCell ⟨g, 7, none⟩ (.int .u32 c7))
section
variable {w : World} {g : Nat} {c0 c1 c2 c3 c4 c5 c6 c7 : Int}
theorem put8_blk {t : TypeId} {a0 a1 a2 a3 a4 a5 a6 a7 : Int} (h : Blk w g t (numsA .u32 [a0, a1, a2, a3, a4, a5, a6, a7])) : Blk (put8 w g c0 c1 c2 c3 c4 c5 c6 c7) g t (numsA .u32 [c0, c1, c2, c3, c4, c5, c6, c7]) := by
  have := ((((((((h.set 0 (.int .u32 c0)).set 1 (.int .u32 c1)).set 2 (.int .u32 c2)).set 3 (.int .u32 c3)).set 4 (.int .u32 c4)).set 5 (.int .u32 c5)).set 6 (.int .u32 c6)).set 7 (.int .u32 c7))
  simp only [numsA_set, List.set_cons_zero, List.set_cons_succ] at this
  exact this
theorem put8_far {t g' : Nat} {cs : Array Value} (h : Blk w g' t cs) (hg : g' ≠ g) : Blk (put8 w g c0 c1 c2 c3 c4 c5 c6 c7) g' t cs := ((((((((h.far hg _).far hg _).far hg _).far hg _).far hg _).far hg _).far hg _).far hg _)
theorem put8_own {α : Type} {T : Ty α} {e : TypeId} {base : Nat} {v : Value} {xs : List α} (h : Own T e w base v xs) (hg : g < base) : Own T e (put8 w g c0 c1 c2 c3 c4 c5 c6 c7) base v xs := ((((((((h.set_below hg _).set_below hg _).set_below hg _).set_below hg _).set_below hg _).set_below hg _).set_below hg _).set_below hg _)
theorem put8_ext {a : World} (h : Ext a w) (hg : a.heap.size ≤ g) : Ext a (put8 w g c0 c1 c2 c3 c4 c5 c6 c7) := ((((((((h.set hg _).set hg _).set hg _).set hg _).set hg _).set hg _).set hg _).set hg _)
end

set_option maxHeartbeats 4000000 in
set_option maxRecDepth 100000 in
theorem l01End_any (st : List Int) (hs8 : st.length = 8) (hu : U32 st) (v : Value) (xs : List Int) (w : World) (S : Nat → Prop) (h : RdL tByte w S v xs) (hl : xs.length ≤ 70368744177664) (len : Int) (h0 : 0 ≤ len) (h1 : len ≤ 9223372036854775807) :
    Calls Try.prog 118 #[.agg (numsA .u32 st), v, .int .i64 len] w fun e w' => e = .returned (.agg (numsA .u8 (endL st xs len))) ∧ Ext w w' := by
  have H := Lib.hid h
  obtain ⟨A, cap, rfl, hcap, hlen, hz1, hz2⟩ := h
  clear hz1 hz2
  have HU := Lib.hid hu
  have HS8 := Lib.hid hs8
  clear hu hs8
  go_enter Try.func118, Try.ntmps118
  go_wp2_with fail
  refine (l01Padded_any _ xs _ S (H.out.ext (by decide) ((ext_alloc w _).alloc _)) hl len h0 h1).mono ?_
  rintro e w1 ⟨v1, rfl, ho, hx⟩
  have hb0 := hx.heap (show _ from ((Blk.new w _ _).alloc _ : Blk ((w.alloc (.cells (numsA .u32 st) 155)).alloc _) w.heap.size 155 (numsA .u32 st)))
  have hb1 := hx.heap (show _ from (Blk.new' (g := w.heap.size + 1) (by simp) _ _ : Blk ((w.alloc (.cells (numsA .u32 st) 155)).alloc _) (w.heap.size + 1) 40 _))
  have hxw := ((ext_alloc w (.cells (numsA .u32 st) 155)).alloc _).trans hx
  have ho' : Own tByte 5 w1 (w.heap.size + 2) v1 (xs ++ padL xs.length len) := ho.le (by simp)
  obtain ⟨B, bn, bc, rfl⟩ := ho'.shape3
  have hbn := ho'.len
  rw [List.length_append, padL_length] at hbn
  have hm0 := padded_mod xs.length
  have hpz : padZ xs.length ≤ 31 := by have := padZ_eq xs.length; omega
  have HE := Lib.hid (show endL st xs len = keyL (mixN (xs ++ padL xs.length len) st ((xs.length + padZ xs.length + 9) / 32)) by rw [endL])
  obtain ⟨m, hm⟩ : ∃ m, xs.length + padZ xs.length + 9 = 32 * m := ⟨(xs.length + padZ xs.length + 9) / 32, by omega⟩
  rw [show (xs.length + padZ xs.length + 9) / 32 = m by omega] at HE
  have hbm : bn = 32 * m := by omega
  have hmm : m ≤ 2199023255553 := by omega
  have hal : (xs ++ padL xs.length len).length = 32 * m := by rw [List.length_append, padL_length]; omega
  generalize xs ++ padL xs.length len = al at *
  subst hbm
  have HO := Lib.hid ho'
  have HXW := Lib.hid hxw
  have HB0 := Lib.hid (show Blk w1 w.heap.size 155 (numsA .u32 st) from hb0)
  have HB1 := Lib.hid (show Blk w1 (w.heap.size + 1) 40 _ from hb1)
  have HAL := Lib.hid hal
  clear ho ho' hx hxw hb0 hb1 hbn hm0 hm hpz hal H
  go_wp2_with fail
  go_loopw [8] (fun q wr => ∃ (i : Nat) (z : Array Value), i ≤ m ∧ z.size = 32 ∧ q = .int .i64 ((32 * i : Nat) : Int) ∧ Blk wr w.heap.size 155 (numsA .u32 (mixN al st i)) ∧ Blk wr (w.heap.size + 1) 40 z ∧ Own tByte 5 wr (w.heap.size + 2) (.slice B (32 * m) bc) al ∧ Ext w wr) (fun q _ => 32 * m + 32 - (intOf q).toNat)
  case atStart => exact ⟨0, _, by omega, rfl, rfl, by rw [mixN_zero]; exact HB0.out, HB1.out, HO.out, HXW.out⟩
  case round =>
    clear HO HXW HB0 HB1
    obtain ⟨i, z, him, hz, rfl, hb0, hb1, ho, hx⟩ := hrel
    have HO := Lib.hid ho
    have HX := Lib.hid hx
    have HB0 := Lib.hid hb0
    have HB1 := Lib.hid hb1
    clear ho hx hb0 hb1
    by_cases hlt : i < m
    · have hs := mixN_length al st i HS8.out
      have hu := mixN_ok al st i HU.out
      have HN := Lib.hid (mixN_succ al st i)
      generalize mixN al st i = s at *
      obtain ⟨a0, a1, a2, a3, a4, a5, a6, a7, rfl⟩ := len8 hs
      have hblk : ∀ W, Ext wr W → Calls Try.prog 131 #[.slice B (32 * m) bc, .int .i64 (32 * (i : Int))] W fun e w' => e = .returned (.agg (numsA .u8 (blockL al i))) ∧ Ext W w' := by
        intro W E
        have := l01Block_any (.slice B (32 * m) bc) al W _ ((HO.out.ext E).rd) i (by rw [HAL.out]; omega)
        rw [show ((32 * i : Nat) : Int) = 32 * (i : Int) by omega] at this
        exact this
      have hK := blockL_ok al i HO.out.2.2 (by rw [HAL.out]; omega)
      obtain ⟨c0, c1, c2, c3, c4, c5, c6, c7, hc⟩ := len8 (mixL_length [a0, a1, a2, a3, a4, a5, a6, a7] (blockL al i) rfl)
      have hmix : ∀ W, Calls Try.prog 130 #[.agg #[Value.int .u32 a0, Value.int .u32 a1, Value.int .u32 a2, Value.int .u32 a3, Value.int .u32 a4, Value.int .u32 a5, Value.int .u32 a6, Value.int .u32 a7], .agg (numsA .u8 (blockL al i))] W fun e w' => e = .returned (.agg #[Value.int .u32 c0, Value.int .u32 c1, Value.int .u32 c2, Value.int .u32 c3, Value.int .u32 c4, Value.int .u32 c5, Value.int .u32 c6, Value.int .u32 c7]) ∧ Ext W w' := by
        intro W
        have := l01Mix_any [a0, a1, a2, a3, a4, a5, a6, a7] (blockL al i) rfl hu hK W
        rw [hc] at this
        exact this
      rw [hc] at HN
      generalize blockL al i = blk at *
      have HBLK := Lib.hid hblk
      have HMIX := Lib.hid hmix
      have HB := HB0
      clear hblk hmix hs hu hK hc
      have k0 : ∀ W, Ext wr W → W.cell? ⟨w.heap.size, 0, none⟩ = some (.int .u32 a0) := fun W h => h.cell (HB.out.at_ 0 rfl)
      have k1 : ∀ W, Ext wr W → W.cell? ⟨w.heap.size, 1, none⟩ = some (.int .u32 a1) := fun W h => h.cell (HB.out.at_ 1 rfl)
      have k2 : ∀ W, Ext wr W → W.cell? ⟨w.heap.size, 2, none⟩ = some (.int .u32 a2) := fun W h => h.cell (HB.out.at_ 2 rfl)
      have k3 : ∀ W, Ext wr W → W.cell? ⟨w.heap.size, 3, none⟩ = some (.int .u32 a3) := fun W h => h.cell (HB.out.at_ 3 rfl)
      have k4 : ∀ W, Ext wr W → W.cell? ⟨w.heap.size, 4, none⟩ = some (.int .u32 a4) := fun W h => h.cell (HB.out.at_ 4 rfl)
      have k5 : ∀ W, Ext wr W → W.cell? ⟨w.heap.size, 5, none⟩ = some (.int .u32 a5) := fun W h => h.cell (HB.out.at_ 5 rfl)
      have k6 : ∀ W, Ext wr W → W.cell? ⟨w.heap.size, 6, none⟩ = some (.int .u32 a6) := fun W h => h.cell (HB.out.at_ 6 rfl)
      have k7 : ∀ W, Ext wr W → W.cell? ⟨w.heap.size, 7, none⟩ = some (.int .u32 a7) := fun W h => h.cell (HB.out.at_ 7 rfl)
      have f0 : ∀ W, Ext wr W → ∀ j, W.frozen? ⟨w.heap.size, j, none⟩ = false := fun W h j => (HB.out.ext h).free j
      have r0 := Ext.refl wr
      have r1 := (Ext.refl wr).drew
      go_wp2_with fail
      go_region_law (first
        | (go_simp; go_at_call 131; refine (HBLK.out _ (by assumption)).mono ?_; rintro e p1 ⟨rfl, hx1⟩; have y1 := Ext.trans (by assumption : Ext wr _) hx1)
        | (go_simp; go_at_call 130; refine (HMIX.out _).mono ?_; rintro e p2 ⟨rfl, hx2⟩; have y2 := y1.trans hx2))
      all_goals
        go_wp2_with fail
        go_roundw
        case rel => exact ⟨i + 1, z, by omega, hz, congrArg (Value.int .i64) (by omega), by rw [HN.out]; exact put8_blk (HB.out.ext y2), put8_far (HB1.out.ext y2) (by omega), put8_own (HO.out.ext y2) (by omega), put8_ext (HX.out.trans y2) (Nat.le_refl _)⟩
        case measure => simp [intOf]; omega
    · obtain rfl : i = m := by omega
      have hs := mixN_length al st i HS8.out
      have hu := mixN_ok al st i HU.out
      have hlt0 := HB1.out.lt
      generalize mixN al st i = s at *
      have HSL := Lib.hid hs
      clear hs
      go_wp2_with (refine wpl_storeN (k := .u8) (xs := List.replicate 32 0) (Blk.new wr _ _) aggKey (by simp) rfl rfl _ _ rfl rfl rfl rfl ?_)
      have hx0 := (HX.out.alloc (.cells #[Value.int .u8 0, Value.int .u8 0, Value.int .u8 0, Value.int .u8 0, Value.int .u8 0, Value.int .u8 0, Value.int .u8 0, Value.int .u8 0, Value.int .u8 0, Value.int .u8 0, Value.int .u8 0, Value.int .u8 0, Value.int .u8 0, Value.int .u8 0, Value.int .u8 0, Value.int .u8 0, Value.int .u8 0, Value.int .u8 0, Value.int .u8 0, Value.int .u8 0, Value.int .u8 0, Value.int .u8 0, Value.int .u8 0, Value.int .u8 0, Value.int .u8 0, Value.int .u8 0, Value.int .u8 0, Value.int .u8 0, Value.int .u8 0, Value.int .u8 0, Value.int .u8 0, Value.int .u8 0] 40)).setRow HX.out.size (numsA .u8 (List.replicate 32 0))
      have hb0 := (HB0.out.alloc (.cells #[Value.int .u8 0, Value.int .u8 0, Value.int .u8 0, Value.int .u8 0, Value.int .u8 0, Value.int .u8 0, Value.int .u8 0, Value.int .u8 0, Value.int .u8 0, Value.int .u8 0, Value.int .u8 0, Value.int .u8 0, Value.int .u8 0, Value.int .u8 0, Value.int .u8 0, Value.int .u8 0, Value.int .u8 0, Value.int .u8 0, Value.int .u8 0, Value.int .u8 0, Value.int .u8 0, Value.int .u8 0, Value.int .u8 0, Value.int .u8 0, Value.int .u8 0, Value.int .u8 0, Value.int .u8 0, Value.int .u8 0, Value.int .u8 0, Value.int .u8 0, Value.int .u8 0, Value.int .u8 0] 40)).row_far (by omega : w.heap.size ≠ wr.heap.size) (numsA .u8 (List.replicate 32 0))
      have hb1 := (HB1.out.alloc (.cells #[Value.int .u8 0, Value.int .u8 0, Value.int .u8 0, Value.int .u8 0, Value.int .u8 0, Value.int .u8 0, Value.int .u8 0, Value.int .u8 0, Value.int .u8 0, Value.int .u8 0, Value.int .u8 0, Value.int .u8 0, Value.int .u8 0, Value.int .u8 0, Value.int .u8 0, Value.int .u8 0, Value.int .u8 0, Value.int .u8 0, Value.int .u8 0, Value.int .u8 0, Value.int .u8 0, Value.int .u8 0, Value.int .u8 0, Value.int .u8 0, Value.int .u8 0, Value.int .u8 0, Value.int .u8 0, Value.int .u8 0, Value.int .u8 0, Value.int .u8 0, Value.int .u8 0, Value.int .u8 0] 40)).row_far (by omega : w.heap.size + 1 ≠ wr.heap.size) (numsA .u8 (List.replicate 32 0))
      have hb2 := (Blk.new wr 40 #[Value.int .u8 0, Value.int .u8 0, Value.int .u8 0, Value.int .u8 0, Value.int .u8 0, Value.int .u8 0, Value.int .u8 0, Value.int .u8 0, Value.int .u8 0, Value.int .u8 0, Value.int .u8 0, Value.int .u8 0, Value.int .u8 0, Value.int .u8 0, Value.int .u8 0, Value.int .u8 0, Value.int .u8 0, Value.int .u8 0, Value.int .u8 0, Value.int .u8 0, Value.int .u8 0, Value.int .u8 0, Value.int .u8 0, Value.int .u8 0, Value.int .u8 0, Value.int .u8 0, Value.int .u8 0, Value.int .u8 0, Value.int .u8 0, Value.int .u8 0, Value.int .u8 0, Value.int .u8 0]).setRow (numsA .u8 (List.replicate 32 0))
      have hgs : w.heap.size + 2 ≤ wr.heap.size := by omega
      generalize wr.heap.size = gs at *
      have hkl := keyL_length s
      have HKL := Lib.hid hkl
      go_loopw [10] (fun q wq => ∃ k : Nat, k ≤ 32 ∧ q = .int .i64 k ∧ Blk wq w.heap.size 155 (numsA .u32 s) ∧ Blk wq (w.heap.size + 1) 40 z ∧ Blk wq gs 40 (numsA .u8 ((keyL s).take k ++ List.replicate (32 - k) 0)) ∧ Ext w wq) (fun q _ => 32 - (intOf q).toNat)
      case atStart => exact ⟨0, by omega, rfl, hb0, hb1, by rw [List.take_zero, List.nil_append, Nat.sub_zero]; exact hb2, hx0⟩
      case round =>
        clear hb0 hb1 hb2 hx0 HO HX HB0 HB1 hlt0
        obtain ⟨k, hk, rfl, hb0, hb1, hb2, hx⟩ := hrel
        have HX := Lib.hid hx
        have HB0 := Lib.hid hb0
        have HB1 := Lib.hid hb1
        have HB2 := Lib.hid hb2
        clear hx hb0 hb1 hb2
        by_cases hk32 : k < 32
        · have c0 := HB0.out.num (k / 4) (by rw [HSL.out]; omega)
          have u0 := hu.get (k / 4)
          have hc := HB2.out.num k (by simp [keyL_length]; omega)
          have hf := HB2.out.free k
          have q1 : (k : Int) / 4 = ((k / 4 : Nat) : Int) := by omega
          have q2 : (k : Int) % 4 = ((k % 4 : Nat) : Int) := by omega
          have p1 : k / 4 < 8 := by omega
          have p2 : k % 4 < 4 := by omega
          generalize hj1 : k / 4 = j1 at *
          generalize hj2 : k % 4 = j2 at *
          have hn := fill_step (keyL s) 32 k hk32 HKL.out
          rw [keyL_at s k hk32, hj1, hj2] at hn
          have HN := Lib.hid hn
          have J1 := Lib.hid hj1
          have J2 := Lib.hid hj2
          clear hn hj1 hj2 hkl
          go_wp2_with fail
          go_roundw
          case rel =>
            have h2 := HB2.out.set k (.int .u8 (gI s j1 / 2 ^ (8 * j2) % 256))
            rw [numsA_set, HN.out] at h2
            exact ⟨k + 1, by omega, by go_num, HB0.out.far (by simp; omega) _, HB1.out.far (by simp; omega) _, h2, HX.out.set (by simp; omega) _⟩
          case measure => simp [intOf]; omega
        · obtain rfl : k = 32 := by omega
          have hb := HB2.out
          rw [Nat.sub_self, List.replicate_zero, List.append_nil, List.take_of_length_le (by omega), ← HE.out] at hb
          have hl32 : (endL st xs len).length = 32 := by rw [HE.out]; exact HKL.out
          have HB3 := Lib.hid hb
          clear hb
          go_wp2_with (first
            | (refine wpl_loadN HB3.out aggKey hl32 rfl _ rfl rfl ?_)
            | (refine wpl_storeN HB1.out aggKey hl32 hz rfl _ _ rfl rfl rfl rfl ?_))
          refine bodyPost_ret (results_blk rfl _ rfl aggKey hl32 (HB1.out.setRow _)) rfl ?_
          exact ⟨rfl, HX.out.setRow (by omega) _⟩

end Go.Proofs.Yteegnbdgfedajaa
/- The statements' key of bytes. No condition. -/
namespace Go.Proofs.Yteegnbdgfedajaa
open Go.RowKit
set_option linter.unusedVariables false
set_option linter.unusedSimpArgs false

set_option maxHeartbeats 1000000 in
set_option maxRecDepth 100000 in
theorem l01Hash_any (tag : Int) (ht : 0 ≤ tag ∧ tag ≤ 255) (v : Value) (xs : List Int) (w : World) (S : Nat → Prop) (h : RdL tByte w S v xs) (hl : xs.length ≤ 70368744177664) :
    Calls Try.prog 112 #[.int .u8 tag, v] w fun e w' => e = .returned (.agg (numsA .u8 (hashL tag xs))) ∧ Ext w w' := by
  have H := Lib.hid h
  obtain ⟨A, cap, rfl, hcap, hlen, hz1, hz2⟩ := h
  clear hz1 hz2
  have hk := (hashL_ok tag xs).1
  have he : hashL tag xs = endL (startL tag) xs xs.length := by rw [hashL]
  rw [he] at hk ⊢
  clear he
  go_enter Try.func112, Try.ntmps112
  go_wp2_with fail
  refine (l01Start_any tag ht _).mono ?_
  rintro e w1 ⟨rfl, hx1⟩
  have HX1 := Lib.hid hx1
  clear hx1
  go_wp2_with fail
  refine (l01End_any (startL tag) (startL_length tag) (startL_ok tag ht) _ xs w1 S (H.out.ext (by decide) ((ext_alloc w _).trans HX1.out)) hl xs.length (by omega) (by omega)).mono ?_
  rintro e w2 ⟨rfl, hx2⟩
  have HB := Lib.hid (((Blk.new w 40 _).ext HX1.out).ext hx2)
  have HX := Lib.hid (((ext_alloc w _).trans HX1.out).trans hx2)
  clear hx2 HX1
  go_wp2_with (refine wpl_storeN HB.out aggKey hk rfl rfl _ _ rfl rfl rfl rfl ?_)
  refine bodyPost_ret (results_blk rfl _ rfl aggKey hk (HB.out.setRow _)) rfl ?_
  exact ⟨rfl, HX.out.setRow (Nat.le_refl _) _⟩

end Go.Proofs.Yteegnbdgfedajaa
/- Functions that are one key of bytes. No condition. -/
namespace Go.Proofs.Yteegnbdgfedajaa
open Go.RowKit
set_option linter.unusedVariables false
set_option linter.unusedSimpArgs false

theorem rd_none (w : World) (S : Nat → Prop) : RdL tByte w S (.slice none 0 0) [] := ⟨none, 0, rfl, Nat.le_refl _, by simp, Rd.nil _ _ _ _, by simp⟩
theorem Own.empty' {α : Type} (T : Ty α) {g : Nat} {w : World} (hg : g = w.heap.size) (e base : Nat) (hb : base ≤ w.heap.size) : Own T e (w.alloc (.cells #[] e)) base (.slice (some ⟨g, 0, none⟩) 0 0) ([] : List α) := by
  subst hg
  exact Own.empty T w e base hb
/-- the key of the empty map -/
def emptyL : List Int := hashL 5 []
theorem emptyL_ok : K32 emptyL := hashL_ok _ _
set_option maxHeartbeats 1000000 in
set_option maxRecDepth 100000 in
theorem l04Empty_any (w : World) : Calls Try.prog 98 #[] w fun e w' => e = .returned (.agg (numsA .u8 emptyL)) ∧ Ext w w' := by
  have hk := emptyL_ok.1
  go_enter Try.func98, Try.ntmps98
  go_wp2_with fail
  refine (l01Hash_any 5 (by decide) _ [] _ _ (Own.empty' tByte (by simp) 5 0 (Nat.zero_le _)).rd (by simp)).mono ?_
  rintro e w1 ⟨rfl, hx⟩
  have HB := Lib.hid (((Blk.new w 40 _).alloc _).ext hx)
  have HX := Lib.hid (((ext_alloc w _).alloc _).trans hx)
  clear hx
  go_wp2_with (refine wpl_storeN HB.out aggKey hk rfl rfl _ _ rfl rfl rfl rfl ?_)
  refine bodyPost_ret (results_blk rfl _ rfl aggKey hk (HB.out.setRow _)) rfl ?_
  exact ⟨rfl, HX.out.setRow (Nat.le_refl _) _⟩

/-- functions whose whole result is one key -/
theorem ret_key {fn : Func} {c : Tmp} {t g : Nat} {xs : List Int} {w : World} {cur : Array Value} {P : Program} (hr : fn.results = #[.cell c t]) (tmps : Array Value) (hp : tmps.getD c undef = .pointer (some ⟨g, 0, none⟩)) (ht : Agg P t 32) (hn : xs.length = 32) (hb : Blk w g t cur) :
    (results fn tmps).run P (w.setRow g (numsA .u8 xs)) = .ok (.agg (numsA .u8 xs)) (w.setRow g (numsA .u8 xs)) := results_blk hr tmps hp ht hn (hb.setRow _)
set_option maxHeartbeats 1000000 in
set_option maxRecDepth 100000 in
theorem implEmptyMapKey_any (w : World) : Calls Try.prog 100 #[] w fun e w' => e = .returned (.agg (numsA .u8 emptyL)) ∧ Ext w w' := by
  have hk := emptyL_ok.1
  go_enter Try.func100, Try.ntmps100
  go_wp2_with fail
  refine (hash_any 5 (by decide) _ [] _ _ (rd_none _ (fun _ => True)) (by simp)).mono ?_
  rintro e w1 ⟨rfl, hx⟩
  have HB := Lib.hid ((Blk.new w 40 _).ext hx)
  have HX := Lib.hid ((ext_alloc w _).trans hx)
  clear hx
  go_wp2_with (refine wpl_storeN HB.out aggKey hk rfl rfl _ _ rfl rfl rfl rfl ?_)
  refine bodyPost_ret (results_blk rfl _ rfl aggKey hk (HB.out.setRow _)) rfl ?_
  exact ⟨rfl, HX.out.setRow (Nat.le_refl _) _⟩

end Go.Proofs.Yteegnbdgfedajaa
/- Names and valid entries. No condition. -/
namespace Go.Proofs.Yteegnbdgfedajaa
open Go.RowKit
set_option linter.unusedVariables false
set_option linter.unusedSimpArgs false

/-- a text that is a name -/
@[irreducible] def nameB (s : ByteArray) : Bool := decide (1 ≤ (s.size : Int)) && decide ((s.size : Int) ≤ 24)
theorem nameB_eq (s : ByteArray) : nameB s = (decide (1 ≤ (s.size : Int)) && decide ((s.size : Int) ≤ 24)) := by rw [nameB]
set_option maxHeartbeats 1000000 in
set_option maxRecDepth 100000 in
theorem l04Name_any (s : ByteArray) (hs : s.size ≤ 140737488351232) (w : World) : Calls Try.prog 117 #[.string s] w fun e w' => e = .returned (.bool (nameB s)) ∧ w = w' := by
  have H := Lib.hid (nameB_eq s)
  go_enter Try.func117, Try.ntmps117
  go_wp2_with fail
  refine (l00In_any s.size 1 24 _).mono ?_
  rintro e w' ⟨rfl, rfl⟩
  rw [← H.out]
  go_wp2
  go_ret
  exact ⟨rfl, rfl⟩
set_option maxHeartbeats 1000000 in
set_option maxRecDepth 100000 in
theorem isName_any (s : ByteArray) (hs : s.size ≤ 140737488351232) (w : World) : Calls Try.prog 120 #[.string s] w fun e w' => e = .returned (.bool (nameB s)) ∧ w = w' := by
  have H := Lib.hid (nameB_eq s)
  go_enter Try.func120, Try.ntmps120
  go_wp2_with fail
  refine (within_any s.size 1 24 _).mono ?_
  rintro e w' ⟨rfl, rfl⟩
  rw [← H.out]
  go_wp2
  go_ret
  exact ⟨rfl, rfl⟩
/-- a valid entry -/
@[irreducible] def entB (n v : ByteArray) : Bool := nameB n && decide (v.size ≤ 64)
theorem entB_eq (n v : ByteArray) : entB n v = (nameB n && decide (v.size ≤ 64)) := by rw [entB]
theorem nameB_le {n : ByteArray} (h : nameB n = true) : 1 ≤ n.size ∧ n.size ≤ 24 := by
  rw [nameB_eq] at h
  simp at h
  omega
theorem entB_le {n v : ByteArray} (h : entB n v = true) : 1 ≤ n.size ∧ n.size ≤ 24 ∧ v.size ≤ 64 := by
  rw [entB_eq] at h
  simp at h
  have := nameB_le h.1
  omega
set_option maxHeartbeats 1000000 in
set_option maxRecDepth 100000 in
theorem l04Entry_any (n v : ByteArray) (hn : n.size ≤ 140737488351232) (hv : v.size ≤ 140737488351232) (g off : Nat) (w : World) (c0 : w.cell? ⟨g, off, none⟩ = some (.string n)) (c1 : w.cell? ⟨g, off + 1, none⟩ = some (.string v)) :
    Calls Try.prog 111 #[.pointer (some ⟨g, off, none⟩)] w fun e w' => e = .returned (.bool (entB n v)) ∧ w = w' := by
  rw [entB_eq]
  have hc := l04Name_any n hn
  cases hb : nameB n with
  | true =>
    simp only [hb] at hc
    clear hb
    go_enter Try.func111, Try.ntmps111
    go_wp2_with fail
    refine (hc _).mono ?_
    rintro e w' ⟨rfl, rfl⟩
    go_wp2
    go_ret
    exact ⟨ret_bool (by simp; omega), rfl⟩
  | false =>
    simp only [hb] at hc
    clear hb
    go_enter Try.func111, Try.ntmps111
    go_wp2_with fail
    refine (hc _).mono ?_
    rintro e w' ⟨rfl, rfl⟩
    go_wp2
    go_ret
    exact ⟨rfl, rfl⟩
set_option maxHeartbeats 1000000 in
set_option maxRecDepth 100000 in
theorem validEntry_any (n v : ByteArray) (hn : n.size ≤ 140737488351232) (hv : v.size ≤ 140737488351232) (w : World) :
    Calls Try.prog 113 #[.agg #[.string n, .string v]] w fun e w' => e = .returned (.bool (entB n v)) ∧ Ext w w' := by
  rw [entB_eq]
  have hc := isName_any n hn
  cases hb : nameB n with
  | true =>
    simp only [hb] at hc
    clear hb
    go_enter Try.func113, Try.ntmps113
    go_wp2_with fail
    refine (hc _).mono ?_
    rintro e w' ⟨rfl, rfl⟩
    go_wp2
    go_ret
    exact ⟨ret_bool (by simp; omega), ext_alloc _ _⟩
  | false =>
    simp only [hb] at hc
    clear hb
    go_enter Try.func113, Try.ntmps113
    go_wp2_with fail
    refine (hc _).mono ?_
    rintro e w' ⟨rfl, rfl⟩
    go_wp2
    go_ret
    exact ⟨rfl, ext_alloc _ _⟩


end Go.Proofs.Yteegnbdgfedajaa
/- Names, and their priorities. No condition. -/
namespace Go.Proofs.Yteegnbdgfedajaa
open Go.RowKit
set_option linter.unusedVariables false
set_option linter.unusedSimpArgs false

def prioL (s : ByteArray) : List Int := hashL 4 (strL s)
theorem prioL_ok (s : ByteArray) : K32 (prioL s) := hashL_ok _ _
theorem prioL_eq (s : ByteArray) : prioL s = hashL 4 (strL s) := rfl
attribute [irreducible] prioL
/-- the priority and the code -/
def prioR (s : ByteArray) : List Int × Int := if nameB s then (prioL s, 0) else (List.replicate 32 0, 1)
theorem zero_ok : K32 (List.replicate 32 0) := ⟨by simp, replicate_ok _⟩
theorem prioR_ok (s : ByteArray) : K32 (prioR s).1 := by unfold prioR; split; exact prioL_ok s; exact zero_ok
end Go.Proofs.Yteegnbdgfedajaa
/- The bytes and the key of a node. No condition. -/
namespace Go.Proofs.Yteegnbdgfedajaa
open Go.RowKit
set_option linter.unusedVariables false
set_option linter.unusedSimpArgs false

theorem rd_of {w : World} {S : Nat → Prop} {A : Option Addr} {n c : Nat} {xs : List Int} (h : RdL tByte w S (.slice A n c) xs) : Rd w S tByte.sz A xs.length (xs.flatMap tByte.enc) ∧ (∀ y ∈ xs, tByte.ok y) ∧ n = xs.length := by
  obtain ⟨A2, cap2, e, _, _, h1, h2⟩ := h
  injection e with e1 e2 e3
  subst e1
  exact ⟨h1, h2, e2⟩
/-- the bytes of a node -/
@[irreducible] def nodeL (x : Nd) : List Int := x.l ++ x.r ++ [(x.n.size : Int) % 256] ++ strL x.n ++ strL x.v
theorem nodeL_eq (x : Nd) : nodeL x = x.l ++ x.r ++ [(x.n.size : Int) % 256] ++ strL x.n ++ strL x.v := by rw [nodeL]
theorem nodeL_length {x : Nd} (h : x.ok) : (nodeL x).length = 65 + x.n.size + x.v.size := by
  rw [nodeL]; simp only [List.length_append, strL_length, h.1.1, h.2.1.1, List.length_cons, List.length_nil]
/-- the key of a node, and the code -/
def nodeKR (x : Nd) : List Int × Int := if entB x.n x.v then (hashL 5 (nodeL x), 0) else (List.replicate 32 0, 1)
theorem nodeKR_ok (x : Nd) : K32 (nodeKR x).1 := by unfold nodeKR; split; exact hashL_ok _ _; exact zero_ok
end Go.Proofs.Yteegnbdgfedajaa
/- Any number of slices of bytes put together. No condition. -/
namespace Go.Proofs.Yteegnbdgfedajaa
open Go.RowKit
set_option linter.unusedVariables false
set_option linter.unusedSimpArgs false

/-- all bytes of the first k -/
@[irreducible] def catL (L : List (Value × List Int)) (k : Nat) : List Int := (L.take k).flatMap (·.2)
theorem catL_zero (L : List (Value × List Int)) : catL L 0 = [] := by rw [catL]; simp
theorem catL_succ (L : List (Value × List Int)) (k : Nat) (h : k < L.length) : catL L (k + 1) = catL L k ++ L[k].2 := by
  rw [catL, catL, List.take_succ_eq_append_getElem h, List.flatMap_append, List.flatMap_cons, List.flatMap_nil, List.append_nil]
theorem catL_le (L : List (Value × List Int)) (k : Nat) (h : k ≤ L.length) : (catL L k).length ≤ (catL L L.length).length := by
  rw [catL, catL]
  conv => rhs; rw [← Nat.add_sub_cancel' h, List.take_add]
  simp
set_option maxHeartbeats 1000000 in
set_option maxRecDepth 100000 in
theorem concat_any (g o c : Nat) (L : List (Value × List Int)) (w : World) (S : Nat → Prop) (hrd : ∀ i (h : i < L.length), RdL tByte w S L[i].1 L[i].2) (hc : ∀ i (h : i < L.length), w.cell? ⟨g, o + i, none⟩ = some L[i].1)
    (hL : L.length ≤ 1000) (h0 : 0 < (catL L L.length).length) (hn : (catL L L.length).length ≤ 70368744177664) :
    Calls Try.prog 122 #[.slice (some ⟨g, o, none⟩) L.length c] w fun e w' => ∃ v', e = .returned v' ∧ Own tByte 5 w' w.heap.size v' (catL L L.length) ∧ Ext w w' := by
  have HRD := Lib.hid hrd
  have HC := Lib.hid hc
  have HZ := Lib.hid (catL_zero L)
  clear hrd hc
  go_enter Try.func122, Try.ntmps122
  go_wp2_with fail
  go_loop [3, 11] (fun s i => ∃ k : Nat, k ≤ L.length ∧ i = .int .i64 k ∧ s = .int .i64 (catL L k).length) (fun _ i => L.length - (intOf i).toNat)
  case atStart => exact ⟨0, by omega, rfl, by rw [HZ.out]; rfl⟩
  case round =>
    obtain ⟨k, hk, rfl, rfl⟩ := hrel
    have hle := catL_le L k hk
    by_cases hlt : k < L.length
    · have hle2 := catL_le L (k + 1) hlt
      have HS := Lib.hid (catL_succ L k hlt)
      have hcell := HC.out k hlt
      obtain ⟨A, cap, e, hcap, hlen, _⟩ := HRD.out k hlt
      rw [e] at hcell
      rw [HS.out, List.length_append] at hle2
      have hi : (0 : Int) ≤ (k : Int) := by omega
      go_wp2_with fail
      go_round
      case rel => exact ⟨k + 1, by omega, by go_num, by rw [HS.out, List.length_append]; go_num⟩
      case measure => simp [intOf]; omega
    · obtain rfl : k = L.length := by omega
      have G := grow_any (catL L L.length).length h0 hn w
      have HG := Lib.hid G
      clear G
      go_wp2_with fail
      refine HG.out.mono ?_
      rintro e w1 ⟨v1, rfl, ho, hx⟩
      have HO := Lib.hid ho
      have HX := Lib.hid hx
      clear ho hx
      go_wp2_with fail
      go_loopw [6, 27] (fun v i wr => ∃ k : Nat, k ≤ L.length ∧ i = .int .i64 k ∧ Own tByte 5 wr w.heap.size v (catL L k) ∧ Ext w wr) (fun _ i _ => L.length - (intOf i).toNat)
      case atStart => exact ⟨0, by omega, rfl, by rw [HZ.out]; exact HO.out, HX.out⟩
      case round =>
        clear HO HX hk hle hlt
        obtain ⟨k, hk, rfl, ho, hx⟩ := hrel
        have HX := Lib.hid hx
        have HO := Lib.hid ho
        obtain ⟨B, bn, bc, rfl⟩ := ho.shape3
        have hle := catL_le L k hk
        clear ho hx
        by_cases hlt : k < L.length
        · have hle2 := catL_le L (k + 1) hlt
          have HS := Lib.hid (catL_succ L k hlt)
          have hcell := HX.out.cell (HC.out k hlt)
          obtain ⟨A, cap, e, hcap, hlen, hr1, hok1⟩ := (HRD.out k hlt).ext (by decide) HX.out
          rw [e] at hcell
          rw [HS.out, List.length_append] at hle2
          have HR := Lib.hid hr1
          have HK := Lib.hid hok1
          have hi : (0 : Int) ≤ (k : Int) := by omega
          clear hr1 hok1
          go_wp2_with (at_builtin; refine wpl_append rowByte rfl _ _ rfl (v := .slice B bn bc) rfl HO.out _ _ rfl (ys := L[k].2) (A := A) (S := S) rfl HR.out HK.out (by omega) HX.out.size ?_; intro v1 w1 ho1 hg1 hat1; have HO1 := Lib.hid ho1; have HX1 := Lib.hid (HO.out.ext_app HX.out hg1); clear ho1 hg1 hat1)
          go_roundw
          case rel => exact ⟨k + 1, by omega, by go_num, by rw [HS.out]; exact HO1.out, HX1.out⟩
          case measure => simp [intOf]; omega
        · obtain rfl : k = L.length := by omega
          go_wp2_with fail
          go_ret
          exact ⟨_, rfl, HO.out, HX.out⟩

end Go.Proofs.Yteegnbdgfedajaa
/- The program's bytes and key of a node. No condition. -/
namespace Go.Proofs.Yteegnbdgfedajaa
open Go.RowKit
set_option linter.unusedVariables false
set_option linter.unusedSimpArgs false

/-- the bytes of a text, in new memory: one step of a region that draws its order -/
theorem stp_conv {P : Program} {ops : Array Oper} {o : Oper} {a : Act} {w : World} {K : Act → World → Prop} {Q : Exit → Act → World → Prop} {E : Prop} {src dst e : TypeId} {s : ByteArray}
    (hs : P.underlying src = some .string) (hd : P.underlying dst = some (.slice e)) (he : P.underlying e = some (.int .u8)) (hgd : o.guard = none) (x : Operand) (ho : o.op = .convert src dst x) (hx : a.eval x = .string s) (hl : s.size ≤ 140737488351232)
    (h : ∀ A c w', RdL tByte w' (fun _ => True) (.slice A s.size c) (strL s) → Ext w w' → K (a.put o.dst (.slice A s.size c)) w') : if Region.wanted o (yielded ops a.tmps) = true then Oper.wp P o a w K Q else E := by
  have hw : Region.wanted o (yielded ops a.tmps) = true := by simp [Region.wanted, hgd]
  rw [if_pos hw]
  unfold Oper.wp execOp
  simp only [ho, hx, Sem.run_bind, Sem.run_pure, Result.andThen_ok, Lib.run_convert_string_bytes w src dst e s hs hd he]
  exact h _ _ _ ((bytesWorld_rd w e s hl).mono fun _ _ => trivial) (bytesWorld_ext w e s)
/-- bytes that lie in a variable -/
theorem rdl_blk {w : World} {g t off n : Nat} {cs : Array Value} {xs : List Int} (hb : Blk w g t cs) (hp : ∀ j u, (numsA .u8 xs)[j]? = some u → cs[off + j]? = some u) (hn : xs.length = n) (h1 : B8 xs) (h2 : n ≤ 1000) (c : Nat) (hc : n ≤ c) : RdL tByte w (fun _ => True) (.slice (some ⟨g, off, none⟩) n c) xs := by
  subst hn
  refine ⟨_, _, rfl, hc, by omega, ⟨by rw [flat_bytes, nums_length]; exact (Nat.mul_one _).symm, fun _ => ⟨g, off, rfl, trivial, fun j u hu => ?_⟩⟩, h1⟩
  rw [hb.cell]
  exact hp j u (by rw [flat_bytes] at hu; simpa [numsA] using hu)
theorem rdl_one {w : World} {g : Nat} {x : Int} (hx : 0 ≤ x ∧ x ≤ 255) (hc : w.cell? ⟨g, 0, none⟩ = some (.int .u8 x)) (c : Nat) (h : 1 ≤ c) : RdL tByte w (fun _ => True) (.slice (some ⟨g, 0, none⟩) 1 c) [x] := by
  refine ⟨_, _, rfl, h, by simp, ⟨by simp [tByte], fun _ => ⟨g, 0, rfl, trivial, fun j u hu => ?_⟩⟩, okOne hx⟩
  simp [tByte] at hu
  obtain ⟨rfl, rfl⟩ : j = 0 ∧ u = .int .u8 x := by
    cases j with
    | zero => simp at hu; exact ⟨rfl, hu.symm⟩
    | succ j => simp at hu
  exact hc
/-- the five parts of a node's bytes put together -/
theorem nodeCat_any (x : Nd) (hok : x.ok) (b : Nat) (v9 v13 : Value) (W : World) (v17 : Value) (hn2 : x.n.size ≤ 24) (B1 : Blk W b 129 x.enc.toArray) (r9 : RdL tByte W (fun _ => True) v9 [(x.n.size : Int)]) (r13 : RdL tByte W (fun _ => True) v13 (strL x.n)) (r17 : RdL tByte W (fun _ => True) v17 (strL x.v))
    (h0 : 0 < (x.l ++ x.r ++ [(x.n.size : Int) % 256] ++ strL x.n ++ strL x.v).length) (h1 : (x.l ++ x.r ++ [(x.n.size : Int) % 256] ++ strL x.n ++ strL x.v).length ≤ 70368744177664) :
    Calls Try.prog 122 #[.slice (some ⟨W.heap.size, 0, none⟩) 5 5] (W.alloc (.cells #[.slice (some ⟨b, 0, none⟩) 32 32, .slice (some ⟨b, 32, none⟩) 32 32, v9, v13, v17] 22)) fun e w' => ∃ v', e = .returned v' ∧ Own tByte 5 w' (W.alloc (.cells #[.slice (some ⟨b, 0, none⟩) 32 32, .slice (some ⟨b, 32, none⟩) 32 32, v9, v13, v17] 22)).heap.size v' (x.l ++ x.r ++ [(x.n.size : Int) % 256] ++ strL x.n ++ strL x.v) ∧ Ext (W.alloc (.cells #[.slice (some ⟨b, 0, none⟩) 32 32, .slice (some ⟨b, 32, none⟩) 32 32, v9, v13, v17] 22)) w' := by
  have e : (x.n.size : Int) % 256 = x.n.size := by omega
  rw [e] at h0 h1 ⊢
  obtain ⟨L, hL⟩ : ∃ L : List (Value × List Int), L = [(.slice (some ⟨b, 0, none⟩) 32 32, x.l), (.slice (some ⟨b, 32, none⟩) 32 32, x.r), (v9, [(x.n.size : Int)]), (v13, strL x.n), (v17, strL x.v)] := ⟨_, rfl⟩
  have hcat : catL L L.length = x.l ++ x.r ++ [(x.n.size : Int)] ++ strL x.n ++ strL x.v := by rw [catL, List.take_length, hL]; simp
  have hrow := Blk.new W 22 #[.slice (some ⟨b, 0, none⟩) 32 32, .slice (some ⟨b, 32, none⟩) 32 32, v9, v13, v17]
  have H := concat_any W.heap.size 0 5 L (W.alloc (.cells #[.slice (some ⟨b, 0, none⟩) 32 32, .slice (some ⟨b, 32, none⟩) 32 32, v9, v13, v17] 22)) (fun _ => True) ?_ ?_ (by rw [hL]; simp) (by rw [hcat]; exact h0) (by rw [hcat]; exact h1)
  · rw [hcat] at H
    rw [show L.length = 5 by rw [hL]; rfl] at H
    exact H
  · have hE := ext_alloc W (.cells #[.slice (some ⟨b, 0, none⟩) 32 32, .slice (some ⟨b, 32, none⟩) 32 32, v9, v13, v17] 22)
    intro i hi
    subst hL
    simp only [List.length_cons, List.length_nil] at hi
    rcases (show i = 0 ∨ i = 1 ∨ i = 2 ∨ i = 3 ∨ i = 4 by omega) with rfl | rfl | rfl | rfl | rfl
    · exact (rdl_blk B1 (Nd.left hok) hok.1.1 hok.1.2 (by decide) 32 (Nat.le_refl _)).ext (by decide) hE
    · exact (rdl_blk B1 (Nd.right hok) hok.2.1.1 hok.2.1.2 (by decide) 32 (Nat.le_refl _)).ext (by decide) hE
    · exact r9.ext (by decide) hE
    · exact r13.ext (by decide) hE
    · exact r17.ext (by decide) hE
  · intro i hi
    subst hL
    simp only [List.length_cons, List.length_nil] at hi
    rcases (show i = 0 ∨ i = 1 ∨ i = 2 ∨ i = 3 ∨ i = 4 by omega) with rfl | rfl | rfl | rfl | rfl <;> exact hrow.at_ _ rfl
end Go.Proofs.Yteegnbdgfedajaa
/- Keys compared. No condition. -/
namespace Go.Proofs.Yteegnbdgfedajaa
open Go.RowKit
set_option linter.unusedVariables false
set_option linter.unusedSimpArgs false

/-- which of two lists comes first -/
@[irreducible] def cmpL : List Int → List Int → Int
  | x :: a, y :: b => if x = y then cmpL a b else if x < y then -1 else 1
  | _, _ => 0
theorem cmpL_self (a : List Int) : cmpL a a = 0 := by
  induction a with
  | nil => rw [cmpL]; intro x a y b h; cases h
  | cons x r ih => rw [cmpL, if_pos rfl, ih]
theorem cmpL_at (a b : List Int) (k : Nat) (ha : k < a.length) (hb : k < b.length) (h : a.take k = b.take k) (hne : gI a k ≠ gI b k) : cmpL a b = if gI a k < gI b k then -1 else 1 := by
  induction k generalizing a b with
  | zero =>
    match a, b, ha, hb with
    | x :: a, y :: b, _, _ => 
      have hne' : x ≠ y := by simpa [gI] using hne
      rw [cmpL, if_neg hne']; simp [gI]
  | succ k ih =>
    match a, b, ha, hb with
    | x :: a, y :: b, ha, hb =>
      simp only [List.take_succ_cons, List.cons.injEq] at h
      rw [cmpL, if_pos h.1]
      have := ih a b (by simpa using ha) (by simpa using hb) h.2 (by simpa [gI] using hne)
      rw [this]; simp [gI]
set_option maxHeartbeats 1000000 in
set_option maxRecDepth 100000 in
theorem l01Compare_any (a b : List Int) (ha : K32 a) (hb : K32 b) (w : World) :
    Calls Try.prog 85 #[.agg (numsA .u8 a), .agg (numsA .u8 b)] w fun e w' => e = .returned (.int .i64 (cmpL a b)) ∧ Ext w w' := by
  have HA := Lib.hid ha.1
  have HB := Lib.hid hb.1
  go_enter Try.func85, Try.ntmps85
  go_wp2
  go_loopw [5] (fun i wr => ∃ k : Nat, k ≤ 32 ∧ i = .int .i64 k ∧ a.take k = b.take k ∧ Blk wr w.heap.size 40 (numsA .u8 a) ∧ Blk wr (w.heap.size + 1) 40 (numsA .u8 b) ∧ Ext w wr)
    (fun i _ => 32 - (intOf i).toNat)
  case atStart => exact ⟨0, by omega, rfl, by simp, (Blk.new w _ _).alloc _, Blk.new' (by simp) _ _, (ext_alloc _ _).alloc _⟩
  case round =>
    obtain ⟨k, hk, rfl, ht, h1, h2, hx⟩ := hrel
    have Ht := Lib.hid ht
    have HX := Lib.hid hx
    have H1 := Lib.hid h1
    have H2 := Lib.hid h2
    clear ht h1 h2 hx
    by_cases hlt : k < 32
    · have hd := H1.out.num k (by rw [HA.out]; exact hlt)
      have hd' := H2.out.num k (by rw [HB.out]; exact hlt)
      by_cases he : gI a k = gI b k
      · have He := Lib.hid he
        have hne : (gI a k != gI b k) = false := by simpa using he
        clear he
        go_wp2
        go_quiet (fail)
        go_wp2
        go_roundw
        case rel => exact ⟨k + 1, by omega, by go_num, take_eq_step (by rw [HA.out]; exact hlt) (by rw [HB.out]; exact hlt) Ht.out He.out, H1.out, H2.out, HX.out.drewN _⟩
        case measure => simp [intOf]; omega
      · have hc := cmpL_at a b k (by rw [HA.out]; exact hlt) (by rw [HB.out]; exact hlt) Ht.out he
        have Hc := Lib.hid hc
        clear hc
        have hne : (gI a k != gI b k) = true := by simpa using he
        clear he
        by_cases hlx : gI a k < gI b k
        · have hl2 : decide (gI a k < gI b k) = true := by simpa using hlx
          have Hl := Lib.hid hlx
          clear hlx
          go_wp2
          go_quiet (fail)
          go_wp2
          go_quiet (fail)
          go_wp2
          go_ret
          exact ⟨by rw [Hc.out, if_pos Hl.out]; rfl, (HX.out.drewN _).drewN _⟩
        · have hl2 : decide (gI a k < gI b k) = false := by simpa using hlx
          have Hl := Lib.hid hlx
          clear hlx
          go_wp2
          go_quiet (fail)
          go_wp2
          go_quiet (fail)
          go_wp2
          go_ret
          exact ⟨by rw [Hc.out, if_neg (Int.not_lt.2 Hl.out)]; rfl, (HX.out.drewN _).drewN _⟩
    · go_wp2
      go_ret
      obtain rfl : k = 32 := by omega
      refine ⟨?_, HX.out⟩
      have e := Ht.out
      rw [List.take_of_length_le (by rw [HA.out]; omega), List.take_of_length_le (by rw [HB.out]; omega)] at e
      subst e; rw [cmpL_self]; rfl
set_option maxHeartbeats 1000000 in
set_option maxRecDepth 100000 in
theorem isNaNB_any (x : Int) (w : World) : Calls Try.prog 128 #[.int .u8 x] w fun e w' => e = .returned (.bool false) ∧ w = w' := by
  have h : (x != x) = false := by simp
  go_enter Try.func128, Try.ntmps128
  go_wp2
  go_ret
  exact ⟨rfl, rfl⟩
set_option maxHeartbeats 1000000 in
set_option maxRecDepth 100000 in
theorem cmpB_any (x y : Int) (w : World) : Calls Try.prog 116 #[.int .u8 x, .int .u8 y] w fun e w' => e = .returned (.int .i64 (if x = y then 0 else if x < y then -1 else 1)) ∧ w = w' := by
  rcases Int.lt_trichotomy x y with h | h | h
  · rw [if_neg (by omega), if_pos h]
    go_enter Try.func116, Try.ntmps116
    go_wp2_with (go_at_call 128; refine (isNaNB_any _ _).mono ?_; rintro e w' ⟨rfl, rfl⟩)
    go_ret
    exact ⟨rfl, rfl⟩
  · subst h
    rw [if_pos rfl]
    go_enter Try.func116, Try.ntmps116
    go_wp2_with (go_at_call 128; refine (isNaNB_any _ _).mono ?_; rintro e w' ⟨rfl, rfl⟩)
    go_ret
    exact ⟨rfl, rfl⟩
  · have h2 : ¬ x < y := by omega
    rw [if_neg (by omega), if_neg h2]
    go_enter Try.func116, Try.ntmps116
    go_wp2_with (go_at_call 128; refine (isNaNB_any _ _).mono ?_; rintro e w' ⟨rfl, rfl⟩)
    go_ret
    exact ⟨rfl, rfl⟩
set_option maxHeartbeats 1000000 in
set_option maxRecDepth 100000 in
theorem slCompare_any (v u : Value) (a b : List Int) (w : World) (S S' : Nat → Prop) (h : RdL tByte w S v a) (h' : RdL tByte w S' u b) (hl : a.length = b.length) :
    Calls Try.prog 104 #[v, u] w fun e w' => e = .returned (.int .i64 (cmpL a b)) ∧ Ext w w' := by
  obtain ⟨A, cap, rfl, hcap, hlen, hrd, hok⟩ := h
  obtain ⟨A', cap', rfl, hcap', hlen', hrd', hok'⟩ := h'
  have Hrd := Lib.hid (show Rd w S 1 A a.length (nums .u8 a) by rw [← flat_bytes]; exact hrd)
  have Hrd' := Lib.hid (show Rd w S' 1 A' b.length (nums .u8 b) by rw [← flat_bytes]; exact hrd')
  have Hl := Lib.hid hl
  clear hrd hrd' hl
  go_enter Try.func104, Try.ntmps104
  go_wp2
  go_loopw [11] (fun i wr => ∃ k : Nat, k ≤ a.length ∧ i = .int .i64 k ∧ a.take k = b.take k ∧ Ext w wr) (fun i _ => a.length - (intOf i).toNat)
  case atStart => exact ⟨0, by omega, rfl, by simp, Ext.refl _⟩
  case round =>
    obtain ⟨k, hk, rfl, ht, hx⟩ := hrel
    have Ht := Lib.hid ht
    have HX := Lib.hid hx
    clear ht hx
    have hbl : (b.length : Int) = a.length := by rw [Hl.out]
    by_cases hlt : k < a.length
    · have hlt' : k < b.length := by rw [← Hl.out]; exact hlt
      obtain ⟨g, o, rfl, hs, hc⟩ := (Hrd.out).byte k hlt
      obtain ⟨g', o', rfl, hs', hc'⟩ := (Hrd'.out).byte k hlt'
      have hd := HX.out.cell hc
      have hd' := HX.out.cell hc'
      have hi : (0 : Int) ≤ (k : Int) := by omega
      have hi2 : (k : Int) < (a.length : Int) := by omega
      have hi3 : (k : Int) < (b.length : Int) := by omega
      clear hc hc' hbl
      have hcm := fun W => cmpB_any (gI a k) (gI b k) W
      by_cases he : gI a k = gI b k
      · have He := Lib.hid he
        simp only [if_pos he] at hcm
        clear he
        go_wp2_with fail
        refine (hcm _).mono ?_
        rintro e w' ⟨rfl, rfl⟩
        go_wp2
        go_roundw
        case rel => exact ⟨k + 1, by omega, by go_num, take_eq_step hlt hlt' Ht.out He.out, HX.out⟩
        case measure => simp [intOf]; omega
      · have HC := Lib.hid (cmpL_at a b k hlt hlt' Ht.out he)
        simp only [if_neg he] at hcm
        clear he
        by_cases hlx : gI a k < gI b k
        · have Hlx := Lib.hid hlx
          simp only [if_pos hlx] at hcm
          clear hlx
          go_wp2_with fail
          refine (hcm _).mono ?_
          rintro e w' ⟨rfl, rfl⟩
          go_wp2
          go_ret
          exact ⟨by rw [HC.out, if_pos Hlx.out]; rfl, HX.out⟩
        · have Hlx := Lib.hid (Int.not_lt.1 hlx)
          simp only [if_neg hlx] at hcm
          clear hlx
          go_wp2_with fail
          refine (hcm _).mono ?_
          rintro e w' ⟨rfl, rfl⟩
          go_wp2
          go_ret
          exact ⟨by rw [HC.out, if_neg (Int.not_lt.2 Hlx.out)]; rfl, HX.out⟩
    · have hq : ¬ (a.length : Int) < (b.length : Int) := by omega
      clear hbl
      go_wp2
      go_ret
      obtain rfl : k = a.length := by omega
      refine ⟨?_, HX.out⟩
      have e := Ht.out
      rw [List.take_of_length_le (by omega), List.take_of_length_le (by rw [← Hl.out]; omega)] at e
      subst e; rw [cmpL_self]; rfl
theorem numsA_full {xs : List Int} (j : Nat) (u : Value) (hu : (numsA .u8 xs)[j]? = some u) : (numsA .u8 xs)[0 + j]? = some u := by rw [Nat.zero_add]; exact hu
set_option maxHeartbeats 1000000 in
set_option maxRecDepth 100000 in
theorem compareKeys_any (a b : List Int) (ha : K32 a) (hb : K32 b) (w : World) :
    Calls Try.prog 86 #[.agg (numsA .u8 a), .agg (numsA .u8 b)] w fun e w' => e = .returned (.int .i64 (cmpL a b)) ∧ Ext w w' := by
  have HA := Lib.hid ha
  have HB := Lib.hid hb
  clear ha hb
  go_enter Try.func86, Try.ntmps86
  go_wp2_with fail
  go_region_held3 (fun W => Ext ((w.alloc (.cells (numsA .u8 a) 40)).alloc (.cells (numsA .u8 b) 40)) W) (first | exact Ext.refl _ | exact (Ext.refl _).drew | exact Ext.trans (by assumption) (by assumption))
    (first
    | (go_at_call 104; refine (slCompare_any _ _ a b _ _ _ (rdl_blk (((Blk.new w 40 (numsA .u8 a)).alloc _).ext ((Ext.refl _).drew)) numsA_full HA.out.1 HA.out.2 (by decide) 32 (Nat.le_refl _)) (rdl_blk ((Blk.new' (g := w.heap.size + 1) (w := w.alloc (.cells (numsA .u8 a) 40)) (by simp) 40 (numsA .u8 b)).ext ((Ext.refl _).drew)) numsA_full HB.out.1 HB.out.2 (by decide) 32 (Nat.le_refl _)) (by rw [HA.out.1, HB.out.1])).mono ?_; rintro e p1 ⟨rfl, hx⟩))
  go_wp2
  go_ret
  exact ⟨rfl, ((ext_alloc w _).alloc _).trans (by assumption)⟩

end Go.Proofs.Yteegnbdgfedajaa
/- Which commits are valid: the reference and the program. No condition. -/
namespace Go.Proofs.Yteegnbdgfedajaa
open Go.RowKit
set_option linter.unusedVariables false
set_option linter.unusedSimpArgs false

def gL (L : List (List Int)) (i : Nat) : List Int := L.getD i []
theorem gL_lt {L : List (List Int)} {i : Nat} (h : i < L.length) : gL L i = L[i] := by simp [gL, List.getD_eq_getElem?_getD, h]
/-- the first n are in order -/
@[irreducible] def srtB (L : List (List Int)) (n : Nat) : Bool := (List.range (n - 1)).all fun i => decide (cmpL (gL L i) (gL L (i + 1)) < 0)
theorem srtB_one (L : List (List Int)) (n : Nat) (h : n ≤ 1) : srtB L n = true := by rw [srtB, show n - 1 = 0 by omega]; rfl
theorem srtB_succ (L : List (List Int)) (k : Nat) : srtB L (k + 2) = (srtB L (k + 1) && decide (cmpL (gL L k) (gL L (k + 1)) < 0)) := by
  rw [srtB, srtB, show k + 2 - 1 = k + 1 by omega, show k + 1 - 1 = k by omega, List.range_succ, List.all_append]; simp
theorem srtB_bad (L : List (List Int)) (k n : Nat) (h : k + 1 < n) (hb : ¬ cmpL (gL L k) (gL L (k + 1)) < 0) : srtB L n = false := by
  rw [srtB, List.all_eq_false]
  exact ⟨k, List.mem_range.2 (by omega), by simpa using hb⟩
/-- a valid commit -/
@[irreducible] def okCm (x : Cm) : Bool := decide (x.par.length ≤ 3) && (decide (0 ≤ x.num) && decide (x.num ≤ 40)) && decide (x.note.size ≤ 64) && srtB x.par x.par.length
theorem okCm_eq (x : Cm) : okCm x = (decide (x.par.length ≤ 3) && (decide (0 ≤ x.num) && decide (x.num ≤ 40)) && decide (x.note.size ≤ 64) && srtB x.par x.par.length) := by rw [okCm]
set_option maxHeartbeats 1000000 in
set_option maxRecDepth 100000 in
theorem l07Ok_any (cs : Array Value) (x : Cm) (w : World) (S : Nat → Prop) (h : RCommit w S cs x) (b : Nat) (hb : Blk w b 43 cs) :
    Calls Try.prog 56 #[.pointer (some ⟨b, 0, none⟩)] w fun e w' => e = .returned (.bool (okCm x)) ∧ Ext w w' := by
  obtain ⟨v, rfl, hr, hroot, hnum, hnote⟩ := h
  obtain ⟨A, cap, rfl, hcap, hlen, hrd, hok⟩ := id hr
  have HAT := Lib.hid (Cm.at_ hroot (.slice A x.par.length cap))
  have HB := Lib.hid hb
  have Hrd := Lib.hid hrd
  have Hok := Lib.hid hok
  have Hcm := Lib.hid (okCm_eq x)
  have c0 := hb.at_ 32 HAT.out.1
  have c1 := hb.at_ 33 HAT.out.2.1
  have c2 := hb.at_ 34 HAT.out.2.2
  have hin := l00In_any x.num 0 40
  clear hb hrd hok hr
  by_cases h1 : x.par.length ≤ 3
  rotate_left
  · have e : okCm x = false := by rw [Hcm.out]; simp [h1]
    rw [e]
    clear e Hcm
    go_enter Try.func56, Try.ntmps56
    go_wp2
    go_ret
    exact ⟨rfl, Ext.refl _⟩
  cases h2 : (decide (0 ≤ x.num) && decide (x.num ≤ 40)) with
  | false =>
    have e : okCm x = false := by rw [Hcm.out, h2]; simp
    rw [e]
    simp only [h2] at hin
    clear e Hcm h2
    go_enter Try.func56, Try.ntmps56
    go_wp2_with fail
    refine (hin _).mono ?_
    rintro e w' ⟨rfl, rfl⟩
    go_wp2
    go_ret
    exact ⟨rfl, Ext.refl _⟩
  | true =>
    simp only [h2] at hin
    by_cases h3 : x.note.size ≤ 64
    rotate_left
    · have e : okCm x = false := by rw [Hcm.out]; simp [h3]
      rw [e]
      clear e Hcm h2
      go_enter Try.func56, Try.ntmps56
      go_wp2_with fail
      refine (hin _).mono ?_
      rintro e w' ⟨rfl, rfl⟩
      go_wp2
      go_ret
      exact ⟨rfl, Ext.refl _⟩
    have e : okCm x = srtB x.par x.par.length := by rw [Hcm.out, h2]; simp [h1, h3]
    have HE := Lib.hid e
    clear e Hcm h2
    have Hz := Lib.hid (srtB_one x.par 1 (Nat.le_refl _))
    go_enter Try.func56, Try.ntmps56
    go_wp2_with fail
    refine (hin _).mono ?_
    rintro e w' ⟨rfl, rfl⟩
    go_wp2
    go_loopw [3] (fun i wr => ∃ k : Nat, (k + 1 ≤ x.par.length ∨ k = 0) ∧ i = .int .i64 ((k : Int) + 1) ∧ srtB x.par (k + 1) = true ∧ Ext w wr) (fun i _ => x.par.length - (intOf i).toNat)
    case atStart => exact ⟨0, by omega, rfl, Hz.out, Ext.refl _⟩
    case round =>
    obtain ⟨k, hk, rfl, hs, hx⟩ := hrel
    have HS := Lib.hid hs
    have HX := Lib.hid hx
    clear hs hx hin c0 c1 c2 Hz
    have d0 : ∀ W, Ext wr W → W.cell? ⟨b, 32, none⟩ = some (.slice A x.par.length cap) := fun W hW => (HB.out.ext (HX.out.trans hW)).at_ 32 HAT.out.1
    have R := Ext.refl wr
    by_cases hlt : k + 1 < x.par.length
    · obtain ⟨g, o, rfl, hs0, hc0⟩ := Hrd.out.elem Hok.out k (by omega)
      obtain ⟨g2, o2, e, hs1, hc1⟩ := Hrd.out.elem Hok.out (k + 1) hlt
      injection e with e
      injection e with e1 e2
      subst e1
      subst e2
      have HX0 := Lib.hid (show K32 x.par[k] from Hok.out _ (List.getElem_mem _))
      have HX1 := Lib.hid (show K32 x.par[k + 1] from Hok.out _ (List.getElem_mem hlt))
      have HD0 := Lib.hid (show ∀ j u, (tKey.enc x.par[k])[j]? = some u → wr.cell? ⟨g, o + k * 32 + j, none⟩ = some u from fun j u hu => HX.out.cell (hc0 j u hu))
      have HD1 := Lib.hid (show ∀ j u, (tKey.enc x.par[k + 1])[j]? = some u → wr.cell? ⟨g, o + (k + 1) * 32 + j, none⟩ = some u from fun j u hu => HX.out.cell (hc1 j u hu))
      clear hc0 hc1
      have hi : (0 : Int) ≤ (k : Int) := by omega
      have hi3 : (0 : Int) ≤ (k : Int) + 1 := by omega
      have hi1 : (k : Int) < (x.par.length : Int) := by omega
      have hi2 : (k : Int) + 1 < (x.par.length : Int) := by omega
      have HSN := Lib.hid (srtB_succ x.par k)
      have HG0 := Lib.hid (gL_lt (L := x.par) (i := k) (by omega))
      have HG1 := Lib.hid (gL_lt hlt)
      have W1 : IntKind.i64.wrap (k : Int) = k := IntWalk.i64_in _ (by omega)
      go_wp2_with fail
      refine wp_region_held_drew (S := fun W => Ext wr W) (by kernel_rfl) (Ext.refl _).drew (fun hHeld => ?_)
      refine wpAnyH_take (i := 0) (oi := ?oiz1) (v := ?vz1) ?hiz1 (by kernel_rfl) (by kernel_rfl) (by kernel_rfl) ?hQz1 ?hyz1 (by assumption) ?restz1
      case hiz1 => simp only [List.getElem?_toArray, List.getElem?_cons_zero, List.getElem?_cons_succ]; rfl
      case hQz1 => exact fun _ _ _ h => h
      case hyz1 => exact Or.inl ⟨by rfl, by intro w hSw; (try dsimp only at hSw); go_simp; with_reducible rfl⟩
      try simp only [Act.put, List.setIfInBounds_toArray, List.set_cons_zero, List.set_cons_succ]
      refine wpAnyH_take (i := 1) (oi := ?oiz2) (v := ?vz2) ?hiz2 (by kernel_rfl) (by kernel_rfl) (by kernel_rfl) ?hQz2 ?hyz2 (by assumption) ?restz2
      case hiz2 => simp only [List.getElem?_toArray, List.getElem?_cons_zero, List.getElem?_cons_succ]; rfl
      case hQz2 => exact fun _ _ _ h => h
      case hyz2 => exact Or.inl ⟨by rfl, by intro w hSw; (try dsimp only at hSw); go_simp; with_reducible rfl⟩
      try simp only [Act.put, List.setIfInBounds_toArray, List.set_cons_zero, List.set_cons_succ]
      refine wpAnyH_take (i := 2) (oi := ?oiz3) (v := ?vz3) ?hiz3 (by kernel_rfl) (by kernel_rfl) (by kernel_rfl) ?hQz3 ?hyz3 (by assumption) ?restz3
      case hiz3 => simp only [List.getElem?_toArray, List.getElem?_cons_zero, List.getElem?_cons_succ]; rfl
      case hQz3 => exact fun _ _ _ h => h
      case hyz3 => exact Or.inl ⟨by rfl, by intro w hSw; (try dsimp only at hSw); go_simp; with_reducible rfl⟩
      try simp only [Act.put, List.setIfInBounds_toArray, List.set_cons_zero, List.set_cons_succ]
      refine wpAnyH_take (i := 3) (oi := ?oiz4) (v := ?vz4) ?hiz4 (by kernel_rfl) (by kernel_rfl) (by kernel_rfl) ?hQz4 ?hyz4 (by assumption) ?restz4
      case hiz4 => simp only [List.getElem?_toArray, List.getElem?_cons_zero, List.getElem?_cons_succ]; rfl
      case hQz4 => exact fun _ _ _ h => h
      case hyz4 => exact Or.inl ⟨by rfl, by intro w hSw; (try dsimp only at hSw); go_simp; with_reducible rfl⟩
      try simp only [Act.put, List.setIfInBounds_toArray, List.set_cons_zero, List.set_cons_succ]
      refine wpAnyH_take (i := 4) (oi := ?oiz5) (v := ?vz5) ?hiz5 (by kernel_rfl) (by kernel_rfl) (by kernel_rfl) ?hQz5 ?hyz5 (by assumption) ?restz5
      case hiz5 => simp only [List.getElem?_toArray, List.getElem?_cons_zero, List.getElem?_cons_succ]; rfl
      case hQz5 => exact fun _ _ _ h => h
      case hyz5 => exact Or.inl ⟨by rfl, by intro w hSw; (try dsimp only at hSw); go_simp; with_reducible rfl⟩
      try simp only [Act.put, List.setIfInBounds_toArray, List.set_cons_zero, List.set_cons_succ]
      refine wpAnyH_take (i := 5) (oi := ?oiz6) (v := ?vz6) ?hiz6 (by kernel_rfl) (by kernel_rfl) (by kernel_rfl) ?hQz6 ?hyz6 (by assumption) ?restz6
      case hiz6 => simp only [List.getElem?_toArray, List.getElem?_cons_zero, List.getElem?_cons_succ]; rfl
      case hQz6 => exact fun _ _ _ h => h
      case hyz6 => exact Or.inl ⟨by rfl, by intro w hSw; (try dsimp only at hSw); go_simp; with_reducible rfl⟩
      try simp only [Act.put, List.setIfInBounds_toArray, List.set_cons_zero, List.set_cons_succ]
      refine wpAnyH_take (i := 6) (oi := ?oiz7) (v := ?vz7) ?hiz7 (by kernel_rfl) (by kernel_rfl) (by kernel_rfl) ?hQz7 ?hyz7 (by assumption) ?restz7
      case hiz7 => simp only [List.getElem?_toArray, List.getElem?_cons_zero, List.getElem?_cons_succ]; rfl
      case hQz7 => exact fun _ _ _ h => h
      case hyz7 => exact Or.inl ⟨by rfl, by intro w hSw; (try dsimp only at hSw); go_simp; with_reducible rfl⟩
      try simp only [Act.put, List.setIfInBounds_toArray, List.set_cons_zero, List.set_cons_succ]
      refine wpAnyH_take (i := 7) (oi := ?oiz8) (v := (.agg (tKey.enc x.par[k]).toArray)) ?hiz8 (by kernel_rfl) (by kernel_rfl) (by kernel_rfl) ?hQz8 ?hyz8 (by assumption) ?restz8
      case hiz8 => simp only [List.getElem?_toArray, List.getElem?_cons_zero, List.getElem?_cons_succ]; rfl
      case hQz8 => exact fun _ _ _ h => h
      case hyz8 => refine yields_loadR g (o + k * 32) (tKey.enc x.par[k]) (by rw [tKey.len _ HX0.out]; exact aggKey) HD0.out ?_ _ rfl rfl; rfl
      try simp only [Act.put, List.setIfInBounds_toArray, List.set_cons_zero, List.set_cons_succ]
      refine wpAnyH_take (i := 8) (oi := ?oiz9) (v := ?vz9) ?hiz9 (by kernel_rfl) (by kernel_rfl) (by kernel_rfl) ?hQz9 ?hyz9 (by assumption) ?restz9
      case hiz9 => simp only [List.getElem?_toArray, List.getElem?_cons_zero, List.getElem?_cons_succ]; rfl
      case hQz9 => exact fun _ _ _ h => h
      case hyz9 => exact Or.inl ⟨by rfl, by intro w hSw; (try dsimp only at hSw); go_simp; with_reducible rfl⟩
      try simp only [Act.put, List.setIfInBounds_toArray, List.set_cons_zero, List.set_cons_succ]
      refine wpAnyH_take (i := 9) (oi := ?oiz10) (v := ?vz10) ?hiz10 (by kernel_rfl) (by kernel_rfl) (by kernel_rfl) ?hQz10 ?hyz10 (by assumption) ?restz10
      case hiz10 => simp only [List.getElem?_toArray, List.getElem?_cons_zero, List.getElem?_cons_succ]; rfl
      case hQz10 => exact fun _ _ _ h => h
      case hyz10 => exact Or.inl ⟨by rfl, by intro w hSw; (try dsimp only at hSw); go_simp; with_reducible rfl⟩
      try simp only [Act.put, List.setIfInBounds_toArray, List.set_cons_zero, List.set_cons_succ]
      refine wpAnyH_take (i := 10) (oi := ?oiz11) (v := ?vz11) ?hiz11 (by kernel_rfl) (by kernel_rfl) (by kernel_rfl) ?hQz11 ?hyz11 (by assumption) ?restz11
      case hiz11 => simp only [List.getElem?_toArray, List.getElem?_cons_zero, List.getElem?_cons_succ]; rfl
      case hQz11 => exact fun _ _ _ h => h
      case hyz11 => exact Or.inl ⟨by rfl, by intro w hSw; (try dsimp only at hSw); go_simp; with_reducible rfl⟩
      try simp only [Act.put, List.setIfInBounds_toArray, List.set_cons_zero, List.set_cons_succ]
      refine wpAnyH_take (i := 11) (oi := ?oiz12) (v := ?vz12) ?hiz12 (by kernel_rfl) (by kernel_rfl) (by kernel_rfl) ?hQz12 ?hyz12 (by assumption) ?restz12
      case hiz12 => simp only [List.getElem?_toArray, List.getElem?_cons_zero, List.getElem?_cons_succ]; rfl
      case hQz12 => exact fun _ _ _ h => h
      case hyz12 => exact Or.inl ⟨by rfl, by intro w hSw; (try dsimp only at hSw); go_simp; with_reducible rfl⟩
      try simp only [Act.put, List.setIfInBounds_toArray, List.set_cons_zero, List.set_cons_succ]
      refine wpAnyH_take (i := 12) (oi := ?oiz13) (v := ?vz13) ?hiz13 (by kernel_rfl) (by kernel_rfl) (by kernel_rfl) ?hQz13 ?hyz13 (by assumption) ?restz13
      case hiz13 => simp only [List.getElem?_toArray, List.getElem?_cons_zero, List.getElem?_cons_succ]; rfl
      case hQz13 => exact fun _ _ _ h => h
      case hyz13 => exact Or.inl ⟨by rfl, by intro w hSw; (try dsimp only at hSw); go_simp; with_reducible rfl⟩
      try simp only [Act.put, List.setIfInBounds_toArray, List.set_cons_zero, List.set_cons_succ]
      refine wpAnyH_take (i := 13) (oi := ?oiz14) (v := ?vz14) ?hiz14 (by kernel_rfl) (by kernel_rfl) (by kernel_rfl) ?hQz14 ?hyz14 (by assumption) ?restz14
      case hiz14 => simp only [List.getElem?_toArray, List.getElem?_cons_zero, List.getElem?_cons_succ]; rfl
      case hQz14 => exact fun _ _ _ h => h
      case hyz14 => exact Or.inl ⟨by rfl, by intro w hSw; (try dsimp only at hSw); go_simp; with_reducible rfl⟩
      try simp only [Act.put, List.setIfInBounds_toArray, List.set_cons_zero, List.set_cons_succ]
      refine wpAnyH_take (i := 14) (oi := ?oiz15) (v := (.agg (tKey.enc x.par[k + 1]).toArray)) ?hiz15 (by kernel_rfl) (by kernel_rfl) (by kernel_rfl) ?hQz15 ?hyz15 (by assumption) ?restz15
      case hiz15 => simp only [List.getElem?_toArray, List.getElem?_cons_zero, List.getElem?_cons_succ]; rfl
      case hQz15 => exact fun _ _ _ h => h
      case hyz15 => refine yields_loadR g (o + (k + 1) * 32) (tKey.enc x.par[k + 1]) (by rw [tKey.len _ HX1.out]; exact aggKey) HD1.out ?_ _ rfl rfl; rfl
      try simp only [Act.put, List.setIfInBounds_toArray, List.set_cons_zero, List.set_cons_succ]
      refine wpAnyH_ready (rs := [15]) (by kernel_rfl) (by simp) (AllReadyH.cons (o := ?oy1615) ?hy1615 (fun K hK => ?sy1615) AllReadyH.nil)
      case hy1615 => simp only [List.getElem?_toArray, List.getElem?_cons_zero, List.getElem?_cons_succ]; rfl
      go_simp
      refine (l01Compare_any x.par[k] x.par[k + 1] HX0.out HX1.out _).mono ?_
      rintro e w1 ⟨rfl, hx⟩
      have hH2 := hHeld.trans hx
      refine hK.out _ _ hH2 (fun _ => ?_)
      clear hHeld hK K
      have hHeld := hH2
      clear hH2
      try simp only [Act.put, List.setIfInBounds_toArray, List.set_cons_zero, List.set_cons_succ]
      refine wpAnyH_take (i := 16) (oi := ?oiz17) (v := ?vz17) ?hiz17 (by kernel_rfl) (by kernel_rfl) (by kernel_rfl) ?hQz17 ?hyz17 (by assumption) ?restz17
      case hiz17 => simp only [List.getElem?_toArray, List.getElem?_cons_zero, List.getElem?_cons_succ]; rfl
      case hQz17 => exact fun _ _ _ h => h
      case hyz17 => exact Or.inl ⟨by rfl, by intro w hSw; (try dsimp only at hSw); go_simp; with_reducible rfl⟩
      try simp only [Act.put, List.setIfInBounds_toArray, List.set_cons_zero, List.set_cons_succ]
      refine wpAnyH_done (by kernel_rfl) ?_ _
      have HX2 := Lib.hid (HX.out.trans hHeld)
      clear hHeld d0 R
      by_cases hc : cmpL x.par[k] x.par[k + 1] < 0
      · have hge : ¬ (0 : Int) ≤ cmpL x.par[k] x.par[k + 1] := by omega
        have Hc := Lib.hid hc
        clear hc
        go_wp2
        go_roundw
        case rel => exact ⟨k + 1, by omega, by go_num, by rw [HSN.out, HS.out, HG0.out, HG1.out]; simpa using Hc.out, HX2.out⟩
        case measure => simp [intOf]; omega
      · have hge : (0 : Int) ≤ cmpL x.par[k] x.par[k + 1] := by omega
        have Hbad := Lib.hid (srtB_bad x.par k x.par.length hlt (by rw [HG0.out, HG1.out]; exact hc))
        clear hc
        go_wp2
        go_ret
        exact ⟨by rw [HE.out, Hbad.out]; rfl, HX2.out⟩
    · go_wp2
      go_ret
      refine ⟨?_, HX.out⟩
      rw [HE.out]
      rcases hk with hk | rfl
      · rw [show x.par.length = k + 1 by omega, HS.out]; rfl
      · rw [srtB_one _ _ (by omega)]; rfl

set_option maxHeartbeats 1000000 in
set_option maxRecDepth 100000 in
theorem validCommit_any (cs : Array Value) (x : Cm) (w : World) (S : Nat → Prop) (h : RCommit w S cs x) :
    Calls Try.prog 58 #[.agg cs] w fun e w' => e = .returned (.bool (okCm x)) ∧ Ext w w' := by
  obtain ⟨v, rfl, hr, hroot, hnum, hnote⟩ := h
  obtain ⟨A, cap, rfl, hcap, hlen, hrd, hok⟩ := id hr
  have HAT := Lib.hid (Cm.at_ hroot (.slice A x.par.length cap))
  have Hrd := Lib.hid hrd
  have Hok := Lib.hid hok
  have Hcm := Lib.hid (okCm_eq x)
  have HB := Lib.hid (Blk.new w 43 (x.cells (.slice A x.par.length cap)))
  have hin := within_any x.num 0 40
  have Hin := Lib.hid hin
  have Hz := Lib.hid (srtB_one x.par 1 (Nat.le_refl _))
  clear hrd hok hr hin
  go_enter Try.func58, Try.ntmps58
  go_wp2
  go_loopw [3] (fun i wr => ∃ k : Nat, (k + 1 ≤ x.par.length ∨ k = 0) ∧ i = .int .i64 ((k : Int) + 1) ∧ srtB x.par (k + 1) = true ∧ Ext (w.alloc (.cells (x.cells (.slice A x.par.length cap)) 43)) wr) (fun i _ => x.par.length - (intOf i).toNat)
  case atStart => exact ⟨0, by omega, rfl, Hz.out, Ext.refl _⟩
  case round =>
    obtain ⟨k, hk, rfl, hs, hx⟩ := hrel
    have HS := Lib.hid hs
    have HX := Lib.hid hx
    clear hs hx Hz
    have d0 : ∀ W, Ext wr W → W.cell? ⟨w.heap.size, 32, none⟩ = some (.slice A x.par.length cap) := fun W hW => (HB.out.ext (HX.out.trans hW)).at_ 32 HAT.out.1
    have R := Ext.refl wr
    by_cases hlt : k + 1 < x.par.length
    · obtain ⟨g, o, rfl, hs0, hc0⟩ := Hrd.out.elem Hok.out k (by omega)
      obtain ⟨g2, o2, e, hs1, hc1⟩ := Hrd.out.elem Hok.out (k + 1) hlt
      injection e with e
      injection e with e1 e2
      subst e1
      subst e2
      have HX0 := Lib.hid (show K32 x.par[k] from Hok.out _ (List.getElem_mem _))
      have HX1 := Lib.hid (show K32 x.par[k + 1] from Hok.out _ (List.getElem_mem hlt))
      have HXW := Lib.hid ((ext_alloc w _).trans HX.out)
      have HD0 := Lib.hid (show ∀ j u, (tKey.enc x.par[k])[j]? = some u → wr.cell? ⟨g, o + k * 32 + j, none⟩ = some u from fun j u hu => HXW.out.cell (hc0 j u hu))
      have HD1 := Lib.hid (show ∀ j u, (tKey.enc x.par[k + 1])[j]? = some u → wr.cell? ⟨g, o + (k + 1) * 32 + j, none⟩ = some u from fun j u hu => HXW.out.cell (hc1 j u hu))
      clear hc0 hc1
      have hi : (0 : Int) ≤ (k : Int) := by omega
      have hi3 : (0 : Int) ≤ (k : Int) + 1 := by omega
      have hi1 : (k : Int) < (x.par.length : Int) := by omega
      have hi2 : (k : Int) + 1 < (x.par.length : Int) := by omega
      have HSN := Lib.hid (srtB_succ x.par k)
      have HG0 := Lib.hid (gL_lt (L := x.par) (i := k) (by omega))
      have HG1 := Lib.hid (gL_lt hlt)
      have W1 : IntKind.i64.wrap (k : Int) = k := IntWalk.i64_in _ (by omega)
      go_wp2_with fail
      refine wp_region_held_drew (S := fun W => Ext wr W) (by kernel_rfl) (Ext.refl _).drew (fun hHeld => ?_)
      refine wpAnyH_take (i := 0) (oi := ?oiz18) (v := ?vz18) ?hiz18 (by kernel_rfl) (by kernel_rfl) (by kernel_rfl) ?hQz18 ?hyz18 (by assumption) ?restz18
      case hiz18 => simp only [List.getElem?_toArray, List.getElem?_cons_zero, List.getElem?_cons_succ]; rfl
      case hQz18 => exact fun _ _ _ h => h
      case hyz18 => exact Or.inl ⟨by rfl, by intro w hSw; (try dsimp only at hSw); go_simp; with_reducible rfl⟩
      try simp only [Act.put, List.setIfInBounds_toArray, List.set_cons_zero, List.set_cons_succ]
      refine wpAnyH_take (i := 1) (oi := ?oiz19) (v := ?vz19) ?hiz19 (by kernel_rfl) (by kernel_rfl) (by kernel_rfl) ?hQz19 ?hyz19 (by assumption) ?restz19
      case hiz19 => simp only [List.getElem?_toArray, List.getElem?_cons_zero, List.getElem?_cons_succ]; rfl
      case hQz19 => exact fun _ _ _ h => h
      case hyz19 => exact Or.inl ⟨by rfl, by intro w hSw; (try dsimp only at hSw); go_simp; with_reducible rfl⟩
      try simp only [Act.put, List.setIfInBounds_toArray, List.set_cons_zero, List.set_cons_succ]
      refine wpAnyH_take (i := 2) (oi := ?oiz20) (v := ?vz20) ?hiz20 (by kernel_rfl) (by kernel_rfl) (by kernel_rfl) ?hQz20 ?hyz20 (by assumption) ?restz20
      case hiz20 => simp only [List.getElem?_toArray, List.getElem?_cons_zero, List.getElem?_cons_succ]; rfl
      case hQz20 => exact fun _ _ _ h => h
      case hyz20 => exact Or.inl ⟨by rfl, by intro w hSw; (try dsimp only at hSw); go_simp; with_reducible rfl⟩
      try simp only [Act.put, List.setIfInBounds_toArray, List.set_cons_zero, List.set_cons_succ]
      refine wpAnyH_take (i := 3) (oi := ?oiz21) (v := ?vz21) ?hiz21 (by kernel_rfl) (by kernel_rfl) (by kernel_rfl) ?hQz21 ?hyz21 (by assumption) ?restz21
      case hiz21 => simp only [List.getElem?_toArray, List.getElem?_cons_zero, List.getElem?_cons_succ]; rfl
      case hQz21 => exact fun _ _ _ h => h
      case hyz21 => exact Or.inl ⟨by rfl, by intro w hSw; (try dsimp only at hSw); go_simp; with_reducible rfl⟩
      try simp only [Act.put, List.setIfInBounds_toArray, List.set_cons_zero, List.set_cons_succ]
      refine wpAnyH_take (i := 4) (oi := ?oiz22) (v := ?vz22) ?hiz22 (by kernel_rfl) (by kernel_rfl) (by kernel_rfl) ?hQz22 ?hyz22 (by assumption) ?restz22
      case hiz22 => simp only [List.getElem?_toArray, List.getElem?_cons_zero, List.getElem?_cons_succ]; rfl
      case hQz22 => exact fun _ _ _ h => h
      case hyz22 => exact Or.inl ⟨by rfl, by intro w hSw; (try dsimp only at hSw); go_simp; with_reducible rfl⟩
      try simp only [Act.put, List.setIfInBounds_toArray, List.set_cons_zero, List.set_cons_succ]
      refine wpAnyH_take (i := 5) (oi := ?oiz23) (v := (.agg (tKey.enc x.par[k]).toArray)) ?hiz23 (by kernel_rfl) (by kernel_rfl) (by kernel_rfl) ?hQz23 ?hyz23 (by assumption) ?restz23
      case hiz23 => simp only [List.getElem?_toArray, List.getElem?_cons_zero, List.getElem?_cons_succ]; rfl
      case hQz23 => exact fun _ _ _ h => h
      case hyz23 => refine yields_loadR g (o + k * 32) (tKey.enc x.par[k]) (by rw [tKey.len _ HX0.out]; exact aggKey) HD0.out ?_ _ rfl rfl; rfl
      try simp only [Act.put, List.setIfInBounds_toArray, List.set_cons_zero, List.set_cons_succ]
      refine wpAnyH_take (i := 6) (oi := ?oiz24) (v := ?vz24) ?hiz24 (by kernel_rfl) (by kernel_rfl) (by kernel_rfl) ?hQz24 ?hyz24 (by assumption) ?restz24
      case hiz24 => simp only [List.getElem?_toArray, List.getElem?_cons_zero, List.getElem?_cons_succ]; rfl
      case hQz24 => exact fun _ _ _ h => h
      case hyz24 => exact Or.inl ⟨by rfl, by intro w hSw; (try dsimp only at hSw); go_simp; with_reducible rfl⟩
      try simp only [Act.put, List.setIfInBounds_toArray, List.set_cons_zero, List.set_cons_succ]
      refine wpAnyH_take (i := 7) (oi := ?oiz25) (v := ?vz25) ?hiz25 (by kernel_rfl) (by kernel_rfl) (by kernel_rfl) ?hQz25 ?hyz25 (by assumption) ?restz25
      case hiz25 => simp only [List.getElem?_toArray, List.getElem?_cons_zero, List.getElem?_cons_succ]; rfl
      case hQz25 => exact fun _ _ _ h => h
      case hyz25 => exact Or.inl ⟨by rfl, by intro w hSw; (try dsimp only at hSw); go_simp; with_reducible rfl⟩
      try simp only [Act.put, List.setIfInBounds_toArray, List.set_cons_zero, List.set_cons_succ]
      refine wpAnyH_take (i := 8) (oi := ?oiz26) (v := ?vz26) ?hiz26 (by kernel_rfl) (by kernel_rfl) (by kernel_rfl) ?hQz26 ?hyz26 (by assumption) ?restz26
      case hiz26 => simp only [List.getElem?_toArray, List.getElem?_cons_zero, List.getElem?_cons_succ]; rfl
      case hQz26 => exact fun _ _ _ h => h
      case hyz26 => exact Or.inl ⟨by rfl, by intro w hSw; (try dsimp only at hSw); go_simp; with_reducible rfl⟩
      try simp only [Act.put, List.setIfInBounds_toArray, List.set_cons_zero, List.set_cons_succ]
      refine wpAnyH_take (i := 9) (oi := ?oiz27) (v := ?vz27) ?hiz27 (by kernel_rfl) (by kernel_rfl) (by kernel_rfl) ?hQz27 ?hyz27 (by assumption) ?restz27
      case hiz27 => simp only [List.getElem?_toArray, List.getElem?_cons_zero, List.getElem?_cons_succ]; rfl
      case hQz27 => exact fun _ _ _ h => h
      case hyz27 => exact Or.inl ⟨by rfl, by intro w hSw; (try dsimp only at hSw); go_simp; with_reducible rfl⟩
      try simp only [Act.put, List.setIfInBounds_toArray, List.set_cons_zero, List.set_cons_succ]
      refine wpAnyH_take (i := 10) (oi := ?oiz28) (v := (.agg (tKey.enc x.par[k + 1]).toArray)) ?hiz28 (by kernel_rfl) (by kernel_rfl) (by kernel_rfl) ?hQz28 ?hyz28 (by assumption) ?restz28
      case hiz28 => simp only [List.getElem?_toArray, List.getElem?_cons_zero, List.getElem?_cons_succ]; rfl
      case hQz28 => exact fun _ _ _ h => h
      case hyz28 => refine yields_loadR g (o + (k + 1) * 32) (tKey.enc x.par[k + 1]) (by rw [tKey.len _ HX1.out]; exact aggKey) HD1.out ?_ _ rfl rfl; rfl
      try simp only [Act.put, List.setIfInBounds_toArray, List.set_cons_zero, List.set_cons_succ]
      refine wpAnyH_ready (rs := [11]) (by kernel_rfl) (by simp) (AllReadyH.cons (o := ?oy2911) ?hy2911 (fun K hK => ?sy2911) AllReadyH.nil)
      case hy2911 => simp only [List.getElem?_toArray, List.getElem?_cons_zero, List.getElem?_cons_succ]; rfl
      go_simp
      refine (compareKeys_any x.par[k] x.par[k + 1] HX0.out HX1.out _).mono ?_
      rintro e w1 ⟨rfl, hx⟩
      have hH2 := hHeld.trans hx
      refine hK.out _ _ hH2 (fun _ => ?_)
      clear hHeld hK K
      have hHeld := hH2
      clear hH2
      try simp only [Act.put, List.setIfInBounds_toArray, List.set_cons_zero, List.set_cons_succ]
      refine wpAnyH_take (i := 12) (oi := ?oiz30) (v := ?vz30) ?hiz30 (by kernel_rfl) (by kernel_rfl) (by kernel_rfl) ?hQz30 ?hyz30 (by assumption) ?restz30
      case hiz30 => simp only [List.getElem?_toArray, List.getElem?_cons_zero, List.getElem?_cons_succ]; rfl
      case hQz30 => exact fun _ _ _ h => h
      case hyz30 => exact Or.inl ⟨by rfl, by intro w hSw; (try dsimp only at hSw); go_simp; with_reducible rfl⟩
      try simp only [Act.put, List.setIfInBounds_toArray, List.set_cons_zero, List.set_cons_succ]
      refine wpAnyH_done (by kernel_rfl) ?_ _
      have HX2 := Lib.hid (HX.out.trans hHeld)
      clear hHeld d0 R
      by_cases hc : cmpL x.par[k] x.par[k + 1] < 0
      · have hge : ¬ (0 : Int) ≤ cmpL x.par[k] x.par[k + 1] := by omega
        have Hc := Lib.hid hc
        clear hc
        go_wp2
        go_roundw
        case rel => exact ⟨k + 1, by omega, by go_num, by rw [HSN.out, HS.out, HG0.out, HG1.out]; simpa using Hc.out, HX2.out⟩
        case measure => simp [intOf]; omega
      · have hge : (0 : Int) ≤ cmpL x.par[k] x.par[k + 1] := by omega
        have Hbad := Lib.hid (srtB_bad x.par k x.par.length hlt (by rw [HG0.out, HG1.out]; exact hc))
        clear hc
        go_wp2
        go_ret
        exact ⟨by rw [Hcm.out, Hbad.out, Bool.and_false]; rfl, (ext_alloc w _).trans HX2.out⟩
    · have Hs : Hid (srtB x.par x.par.length = true) := Lib.hid (by
        rcases hk with hk | rfl
        · rw [show x.par.length = k + 1 by omega, HS.out]
        · rw [srtB_one _ _ (by omega)])
      have d1 := (HB.out.ext HX.out).at_ 33 HAT.out.2.1
      have d2 := (HB.out.ext HX.out).at_ 34 HAT.out.2.2
      have XW := Lib.hid ((ext_alloc w _).trans HX.out)
      have hin := Hin.out
      clear HX HS
      by_cases h1 : x.par.length ≤ 3
      rotate_left
      · have e : okCm x = false := by rw [Hcm.out]; simp [h1]
        have He := Lib.hid e
        clear e Hcm
        go_wp2
        go_ret
        exact ⟨by rw [He.out]; rfl, XW.out⟩
      cases h2 : (decide (0 ≤ x.num) && decide (x.num ≤ 40)) with
      | false =>
        have e : okCm x = false := by rw [Hcm.out, h2]; simp
        have He := Lib.hid e
        simp only [h2] at hin
        clear e Hcm h2
        go_wp2_with fail
        refine (hin _).mono ?_
        rintro e w' ⟨rfl, rfl⟩
        go_wp2
        go_ret
        exact ⟨by rw [He.out]; rfl, XW.out⟩
      | true =>
        simp only [h2] at hin
        have e : okCm x = decide (x.note.size ≤ 64) := by rw [Hcm.out, h2, Hs.out]; simp [h1]
        have He := Lib.hid e
        clear e Hcm h2
        go_wp2_with fail
        refine (hin _).mono ?_
        rintro e w' ⟨rfl, rfl⟩
        go_wp2
        go_ret
        exact ⟨by rw [He.out]; exact ret_bool (by simp; omega), XW.out⟩

end Go.Proofs.Yteegnbdgfedajaa
/- Arrays of bytes held against each other by == and !=. No condition. -/
namespace Go.Proofs.Yteegnbdgfedajaa
open Go.RowKit
set_option linter.unusedVariables false
set_option linter.unusedSimpArgs false

def eqArr (d : Nat) (e : TypeId) (n : Nat) (xs ys : Array Value) : List Nat → Sem Bool
  | [] => pure true
  | i :: is => do
    let a ← part e xs (i * n)
    let b ← part e ys (i * n)
    let r ← Op.equalIn d e a b
    if (!r) = true then pure false else eqArr d e n xs ys is
section
variable {P : Program} (w : World)
theorem run_equalIn_array (d : Nat) (t e : TypeId) (len n : Nat) (xs ys : Array Value) (ht : P.underlying t = some (.array len e)) (hn : ∀ w, (sizeOf e).run P w = .ok n w) :
    (Op.equalIn (d + 1) t (.agg xs) (.agg ys)).run P w = (eqArr d e n xs ys (List.range' 0 len)).run P w := by
  simp only [Op.equalIn, Sem.run_bind, run_underlying ht, Result.andThen_ok, hn]
  rw [Std.Legacy.Range.forIn_eq_forIn_range']
  simp only [Std.Legacy.Range.size, Nat.sub_zero, Nat.add_sub_cancel, Nat.div_one]
  generalize List.range' 0 len = l
  clear ht
  induction l generalizing w with
  | nil => simp [eqArr]
  | cons f fs ih =>
    simp only [List.forIn_cons, eqArr, Sem.run_bind, Sem.run_ite]
    generalize (part e xs (f * n)).run P w = r1
    cases r1 with
    | ok a w1 =>
      simp only [Result.andThen_ok]
      generalize (part e ys (f * n)).run P w1 = r2
      cases r2 with
      | ok b w2 =>
        simp only [Result.andThen_ok]
        generalize (Op.equalIn d e a b).run P w2 = r3
        cases r3 with
        | ok r w3 =>
          cases r
          · simp only [Result.andThen_ok, Bool.not_false, if_true, Sem.run_pure]
          · simp only [Result.andThen_ok, Bool.not_true, Bool.false_eq_true, if_false, Sem.run_pure]
            exact ih w3
        | halt x w3 => simp [Result.andThen]
      | halt x w2 => simp [Result.andThen]
    | halt x w1 => simp [Result.andThen]
theorem run_eqArr (d : Nat) (e : TypeId) (k' : IntKind) (he : P.underlying e = some (.int k')) (k : IntKind) (a b : List Int) (hl : a.length = b.length) (m i : Nat) (hi : i + m = a.length) :
    (eqArr (d + 1) e 1 (numsA k a) (numsA k b) (List.range' i m)).run P w = .ok (decide (a.drop i = b.drop i)) w := by
  have hagg : (isAgg e).run P w = .ok false w := by
    unfold isAgg
    rw [Sem.run_bind, run_underlying he w]
    rfl
  induction m generalizing i with
  | zero =>
    rw [List.drop_eq_nil_of_le (by omega), List.drop_eq_nil_of_le (by omega)]
    simp [eqArr]
  | succ m ih =>
    have h1 : i < a.length := by omega
    have h2 : i < b.length := by omega
    have e1 := numsA_at k a i h1
    have e2 := numsA_at k b i h2
    rw [List.range'_succ]
    simp only [eqArr, Sem.run_bind, part, hagg, Result.andThen_ok, Bool.false_eq_true, if_false, Nat.mul_one, e1, e2, Sem.run_pure, run_equalIn_int w d e k k' _ _ he, Sem.run_ite]
    rw [List.drop_eq_getElem_cons h1, List.drop_eq_getElem_cons h2]
    by_cases hq : gI a i = gI b i
    · have h3 : (gI a i == gI b i) = true := by simpa using hq
      simp only [h3, Bool.not_true, Bool.false_eq_true, if_false]
      rw [ih (i + 1) (by omega)]
      rw [gI_lt h1, gI_lt h2] at hq
      simp only [List.cons.injEq, hq, true_and]
    · have h3 : (gI a i == gI b i) = false := by simpa using hq
      simp only [h3, Bool.not_false, if_true]
      rw [gI_lt h1, gI_lt h2] at hq
      simp only [List.cons.injEq, hq, false_and, decide_false]
end
theorem run_eqKey (a b : List Int) (ha : K32 a) (hb : K32 b) (W : World) : (binOp .eql 40 (.agg (numsA .u8 a)) (.agg (numsA .u8 b))).run Try.prog W = .ok (.bool (decide (a = b))) W := by
  rw [run_eql_struct, run_equalIn_array (P := Try.prog) W 9999 40 5 32 1 _ _ (by kernel_rfl) (fun w => by kernel_rfl), run_eqArr (P := Try.prog) W 9998 5 .u8 (by kernel_rfl) .u8 a b (by rw [ha.1, hb.1]) 32 0 (by rw [ha.1])]
  simp
theorem run_neqKey (a b : List Int) (ha : K32 a) (hb : K32 b) (W : World) : (binOp .neq 40 (.agg (numsA .u8 a)) (.agg (numsA .u8 b))).run Try.prog W = .ok (.bool (!decide (a = b))) W := by
  rw [run_neq_struct, run_equalIn_array (P := Try.prog) W 9999 40 5 32 1 _ _ (by kernel_rfl) (fun w => by kernel_rfl), run_eqArr (P := Try.prog) W 9998 5 .u8 (by kernel_rfl) .u8 a b (by rw [ha.1, hb.1]) 32 0 (by rw [ha.1])]
  simp

end Go.Proofs.Yteegnbdgfedajaa
