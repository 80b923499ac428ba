/- Texts and their bytes. No condition. -/
import Derived.Test.YtikpakhccmdmcaaLib
import Derived.Lib.ConvBytes
import Derived.Laws.BytesArg
namespace Go.Proofs.Ytikpakhccmdmcaa
open Go.RowKit
set_option linter.unusedVariables false
set_option linter.unusedSimpArgs false

/-- the bytes of a text -/
@[irreducible] def strL (s : ByteArray) : List Int := s.data.toList.map fun b => (b.toNat : Int)
theorem strL_length (s : ByteArray) : (strL s).length = s.size := by unfold strL; simp
theorem strL_ok (s : ByteArray) : B8 (strL s) := by
  intro x hx
  unfold strL at hx
  obtain ⟨b, _, rfl⟩ := List.mem_map.1 hx
  have := b.toNat_lt
  omega
theorem strL_inj {s t : ByteArray} (h : strL s = strL t) : s = t := by
  unfold strL at h
  apply ByteArray.ext
  apply Array.toList_inj.1
  exact (List.map_inj_right (fun a b h => UInt8.toNat_inj.1 (Int.ofNat.inj h))).1 h
theorem strL_at (s : ByteArray) (i : Nat) (h : i < s.size) : gI (strL s) i = (s.data.toList.getD i 0).toNat := by
  rw [gI_lt (by rw [strL_length]; exact h)]
  unfold strL
  simp [List.getD, h]
theorem bytesWorld_ext (w : World) (e : TypeId) (s : ByteArray) : Ext w (Lib.bytesWorld w e s) :=
  ⟨rfl, rfl, rfl, by rw [Lib.bytesWorld_size]; omega, fun i hi => Lib.bytesWorld_at_old w e s i hi⟩
theorem bytesWorld_rd (w : World) (e : TypeId) (s : ByteArray) (hl : s.size ≤ 140737488351232) : RdL tByte (Lib.bytesWorld w e s) (fun g => w.heap.size ≤ g ∧ g < (Lib.bytesWorld w e s).heap.size) (.slice (some ⟨w.heap.size, 0, none⟩) s.size (grownCap w s.size 0 e)) (strL s) := by
  have hn := strL_length s
  refine ⟨_, _, by rw [hn], ?_, by omega, ⟨?_, fun _ => ⟨_, 0, rfl, ⟨Nat.le_refl _, by rw [Lib.bytesWorld_size]; omega⟩, fun j u hu => ?_⟩⟩, fun x hx => strL_ok s x hx⟩
  · rw [hn]; exact grownCap_ge w s.size 0 e
  · rw [flat_bytes, nums_length]; exact (Nat.mul_one _).symm
  · rw [flat_bytes] at hu
    have hj : j < s.size := by
      have := (List.getElem?_eq_some_iff.1 hu).1
      rwa [nums_length, hn] at this
    rw [nums_at _ _ _ (by rw [hn]; exact hj)] at hu
    rw [Nat.zero_add, Lib.bytesWorld_cell w e s j hj, ← hu, strL_at s j hj]
/-- the bytes of a text, in new memory -/
theorem wpl_conv {P : Program} {ops : Array Oper} {rest : List Oper} {o : Oper} {a : Act} {w : World} {Q : Exit → Act → World → Prop} {src dst e : TypeId} {s : ByteArray}
    (hs : P.underlying src = some .string) (hd : P.underlying dst = some (.slice e)) (he : P.underlying e = some (.int .u8)) (hgd : o.guard = none) (x : Operand) (ho : o.op = .convert src dst x) (hx : a.eval x = .string s) (hl : s.size ≤ 140737488351232)
    (h : ∀ A c w', RdL tByte w' (fun g => w.heap.size ≤ g ∧ g < w'.heap.size) (.slice A s.size c) (strL s) → Ext w w' → wpList P ops Q rest (a.put o.dst (.slice A s.size c)) w') : wpList P ops Q (o :: rest) a w := by
  refine wpList_plain hgd fun K hK => ?_
  unfold Oper.wp execOp
  simp only [ho, hx, Sem.run_bind, Sem.run_pure, Result.andThen_ok, Lib.run_convert_string_bytes w src dst e s hs hd he]
  exact hK _ _ (h _ _ _ (bytesWorld_rd w e s hl) (bytesWorld_ext w e s))

end Go.Proofs.Ytikpakhccmdmcaa
