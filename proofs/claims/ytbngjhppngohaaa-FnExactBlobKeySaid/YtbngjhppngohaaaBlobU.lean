/- Blobs, in the words of the laws' walks. No condition. -/
import Derived.Test.YtbngjhppngohaaaStrct
import Derived.Test.YtbngjhppngohaaaBlobKeyF
namespace Go.Proofs.Ytbngjhppngohaaa
open Go.RowKit
set_option linter.unusedVariables false
set_option linter.unusedSimpArgs false

theorem aggBlobL : Agg Try.prog 54 2 := Agg.mkS (fs := _) Try.underlying54 (by kernel_rfl)
theorem aggBlobI : Agg Try.prog 57 2 := Agg.mkS (fs := _) Try.underlying57 (by kernel_rfl)
/-- the cells of a blob -/
def RBlob (w : World) (S : Nat → Prop) (cs : Array Value) (x : Int × List Int) : Prop := ∃ v, cs = #[.int .u8 x.1, v] ∧ RdL tByte w S v x.2 ∧ 0 ≤ x.1 ∧ x.1 ≤ 255
section
variable {w w' : World} {S : Nat → Prop} {cs : Array Value} {x : Int × List Int}
theorem RBlob.ext (h : RBlob w S cs x) (e : Ext w w') : RBlob w' S cs x := by
  obtain ⟨v, h1, h2, h3⟩ := h
  exact ⟨v, h1, h2.ext (by decide) e, h3⟩
theorem RBlob.st (h : RBlob w S cs x) : St 2 cs := by
  obtain ⟨v, rfl, ⟨A, cap, rfl, _⟩, _⟩ := h
  exact ⟨rfl, fun u hu => by simp at hu; rcases hu with rfl | rfl <;> rfl⟩
end
set_option maxHeartbeats 1000000 in
set_option maxRecDepth 100000 in
theorem szBlob_u (cs : Array Value) (x : Int × List Int) (l : Int) (w : World) (S : Nat → Prop) (h : RBlob w S cs x) (h0 : -1 ≤ l) (h1 : l ≤ 1048576) :
    Calls Try.prog 37 #[.agg cs, .int .i64 l] w fun e w' => e = .returned (.int .i64 (if l - x.2.length < 0 then -1 else l - x.2.length)) ∧ Ext w w' := by
  obtain ⟨v, rfl, ⟨A, cap, rfl, hc, hl, _⟩, _⟩ := h
  exact szBlob_any x.1 A x.2.length cap l (by omega) h0 h1 w
set_option maxHeartbeats 1000000 in
set_option maxRecDepth 100000 in
theorem toBlob_u (cs : Array Value) (x : Int × List Int) (w : World) (S : Nat → Prop) (h : RBlob w S cs x) :
    Calls Try.prog 39 #[.agg cs] w fun e w' => ∃ cs', e = .returned (.agg cs') ∧ RBlob w' (fun g => w.heap.size ≤ g ∧ g < w'.heap.size) cs' x ∧ Ext w w' := by
  obtain ⟨v, rfl, hr, h3⟩ := h
  refine (toBlob_any x.1 v x.2 w S hr).mono ?_
  rintro e w' ⟨v', rfl, ho, hx⟩
  exact ⟨_, rfl, ⟨v', rfl, ho.rd, h3⟩, hx⟩
set_option maxHeartbeats 1000000 in
set_option maxRecDepth 100000 in
theorem eqBlob_u (cs cs' : Array Value) (x : Int × List Int) (w : World) (S S' : Nat → Prop) (h : RBlob w S cs x) (h' : RBlob w S' cs' x) :
    Calls Try.prog 41 #[.agg cs, .agg cs'] w fun e w' => e = .returned (.bool true) ∧ Ext w w' := by
  obtain ⟨v, rfl, hr, h3⟩ := h
  obtain ⟨v', rfl, hr', h3'⟩ := h'
  refine (eqBlob_any x.1 x.1 v v' x.2 x.2 w S S' hr hr').mono ?_
  rintro e w' ⟨rfl, hx⟩
  exact ⟨by simp, hx⟩
theorem specBlobKey_u (cs : Array Value) (x : Int × List Int) (w : World) (S : Nat → Prop) (h : RBlob w S cs x) :
    Calls Try.prog 38 #[.agg cs] w fun e w' => e = .returned (.tuple #[.agg (numsA .u8 (blobKR x.1 x.2).1), .int .i64 (blobKR x.1 x.2).2]) ∧ Ext w w' := by
  obtain ⟨v, rfl, hr, h3⟩ := h
  exact specBlobKey_any x.1 h3 v x.2 w S hr
theorem implBlobKey_u (cs : Array Value) (x : Int × List Int) (w : World) (S : Nat → Prop) (h : RBlob w S cs x) :
    Calls Try.prog 40 #[.agg cs] w fun e w' => e = .returned (.tuple #[.agg (numsA .u8 (blobKR x.1 x.2).1), .int .i64 (blobKR x.1 x.2).2]) ∧ Ext w w' := by
  obtain ⟨v, rfl, hr, h3⟩ := h
  exact implBlobKey_any x.1 h3 v x.2 w S hr

end Go.Proofs.Ytbngjhppngohaaa
