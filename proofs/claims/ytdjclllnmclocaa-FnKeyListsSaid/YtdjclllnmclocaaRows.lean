/-
  No cell of these rows narrows 'for every input' (looked for: loops, veiled, ifaces, maps, wideKeys, modest, calm, conditions, laid).
  DERIVED. THE GIVEN ROWS OF THIS SEAT. 5 by the template 'for every input the law returns true; each argument reads behind the call as it read before'; 0 by the template 'total and deterministic' (their statements: YtdjclllnmclocaaTotals.lean).
  GIVEN WITH THE SEED: the statements are not yours to turn. If you find one false, say at which input.
  Laid BY PROGRAM, IN A SANDBOX (cutbox-rows.mjs): the forced cells as the released guide's own fill.sh prints them over the translation c5b4e33a9ab16b3c… (all of the seat's roots in one cut). By AI agents, Wed Nov 11 2026. No macro, syntax, notation, axiom, sorry.
-/
import Derived.Test.YtdjclllnmclocaaChecked
import GoSem.Claim
import GoSem.ClaimJoined
import GoSem.ClaimMapViews
import Derived.JoinedTies
import Derived.KernelRfl
namespace Go.Proofs.Ytdjclllnmclocaa
/- THE CELL 'sum', in the pinned program and in every row, IS THE sha256 OF THE DUMP (.gsa) THAT YtdjclllnmclocaaProg.lean LOADS. Nothing in Lean hashes anything: it is a label: what it is worth is what the hold of that sum in a sandbox is worth. -/
noncomputable def Try.pinned : Pinned := { name := "ytdjclllnmclocaa", sum := "c5b4e33a9ab16b3cf6968d5f00f6943ebb527231e3ab261779f604fffdf651f2", checked := Try.checked }
namespace Rows
def none {H : Type} : Left H := { results := [], args := [] }

/-- 'laws.FnHashers': WHATEVER THE INPUT: true; the input reads as it did. -/
def fnHashersSpec : ChangeSpec := { name := "fnHashers", fn := fun _ => fun
  | [d1, d2] => { results := [.lit (.bool true)], args := [d1, d2] }
  | _ => none }
def fnHashersRow : OpenClaim := { program := "ytdjclllnmclocaa", sum := "c5b4e33a9ab16b3cf6968d5f00f6943ebb527231e3ab261779f604fffdf651f2", func := "loop.example/g01174/laws.FnHashers", spec := "fnHashers", apart := false }
def FnHashersSaid : Prop := fnHashersRow.holds Try.pinned (OpenSpec.ofChange fnHashersSpec)

/-- ITS FALSE NEIGHBOUR: 'it returns false'. Refute it at one input. -/
def fnHashersWrong : ChangeSpec := { name := "fnHashers", fn := fun _ => fun
  | [d1, d2] => { results := [.lit (.bool false)], args := [d1, d2] }
  | _ => none }
def FnHashersWrongFalsely : Prop := fnHashersRow.holds Try.pinned (OpenSpec.ofChange fnHashersWrong)

/-- 'laws.FnKeys': WHATEVER THE INPUT: true; the input reads as it did. -/
def fnKeysSpec : ChangeSpec := { name := "fnKeys", fn := fun _ => fun
  | [d1, d2] => { results := [.lit (.bool true)], args := [d1, d2] }
  | _ => none }
def fnKeysRow : OpenClaim := { program := "ytdjclllnmclocaa", sum := "c5b4e33a9ab16b3cf6968d5f00f6943ebb527231e3ab261779f604fffdf651f2", func := "loop.example/g01174/laws.FnKeys", spec := "fnKeys", inPlace := ["internal/bytealg.IndexByteString"], apart := false }
def FnKeysSaid : Prop := fnKeysRow.holds Try.pinned (OpenSpec.ofChange fnKeysSpec)

/-- ITS FALSE NEIGHBOUR: 'it returns false'. Refute it at one input. -/
def fnKeysWrong : ChangeSpec := { name := "fnKeys", fn := fun _ => fun
  | [d1, d2] => { results := [.lit (.bool false)], args := [d1, d2] }
  | _ => none }
def FnKeysWrongFalsely : Prop := fnKeysRow.holds Try.pinned (OpenSpec.ofChange fnKeysWrong)

/-- 'laws.FnListProofs': WHATEVER THE INPUT: true; the input reads as it did. -/
def fnListProofsSpec : ChangeSpec := { name := "fnListProofs", fn := fun _ => fun
  | [d1, d2] => { results := [.lit (.bool true)], args := [d1, d2] }
  | _ => none }
def fnListProofsRow : OpenClaim := { program := "ytdjclllnmclocaa", sum := "c5b4e33a9ab16b3cf6968d5f00f6943ebb527231e3ab261779f604fffdf651f2", func := "loop.example/g01174/laws.FnListProofs", spec := "fnListProofs", recurses := true, apart := false }
def FnListProofsSaid : Prop := fnListProofsRow.holds Try.pinned (OpenSpec.ofChange fnListProofsSpec)

/-- ITS FALSE NEIGHBOUR: 'it returns false'. Refute it at one input. -/
def fnListProofsWrong : ChangeSpec := { name := "fnListProofs", fn := fun _ => fun
  | [d1, d2] => { results := [.lit (.bool false)], args := [d1, d2] }
  | _ => none }
def FnListProofsWrongFalsely : Prop := fnListProofsRow.holds Try.pinned (OpenSpec.ofChange fnListProofsWrong)

/-- 'laws.FnPeaks': WHATEVER THE INPUT: true; the input reads as it did. -/
def fnPeaksSpec : ChangeSpec := { name := "fnPeaks", fn := fun _ => fun
  | [d1, d2] => { results := [.lit (.bool true)], args := [d1, d2] }
  | _ => none }
def fnPeaksRow : OpenClaim := { program := "ytdjclllnmclocaa", sum := "c5b4e33a9ab16b3cf6968d5f00f6943ebb527231e3ab261779f604fffdf651f2", func := "loop.example/g01174/laws.FnPeaks", spec := "fnPeaks", recurses := true, apart := false }
def FnPeaksSaid : Prop := fnPeaksRow.holds Try.pinned (OpenSpec.ofChange fnPeaksSpec)

/-- ITS FALSE NEIGHBOUR: 'it returns false'. Refute it at one input. -/
def fnPeaksWrong : ChangeSpec := { name := "fnPeaks", fn := fun _ => fun
  | [d1, d2] => { results := [.lit (.bool false)], args := [d1, d2] }
  | _ => none }
def FnPeaksWrongFalsely : Prop := fnPeaksRow.holds Try.pinned (OpenSpec.ofChange fnPeaksWrong)

/-- 'laws.FnKeyLists': WHATEVER THE INPUT: true; the input reads as it did. -/
def fnKeyListsSpec : ChangeSpec := { name := "fnKeyLists", fn := fun _ => fun
  | [d1, d2] => { results := [.lit (.bool true)], args := [d1, d2] }
  | _ => none }
def fnKeyListsRow : OpenClaim := { program := "ytdjclllnmclocaa", sum := "c5b4e33a9ab16b3cf6968d5f00f6943ebb527231e3ab261779f604fffdf651f2", func := "loop.example/g01174/laws.FnKeyLists", spec := "fnKeyLists", inPlace := ["internal/bytealg.IndexByteString"], unfollowed := true, recurses := true, apart := false }
def FnKeyListsSaid : Prop := fnKeyListsRow.holds Try.pinned (OpenSpec.ofChange fnKeyListsSpec)

/-- ITS FALSE NEIGHBOUR: 'it returns false'. Refute it at one input. -/
def fnKeyListsWrong : ChangeSpec := { name := "fnKeyLists", fn := fun _ => fun
  | [d1, d2] => { results := [.lit (.bool false)], args := [d1, d2] }
  | _ => none }
def FnKeyListsWrongFalsely : Prop := fnKeyListsRow.holds Try.pinned (OpenSpec.ofChange fnKeyListsWrong)

/- THE SECOND FORM. 'bulk': how many values and letters a reading holds, each counted each time it is reached (what is shared counts as often as it is met; a slice's spare places count too). A statement '..UptoSaid' is the law's where the arguments, and the package variables that the reading takes, are together of bulk at most 1048576: NARROWER than '..Said'. Prove '..Said' where nothing that the law and all that it calls make is longer than what came in: it says more and counts as full. Else prove '..UptoSaid'. A law counts once. -/
mutual
def uptoBulk {H : Type} : DataW H → Nat
  | .lit (.string bytes) => bytes.length + 1
  | .lit _ => 1
  | .nil => 1
  | .ptr d => uptoBulk d + 1
  | .slice elems spare => uptoBulkAll elems + uptoBulkAll spare + 1
  | .agg parts => uptoBulkAll parts + 1
  | .iface _ d => uptoBulk d + 1
  | .map entries => uptoBulkEntries entries + 1
  | .held _ => 1
def uptoBulkAll {H : Type} : List (DataW H) → Nat
  | [] => 0
  | d :: r => uptoBulk d + uptoBulkAll r
def uptoBulkEntries {H : Type} : List (Lit × DataW H) → Nat
  | [] => 0
  | x :: r => uptoBulkEntry x + uptoBulkEntries r
def uptoBulkEntry {H : Type} : Lit × DataW H → Nat
  | (.string bytes, d) => bytes.length + uptoBulk d + 1
  | (_, d) => uptoBulk d + 1
 end
def uptoSmall : (H : Type) → List (DataW H) → Bool := fun _ ds => decide (uptoBulkAll ds ≤ 1048576)
def OpenSpec.upto (s : _root_.Go.ChangeSpec) : _root_.Go.OpenSpec := { _root_.Go.OpenSpec.ofChange s with cond := some uptoSmall }

/-- 'laws.FnHashers', WHERE WHAT IT READS IS OF BULK AT MOST 1048576: true; the input reads as it did. -/
def fnHashersUptoRow : OpenClaim := { program := "ytdjclllnmclocaa", sum := "c5b4e33a9ab16b3cf6968d5f00f6943ebb527231e3ab261779f604fffdf651f2", func := "loop.example/g01174/laws.FnHashers", spec := "fnHashers", apart := false, narrowed := true }
def FnHashersUptoSaid : Prop := fnHashersUptoRow.holds Try.pinned (OpenSpec.upto fnHashersSpec)

/-- 'laws.FnKeys', WHERE WHAT IT READS IS OF BULK AT MOST 1048576: true; the input reads as it did. -/
def fnKeysUptoRow : OpenClaim := { program := "ytdjclllnmclocaa", sum := "c5b4e33a9ab16b3cf6968d5f00f6943ebb527231e3ab261779f604fffdf651f2", func := "loop.example/g01174/laws.FnKeys", spec := "fnKeys", inPlace := ["internal/bytealg.IndexByteString"], apart := false, narrowed := true }
def FnKeysUptoSaid : Prop := fnKeysUptoRow.holds Try.pinned (OpenSpec.upto fnKeysSpec)

/-- 'laws.FnListProofs', WHERE WHAT IT READS IS OF BULK AT MOST 1048576: true; the input reads as it did. -/
def fnListProofsUptoRow : OpenClaim := { program := "ytdjclllnmclocaa", sum := "c5b4e33a9ab16b3cf6968d5f00f6943ebb527231e3ab261779f604fffdf651f2", func := "loop.example/g01174/laws.FnListProofs", spec := "fnListProofs", recurses := true, apart := false, narrowed := true }
def FnListProofsUptoSaid : Prop := fnListProofsUptoRow.holds Try.pinned (OpenSpec.upto fnListProofsSpec)

/-- 'laws.FnPeaks', WHERE WHAT IT READS IS OF BULK AT MOST 1048576: true; the input reads as it did. -/
def fnPeaksUptoRow : OpenClaim := { program := "ytdjclllnmclocaa", sum := "c5b4e33a9ab16b3cf6968d5f00f6943ebb527231e3ab261779f604fffdf651f2", func := "loop.example/g01174/laws.FnPeaks", spec := "fnPeaks", recurses := true, apart := false, narrowed := true }
def FnPeaksUptoSaid : Prop := fnPeaksUptoRow.holds Try.pinned (OpenSpec.upto fnPeaksSpec)

/-- 'laws.FnKeyLists', WHERE WHAT IT READS IS OF BULK AT MOST 1048576: true; the input reads as it did. -/
def fnKeyListsUptoRow : OpenClaim := { program := "ytdjclllnmclocaa", sum := "c5b4e33a9ab16b3cf6968d5f00f6943ebb527231e3ab261779f604fffdf651f2", func := "loop.example/g01174/laws.FnKeyLists", spec := "fnKeyLists", inPlace := ["internal/bytealg.IndexByteString"], unfollowed := true, recurses := true, apart := false, narrowed := true }
def FnKeyListsUptoSaid : Prop := fnKeyListsUptoRow.holds Try.pinned (OpenSpec.upto fnKeyListsSpec)

end Rows
end Go.Proofs.Ytdjclllnmclocaa
