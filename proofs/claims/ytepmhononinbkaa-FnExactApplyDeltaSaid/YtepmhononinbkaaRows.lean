/-
  No cell of these rows narrows 'for every input' (looked for: loops, veiled, ifaces, maps, wideKeys, modest, calm, conditions, laid).
  DERIVED. THE GIVEN ROWS OF THIS SEAT. 12 by the template 'for every input the law returns true; each argument reads behind the call as it read before'; 0 by the template 'total and deterministic' (their statements: YtepmhononinbkaaTotals.lean).
  GIVEN WITH THE SEED: the statements are not yours to turn. If you find one false, say at which input.
  Laid BY PROGRAM, IN A SANDBOX (cutbox-rows.mjs): the forced cells as the released guide's own fill.sh prints them over the translation 9ceb4f15a9b45f76… (all of the seat's roots in one cut). By AI agents, Wed Nov 11 2026. No macro, syntax, notation, axiom, sorry.
-/
import Derived.Test.YtepmhononinbkaaChecked
import GoSem.Claim
import GoSem.ClaimJoined
import GoSem.ClaimMapViews
import Derived.JoinedTies
import Derived.KernelRfl
namespace Go.Proofs.Ytepmhononinbkaa
/- THE CELL 'sum', in the pinned program and in every row, IS THE sha256 OF THE DUMP (.gsa) THAT YtepmhononinbkaaProg.lean LOADS. Nothing in Lean hashes anything: it is a label: what it is worth is what the hold of that sum in a sandbox is worth. -/
noncomputable def Try.pinned : Pinned := { name := "ytepmhononinbkaa", sum := "9ceb4f15a9b45f766ec8d1c73c0c5720161392b1c721d546b6058c939006d3d4", checked := Try.checked }
namespace Rows
def none {H : Type} : Left H := { results := [], args := [] }

/-- 'laws.FnExactValidBlob': WHATEVER THE INPUT: true; the input reads as it did. -/
def fnExactValidBlobSpec : ChangeSpec := { name := "fnExactValidBlob", fn := fun _ => fun
  | [d] => { results := [.lit (.bool true)], args := [d] }
  | _ => none }
def fnExactValidBlobRow : OpenClaim := { program := "ytepmhononinbkaa", sum := "9ceb4f15a9b45f766ec8d1c73c0c5720161392b1c721d546b6058c939006d3d4", func := "loop.example/g01174/laws.FnExactValidBlob", spec := "fnExactValidBlob", apart := false }
def FnExactValidBlobSaid : Prop := fnExactValidBlobRow.holds Try.pinned (OpenSpec.ofChange fnExactValidBlobSpec)

/-- ITS FALSE NEIGHBOUR: 'it returns false'. Refute it at one input. -/
def fnExactValidBlobWrong : ChangeSpec := { name := "fnExactValidBlob", fn := fun _ => fun
  | [d] => { results := [.lit (.bool false)], args := [d] }
  | _ => none }
def FnExactValidBlobWrongFalsely : Prop := fnExactValidBlobRow.holds Try.pinned (OpenSpec.ofChange fnExactValidBlobWrong)

/-- 'laws.FnExactSameBlob': WHATEVER THE INPUT: true; the input reads as it did. -/
def fnExactSameBlobSpec : ChangeSpec := { name := "fnExactSameBlob", fn := fun _ => fun
  | [d1, d2] => { results := [.lit (.bool true)], args := [d1, d2] }
  | _ => none }
def fnExactSameBlobRow : OpenClaim := { program := "ytepmhononinbkaa", sum := "9ceb4f15a9b45f766ec8d1c73c0c5720161392b1c721d546b6058c939006d3d4", func := "loop.example/g01174/laws.FnExactSameBlob", spec := "fnExactSameBlob", apart := false }
def FnExactSameBlobSaid : Prop := fnExactSameBlobRow.holds Try.pinned (OpenSpec.ofChange fnExactSameBlobSpec)

/-- ITS FALSE NEIGHBOUR: 'it returns false'. Refute it at one input. -/
def fnExactSameBlobWrong : ChangeSpec := { name := "fnExactSameBlob", fn := fun _ => fun
  | [d1, d2] => { results := [.lit (.bool false)], args := [d1, d2] }
  | _ => none }
def FnExactSameBlobWrongFalsely : Prop := fnExactSameBlobRow.holds Try.pinned (OpenSpec.ofChange fnExactSameBlobWrong)

/-- 'laws.FnExactSpoilPack': WHATEVER THE INPUT: true; the input reads as it did. -/
def fnExactSpoilPackSpec : ChangeSpec := { name := "fnExactSpoilPack", fn := fun _ => fun
  | [d1, d2, d3] => { results := [.lit (.bool true)], args := [d1, d2, d3] }
  | _ => none }
def fnExactSpoilPackRow : OpenClaim := { program := "ytepmhononinbkaa", sum := "9ceb4f15a9b45f766ec8d1c73c0c5720161392b1c721d546b6058c939006d3d4", func := "loop.example/g01174/laws.FnExactSpoilPack", spec := "fnExactSpoilPack", apart := false }
def FnExactSpoilPackSaid : Prop := fnExactSpoilPackRow.holds Try.pinned (OpenSpec.ofChange fnExactSpoilPackSpec)

/-- ITS FALSE NEIGHBOUR: 'it returns false'. Refute it at one input. -/
def fnExactSpoilPackWrong : ChangeSpec := { name := "fnExactSpoilPack", fn := fun _ => fun
  | [d1, d2, d3] => { results := [.lit (.bool false)], args := [d1, d2, d3] }
  | _ => none }
def FnExactSpoilPackWrongFalsely : Prop := fnExactSpoilPackRow.holds Try.pinned (OpenSpec.ofChange fnExactSpoilPackWrong)

/-- 'laws.FnExactSameCommit': WHATEVER THE INPUT: true; the input reads as it did. -/
def fnExactSameCommitSpec : ChangeSpec := { name := "fnExactSameCommit", fn := fun _ => fun
  | [d1, d2] => { results := [.lit (.bool true)], args := [d1, d2] }
  | _ => none }
def fnExactSameCommitRow : OpenClaim := { program := "ytepmhononinbkaa", sum := "9ceb4f15a9b45f766ec8d1c73c0c5720161392b1c721d546b6058c939006d3d4", func := "loop.example/g01174/laws.FnExactSameCommit", spec := "fnExactSameCommit", apart := false }
def FnExactSameCommitSaid : Prop := fnExactSameCommitRow.holds Try.pinned (OpenSpec.ofChange fnExactSameCommitSpec)

/-- ITS FALSE NEIGHBOUR: 'it returns false'. Refute it at one input. -/
def fnExactSameCommitWrong : ChangeSpec := { name := "fnExactSameCommit", fn := fun _ => fun
  | [d1, d2] => { results := [.lit (.bool false)], args := [d1, d2] }
  | _ => none }
def FnExactSameCommitWrongFalsely : Prop := fnExactSameCommitRow.holds Try.pinned (OpenSpec.ofChange fnExactSameCommitWrong)

/-- 'laws.FnExactApplyDelta': WHATEVER THE INPUT: true; the input reads as it did. -/
def fnExactApplyDeltaSpec : ChangeSpec := { name := "fnExactApplyDelta", fn := fun _ => fun
  | [d1, d2] => { results := [.lit (.bool true)], args := [d1, d2] }
  | _ => none }
def fnExactApplyDeltaRow : OpenClaim := { program := "ytepmhononinbkaa", sum := "9ceb4f15a9b45f766ec8d1c73c0c5720161392b1c721d546b6058c939006d3d4", func := "loop.example/g01174/laws.FnExactApplyDelta", spec := "fnExactApplyDelta", apart := false }
def FnExactApplyDeltaSaid : Prop := fnExactApplyDeltaRow.holds Try.pinned (OpenSpec.ofChange fnExactApplyDeltaSpec)

/-- ITS FALSE NEIGHBOUR: 'it returns false'. Refute it at one input. -/
def fnExactApplyDeltaWrong : ChangeSpec := { name := "fnExactApplyDelta", fn := fun _ => fun
  | [d1, d2] => { results := [.lit (.bool false)], args := [d1, d2] }
  | _ => none }
def FnExactApplyDeltaWrongFalsely : Prop := fnExactApplyDeltaRow.holds Try.pinned (OpenSpec.ofChange fnExactApplyDeltaWrong)

/-- 'laws.FnListProofs': WHATEVER THE INPUT: true; the input reads as it did. -/
def fnListProofsSpec : ChangeSpec := { name := "fnListProofs", fn := fun _ => fun
  | [d1, d2] => { results := [.lit (.bool true)], args := [d1, d2] }
  | _ => none }
def fnListProofsRow : OpenClaim := { program := "ytepmhononinbkaa", sum := "9ceb4f15a9b45f766ec8d1c73c0c5720161392b1c721d546b6058c939006d3d4", func := "loop.example/g01174/laws.FnListProofs", spec := "fnListProofs", recurses := true, apart := false }
def FnListProofsSaid : Prop := fnListProofsRow.holds Try.pinned (OpenSpec.ofChange fnListProofsSpec)

/-- ITS FALSE NEIGHBOUR: 'it returns false'. Refute it at one input. -/
def fnListProofsWrong : ChangeSpec := { name := "fnListProofs", fn := fun _ => fun
  | [d1, d2] => { results := [.lit (.bool false)], args := [d1, d2] }
  | _ => none }
def FnListProofsWrongFalsely : Prop := fnListProofsRow.holds Try.pinned (OpenSpec.ofChange fnListProofsWrong)

/-- 'laws.FnExactDeltaOf': WHATEVER THE INPUT: true; the input reads as it did. -/
def fnExactDeltaOfSpec : ChangeSpec := { name := "fnExactDeltaOf", fn := fun _ => fun
  | [d1, d2] => { results := [.lit (.bool true)], args := [d1, d2] }
  | _ => none }
def fnExactDeltaOfRow : OpenClaim := { program := "ytepmhononinbkaa", sum := "9ceb4f15a9b45f766ec8d1c73c0c5720161392b1c721d546b6058c939006d3d4", func := "loop.example/g01174/laws.FnExactDeltaOf", spec := "fnExactDeltaOf", unfollowed := true, recurses := true, apart := false }
def FnExactDeltaOfSaid : Prop := fnExactDeltaOfRow.holds Try.pinned (OpenSpec.ofChange fnExactDeltaOfSpec)

/-- ITS FALSE NEIGHBOUR: 'it returns false'. Refute it at one input. -/
def fnExactDeltaOfWrong : ChangeSpec := { name := "fnExactDeltaOf", fn := fun _ => fun
  | [d1, d2] => { results := [.lit (.bool false)], args := [d1, d2] }
  | _ => none }
def FnExactDeltaOfWrongFalsely : Prop := fnExactDeltaOfRow.holds Try.pinned (OpenSpec.ofChange fnExactDeltaOfWrong)

/-- 'laws.FnExactSameStore': WHATEVER THE INPUT: true; the input reads as it did. -/
def fnExactSameStoreSpec : ChangeSpec := { name := "fnExactSameStore", fn := fun _ => fun
  | [d1, d2] => { results := [.lit (.bool true)], args := [d1, d2] }
  | _ => none }
def fnExactSameStoreRow : OpenClaim := { program := "ytepmhononinbkaa", sum := "9ceb4f15a9b45f766ec8d1c73c0c5720161392b1c721d546b6058c939006d3d4", func := "loop.example/g01174/laws.FnExactSameStore", spec := "fnExactSameStore", unfollowed := true, recurses := true, apart := false }
def FnExactSameStoreSaid : Prop := fnExactSameStoreRow.holds Try.pinned (OpenSpec.ofChange fnExactSameStoreSpec)

/-- ITS FALSE NEIGHBOUR: 'it returns false'. Refute it at one input. -/
def fnExactSameStoreWrong : ChangeSpec := { name := "fnExactSameStore", fn := fun _ => fun
  | [d1, d2] => { results := [.lit (.bool false)], args := [d1, d2] }
  | _ => none }
def FnExactSameStoreWrongFalsely : Prop := fnExactSameStoreRow.holds Try.pinned (OpenSpec.ofChange fnExactSameStoreWrong)

/-- 'laws.FnExactValidCommit': WHATEVER THE INPUT: true; the input reads as it did. -/
def fnExactValidCommitSpec : ChangeSpec := { name := "fnExactValidCommit", fn := fun _ => fun
  | [d] => { results := [.lit (.bool true)], args := [d] }
  | _ => none }
def fnExactValidCommitRow : OpenClaim := { program := "ytepmhononinbkaa", sum := "9ceb4f15a9b45f766ec8d1c73c0c5720161392b1c721d546b6058c939006d3d4", func := "loop.example/g01174/laws.FnExactValidCommit", spec := "fnExactValidCommit", apart := false }
def FnExactValidCommitSaid : Prop := fnExactValidCommitRow.holds Try.pinned (OpenSpec.ofChange fnExactValidCommitSpec)

/-- ITS FALSE NEIGHBOUR: 'it returns false'. Refute it at one input. -/
def fnExactValidCommitWrong : ChangeSpec := { name := "fnExactValidCommit", fn := fun _ => fun
  | [d] => { results := [.lit (.bool false)], args := [d] }
  | _ => none }
def FnExactValidCommitWrongFalsely : Prop := fnExactValidCommitRow.holds Try.pinned (OpenSpec.ofChange fnExactValidCommitWrong)

/-- 'laws.FnExactGetEntry': WHATEVER THE INPUT: true; the input reads as it did. -/
def fnExactGetEntrySpec : ChangeSpec := { name := "fnExactGetEntry", fn := fun _ => fun
  | [d1, d2] => { results := [.lit (.bool true)], args := [d1, d2] }
  | _ => none }
def fnExactGetEntryRow : OpenClaim := { program := "ytepmhononinbkaa", sum := "9ceb4f15a9b45f766ec8d1c73c0c5720161392b1c721d546b6058c939006d3d4", func := "loop.example/g01174/laws.FnExactGetEntry", spec := "fnExactGetEntry", unfollowed := true, recurses := true, apart := false }
def FnExactGetEntrySaid : Prop := fnExactGetEntryRow.holds Try.pinned (OpenSpec.ofChange fnExactGetEntrySpec)

/-- ITS FALSE NEIGHBOUR: 'it returns false'. Refute it at one input. -/
def fnExactGetEntryWrong : ChangeSpec := { name := "fnExactGetEntry", fn := fun _ => fun
  | [d1, d2] => { results := [.lit (.bool false)], args := [d1, d2] }
  | _ => none }
def FnExactGetEntryWrongFalsely : Prop := fnExactGetEntryRow.holds Try.pinned (OpenSpec.ofChange fnExactGetEntryWrong)

/-- 'laws.FnExactRangeOfEntries': WHATEVER THE INPUT: true; the input reads as it did. -/
def fnExactRangeOfEntriesSpec : ChangeSpec := { name := "fnExactRangeOfEntries", fn := fun _ => fun
  | [d1, d2, d3] => { results := [.lit (.bool true)], args := [d1, d2, d3] }
  | _ => none }
def fnExactRangeOfEntriesRow : OpenClaim := { program := "ytepmhononinbkaa", sum := "9ceb4f15a9b45f766ec8d1c73c0c5720161392b1c721d546b6058c939006d3d4", func := "loop.example/g01174/laws.FnExactRangeOfEntries", spec := "fnExactRangeOfEntries", unfollowed := true, recurses := true, apart := false }
def FnExactRangeOfEntriesSaid : Prop := fnExactRangeOfEntriesRow.holds Try.pinned (OpenSpec.ofChange fnExactRangeOfEntriesSpec)

/-- ITS FALSE NEIGHBOUR: 'it returns false'. Refute it at one input. -/
def fnExactRangeOfEntriesWrong : ChangeSpec := { name := "fnExactRangeOfEntries", fn := fun _ => fun
  | [d1, d2, d3] => { results := [.lit (.bool false)], args := [d1, d2, d3] }
  | _ => none }
def FnExactRangeOfEntriesWrongFalsely : Prop := fnExactRangeOfEntriesRow.holds Try.pinned (OpenSpec.ofChange fnExactRangeOfEntriesWrong)

/-- 'laws.FnMapTrees': WHATEVER THE INPUT: true; the input reads as it did. -/
def fnMapTreesSpec : ChangeSpec := { name := "fnMapTrees", fn := fun _ => fun
  | [d1, d2] => { results := [.lit (.bool true)], args := [d1, d2] }
  | _ => none }
def fnMapTreesRow : OpenClaim := { program := "ytepmhononinbkaa", sum := "9ceb4f15a9b45f766ec8d1c73c0c5720161392b1c721d546b6058c939006d3d4", func := "loop.example/g01174/laws.FnMapTrees", spec := "fnMapTrees", unfollowed := true, recurses := true, apart := false }
def FnMapTreesSaid : Prop := fnMapTreesRow.holds Try.pinned (OpenSpec.ofChange fnMapTreesSpec)

/-- ITS FALSE NEIGHBOUR: 'it returns false'. Refute it at one input. -/
def fnMapTreesWrong : ChangeSpec := { name := "fnMapTrees", fn := fun _ => fun
  | [d1, d2] => { results := [.lit (.bool false)], args := [d1, d2] }
  | _ => none }
def FnMapTreesWrongFalsely : Prop := fnMapTreesRow.holds Try.pinned (OpenSpec.ofChange fnMapTreesWrong)

/- THE SECOND FORM. 'bulk': how many values and letters a reading holds, each counted each time it is reached (what is shared counts as often as it is met; a slice's spare places count too). A statement '..UptoSaid' is the law's where the arguments, and the package variables that the reading takes, are together of bulk at most 1048576: NARROWER than '..Said'. Prove '..Said' where nothing that the law and all that it calls make is longer than what came in: it says more and counts as full. Else prove '..UptoSaid'. A law counts once. -/
mutual
def uptoBulk {H : Type} : DataW H → Nat
  | .lit (.string bytes) => bytes.length + 1
  | .lit _ => 1
  | .nil => 1
  | .ptr d => uptoBulk d + 1
  | .slice elems spare => uptoBulkAll elems + uptoBulkAll spare + 1
  | .agg parts => uptoBulkAll parts + 1
  | .iface _ d => uptoBulk d + 1
  | .map entries => uptoBulkEntries entries + 1
  | .held _ => 1
def uptoBulkAll {H : Type} : List (DataW H) → Nat
  | [] => 0
  | d :: r => uptoBulk d + uptoBulkAll r
def uptoBulkEntries {H : Type} : List (Lit × DataW H) → Nat
  | [] => 0
  | x :: r => uptoBulkEntry x + uptoBulkEntries r
def uptoBulkEntry {H : Type} : Lit × DataW H → Nat
  | (.string bytes, d) => bytes.length + uptoBulk d + 1
  | (_, d) => uptoBulk d + 1
 end
def uptoSmall : (H : Type) → List (DataW H) → Bool := fun _ ds => decide (uptoBulkAll ds ≤ 1048576)
def OpenSpec.upto (s : _root_.Go.ChangeSpec) : _root_.Go.OpenSpec := { _root_.Go.OpenSpec.ofChange s with cond := some uptoSmall }

/-- 'laws.FnExactValidBlob', WHERE WHAT IT READS IS OF BULK AT MOST 1048576: true; the input reads as it did. -/
def fnExactValidBlobUptoRow : OpenClaim := { program := "ytepmhononinbkaa", sum := "9ceb4f15a9b45f766ec8d1c73c0c5720161392b1c721d546b6058c939006d3d4", func := "loop.example/g01174/laws.FnExactValidBlob", spec := "fnExactValidBlob", apart := false, narrowed := true }
def FnExactValidBlobUptoSaid : Prop := fnExactValidBlobUptoRow.holds Try.pinned (OpenSpec.upto fnExactValidBlobSpec)

/-- 'laws.FnExactSameBlob', WHERE WHAT IT READS IS OF BULK AT MOST 1048576: true; the input reads as it did. -/
def fnExactSameBlobUptoRow : OpenClaim := { program := "ytepmhononinbkaa", sum := "9ceb4f15a9b45f766ec8d1c73c0c5720161392b1c721d546b6058c939006d3d4", func := "loop.example/g01174/laws.FnExactSameBlob", spec := "fnExactSameBlob", apart := false, narrowed := true }
def FnExactSameBlobUptoSaid : Prop := fnExactSameBlobUptoRow.holds Try.pinned (OpenSpec.upto fnExactSameBlobSpec)

/-- 'laws.FnExactSpoilPack', WHERE WHAT IT READS IS OF BULK AT MOST 1048576: true; the input reads as it did. -/
def fnExactSpoilPackUptoRow : OpenClaim := { program := "ytepmhononinbkaa", sum := "9ceb4f15a9b45f766ec8d1c73c0c5720161392b1c721d546b6058c939006d3d4", func := "loop.example/g01174/laws.FnExactSpoilPack", spec := "fnExactSpoilPack", apart := false, narrowed := true }
def FnExactSpoilPackUptoSaid : Prop := fnExactSpoilPackUptoRow.holds Try.pinned (OpenSpec.upto fnExactSpoilPackSpec)

/-- 'laws.FnExactSameCommit', WHERE WHAT IT READS IS OF BULK AT MOST 1048576: true; the input reads as it did. -/
def fnExactSameCommitUptoRow : OpenClaim := { program := "ytepmhononinbkaa", sum := "9ceb4f15a9b45f766ec8d1c73c0c5720161392b1c721d546b6058c939006d3d4", func := "loop.example/g01174/laws.FnExactSameCommit", spec := "fnExactSameCommit", apart := false, narrowed := true }
def FnExactSameCommitUptoSaid : Prop := fnExactSameCommitUptoRow.holds Try.pinned (OpenSpec.upto fnExactSameCommitSpec)

/-- 'laws.FnExactApplyDelta', WHERE WHAT IT READS IS OF BULK AT MOST 1048576: true; the input reads as it did. -/
def fnExactApplyDeltaUptoRow : OpenClaim := { program := "ytepmhononinbkaa", sum := "9ceb4f15a9b45f766ec8d1c73c0c5720161392b1c721d546b6058c939006d3d4", func := "loop.example/g01174/laws.FnExactApplyDelta", spec := "fnExactApplyDelta", apart := false, narrowed := true }
def FnExactApplyDeltaUptoSaid : Prop := fnExactApplyDeltaUptoRow.holds Try.pinned (OpenSpec.upto fnExactApplyDeltaSpec)

/-- 'laws.FnListProofs', WHERE WHAT IT READS IS OF BULK AT MOST 1048576: true; the input reads as it did. -/
def fnListProofsUptoRow : OpenClaim := { program := "ytepmhononinbkaa", sum := "9ceb4f15a9b45f766ec8d1c73c0c5720161392b1c721d546b6058c939006d3d4", func := "loop.example/g01174/laws.FnListProofs", spec := "fnListProofs", recurses := true, apart := false, narrowed := true }
def FnListProofsUptoSaid : Prop := fnListProofsUptoRow.holds Try.pinned (OpenSpec.upto fnListProofsSpec)

/-- 'laws.FnExactDeltaOf', WHERE WHAT IT READS IS OF BULK AT MOST 1048576: true; the input reads as it did. -/
def fnExactDeltaOfUptoRow : OpenClaim := { program := "ytepmhononinbkaa", sum := "9ceb4f15a9b45f766ec8d1c73c0c5720161392b1c721d546b6058c939006d3d4", func := "loop.example/g01174/laws.FnExactDeltaOf", spec := "fnExactDeltaOf", unfollowed := true, recurses := true, apart := false, narrowed := true }
def FnExactDeltaOfUptoSaid : Prop := fnExactDeltaOfUptoRow.holds Try.pinned (OpenSpec.upto fnExactDeltaOfSpec)

/-- 'laws.FnExactSameStore', WHERE WHAT IT READS IS OF BULK AT MOST 1048576: true; the input reads as it did. -/
def fnExactSameStoreUptoRow : OpenClaim := { program := "ytepmhononinbkaa", sum := "9ceb4f15a9b45f766ec8d1c73c0c5720161392b1c721d546b6058c939006d3d4", func := "loop.example/g01174/laws.FnExactSameStore", spec := "fnExactSameStore", unfollowed := true, recurses := true, apart := false, narrowed := true }
def FnExactSameStoreUptoSaid : Prop := fnExactSameStoreUptoRow.holds Try.pinned (OpenSpec.upto fnExactSameStoreSpec)

/-- 'laws.FnExactValidCommit', WHERE WHAT IT READS IS OF BULK AT MOST 1048576: true; the input reads as it did. -/
def fnExactValidCommitUptoRow : OpenClaim := { program := "ytepmhononinbkaa", sum := "9ceb4f15a9b45f766ec8d1c73c0c5720161392b1c721d546b6058c939006d3d4", func := "loop.example/g01174/laws.FnExactValidCommit", spec := "fnExactValidCommit", apart := false, narrowed := true }
def FnExactValidCommitUptoSaid : Prop := fnExactValidCommitUptoRow.holds Try.pinned (OpenSpec.upto fnExactValidCommitSpec)

/-- 'laws.FnExactGetEntry', WHERE WHAT IT READS IS OF BULK AT MOST 1048576: true; the input reads as it did. -/
def fnExactGetEntryUptoRow : OpenClaim := { program := "ytepmhononinbkaa", sum := "9ceb4f15a9b45f766ec8d1c73c0c5720161392b1c721d546b6058c939006d3d4", func := "loop.example/g01174/laws.FnExactGetEntry", spec := "fnExactGetEntry", unfollowed := true, recurses := true, apart := false, narrowed := true }
def FnExactGetEntryUptoSaid : Prop := fnExactGetEntryUptoRow.holds Try.pinned (OpenSpec.upto fnExactGetEntrySpec)

/-- 'laws.FnExactRangeOfEntries', WHERE WHAT IT READS IS OF BULK AT MOST 1048576: true; the input reads as it did. -/
def fnExactRangeOfEntriesUptoRow : OpenClaim := { program := "ytepmhononinbkaa", sum := "9ceb4f15a9b45f766ec8d1c73c0c5720161392b1c721d546b6058c939006d3d4", func := "loop.example/g01174/laws.FnExactRangeOfEntries", spec := "fnExactRangeOfEntries", unfollowed := true, recurses := true, apart := false, narrowed := true }
def FnExactRangeOfEntriesUptoSaid : Prop := fnExactRangeOfEntriesUptoRow.holds Try.pinned (OpenSpec.upto fnExactRangeOfEntriesSpec)

/-- 'laws.FnMapTrees', WHERE WHAT IT READS IS OF BULK AT MOST 1048576: true; the input reads as it did. -/
def fnMapTreesUptoRow : OpenClaim := { program := "ytepmhononinbkaa", sum := "9ceb4f15a9b45f766ec8d1c73c0c5720161392b1c721d546b6058c939006d3d4", func := "loop.example/g01174/laws.FnMapTrees", spec := "fnMapTrees", unfollowed := true, recurses := true, apart := false, narrowed := true }
def FnMapTreesUptoSaid : Prop := fnMapTreesUptoRow.holds Try.pinned (OpenSpec.upto fnMapTreesSpec)

end Rows
end Go.Proofs.Ytepmhononinbkaa
