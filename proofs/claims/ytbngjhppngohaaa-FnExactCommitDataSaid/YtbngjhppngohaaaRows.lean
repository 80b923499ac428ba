/-
  No cell of these rows narrows 'for every input' (looked for: loops, veiled, ifaces, maps, wideKeys, modest, calm, conditions, laid).
  DERIVED. THE GIVEN ROWS OF THIS SEAT. 10 by the template 'for every input the law returns true; each argument reads behind the call as it read before'; 0 by the template 'total and deterministic' (their statements: YtbngjhppngohaaaTotals.lean).
  GIVEN WITH THE SEED: the statements are not yours to turn. If you find one false, say at which input.
  Laid BY PROGRAM, IN A SANDBOX (cutbox-rows.mjs): the forced cells as the released guide's own fill.sh prints them over the translation 922b5e46c50b404f… (all of the seat's roots in one cut). By AI agents, Wed Nov 11 2026. No macro, syntax, notation, axiom, sorry.
-/
import Derived.Test.YtbngjhppngohaaaChecked
import GoSem.Claim
import GoSem.ClaimJoined
import GoSem.ClaimMapViews
import Derived.JoinedTies
import Derived.KernelRfl
namespace Go.Proofs.Ytbngjhppngohaaa
/- THE CELL 'sum', in the pinned program and in every row, IS THE sha256 OF THE DUMP (.gsa) THAT YtbngjhppngohaaaProg.lean LOADS. Nothing in Lean hashes anything: it is a label: what it is worth is what the hold of that sum in a sandbox is worth. -/
noncomputable def Try.pinned : Pinned := { name := "ytbngjhppngohaaa", sum := "922b5e46c50b404fb31b92ad251fe30376cefff9b1182bbf746f7b1f3b072db0", checked := Try.checked }
namespace Rows
def none {H : Type} : Left H := { results := [], args := [] }

/-- 'laws.FnExactSameCommit': WHATEVER THE INPUT: true; the input reads as it did. -/
def fnExactSameCommitSpec : ChangeSpec := { name := "fnExactSameCommit", fn := fun _ => fun
  | [d1, d2] => { results := [.lit (.bool true)], args := [d1, d2] }
  | _ => none }
def fnExactSameCommitRow : OpenClaim := { program := "ytbngjhppngohaaa", sum := "922b5e46c50b404fb31b92ad251fe30376cefff9b1182bbf746f7b1f3b072db0", func := "loop.example/g01174/laws.FnExactSameCommit", spec := "fnExactSameCommit", apart := false }
def FnExactSameCommitSaid : Prop := fnExactSameCommitRow.holds Try.pinned (OpenSpec.ofChange fnExactSameCommitSpec)

/-- ITS FALSE NEIGHBOUR: 'it returns false'. Refute it at one input. -/
def fnExactSameCommitWrong : ChangeSpec := { name := "fnExactSameCommit", fn := fun _ => fun
  | [d1, d2] => { results := [.lit (.bool false)], args := [d1, d2] }
  | _ => none }
def FnExactSameCommitWrongFalsely : Prop := fnExactSameCommitRow.holds Try.pinned (OpenSpec.ofChange fnExactSameCommitWrong)

/-- 'laws.FnExactValidCommit': WHATEVER THE INPUT: true; the input reads as it did. -/
def fnExactValidCommitSpec : ChangeSpec := { name := "fnExactValidCommit", fn := fun _ => fun
  | [d] => { results := [.lit (.bool true)], args := [d] }
  | _ => none }
def fnExactValidCommitRow : OpenClaim := { program := "ytbngjhppngohaaa", sum := "922b5e46c50b404fb31b92ad251fe30376cefff9b1182bbf746f7b1f3b072db0", func := "loop.example/g01174/laws.FnExactValidCommit", spec := "fnExactValidCommit", apart := false }
def FnExactValidCommitSaid : Prop := fnExactValidCommitRow.holds Try.pinned (OpenSpec.ofChange fnExactValidCommitSpec)

/-- ITS FALSE NEIGHBOUR: 'it returns false'. Refute it at one input. -/
def fnExactValidCommitWrong : ChangeSpec := { name := "fnExactValidCommit", fn := fun _ => fun
  | [d] => { results := [.lit (.bool false)], args := [d] }
  | _ => none }
def FnExactValidCommitWrongFalsely : Prop := fnExactValidCommitRow.holds Try.pinned (OpenSpec.ofChange fnExactValidCommitWrong)

/-- 'laws.FnExactEmptyMapKey': WHATEVER THE INPUT: true; the input reads as it did. -/
def fnExactEmptyMapKeySpec : ChangeSpec := { name := "fnExactEmptyMapKey", fn := fun _ => fun
  | [] => { results := [.lit (.bool true)], args := [] }
  | _ => none }
def fnExactEmptyMapKeyRow : OpenClaim := { program := "ytbngjhppngohaaa", sum := "922b5e46c50b404fb31b92ad251fe30376cefff9b1182bbf746f7b1f3b072db0", func := "loop.example/g01174/laws.FnExactEmptyMapKey", spec := "fnExactEmptyMapKey", apart := false }
def FnExactEmptyMapKeySaid : Prop := fnExactEmptyMapKeyRow.holds Try.pinned (OpenSpec.ofChange fnExactEmptyMapKeySpec)

/-- ITS FALSE NEIGHBOUR: 'it returns false'. Refute it at one input. -/
def fnExactEmptyMapKeyWrong : ChangeSpec := { name := "fnExactEmptyMapKey", fn := fun _ => fun
  | [] => { results := [.lit (.bool false)], args := [] }
  | _ => none }
def FnExactEmptyMapKeyWrongFalsely : Prop := fnExactEmptyMapKeyRow.holds Try.pinned (OpenSpec.ofChange fnExactEmptyMapKeyWrong)

/-- 'laws.FnExactPriorityOf': WHATEVER THE INPUT: true; the input reads as it did. -/
def fnExactPriorityOfSpec : ChangeSpec := { name := "fnExactPriorityOf", fn := fun _ => fun
  | [d] => { results := [.lit (.bool true)], args := [d] }
  | _ => none }
def fnExactPriorityOfRow : OpenClaim := { program := "ytbngjhppngohaaa", sum := "922b5e46c50b404fb31b92ad251fe30376cefff9b1182bbf746f7b1f3b072db0", func := "loop.example/g01174/laws.FnExactPriorityOf", spec := "fnExactPriorityOf", apart := false }
def FnExactPriorityOfSaid : Prop := fnExactPriorityOfRow.holds Try.pinned (OpenSpec.ofChange fnExactPriorityOfSpec)

/-- ITS FALSE NEIGHBOUR: 'it returns false'. Refute it at one input. -/
def fnExactPriorityOfWrong : ChangeSpec := { name := "fnExactPriorityOf", fn := fun _ => fun
  | [d] => { results := [.lit (.bool false)], args := [d] }
  | _ => none }
def FnExactPriorityOfWrongFalsely : Prop := fnExactPriorityOfRow.holds Try.pinned (OpenSpec.ofChange fnExactPriorityOfWrong)

/-- 'laws.FnExactReadCommit': WHATEVER THE INPUT: true; the input reads as it did. -/
def fnExactReadCommitSpec : ChangeSpec := { name := "fnExactReadCommit", fn := fun _ => fun
  | [d] => { results := [.lit (.bool true)], args := [d] }
  | _ => none }
def fnExactReadCommitRow : OpenClaim := { program := "ytbngjhppngohaaa", sum := "922b5e46c50b404fb31b92ad251fe30376cefff9b1182bbf746f7b1f3b072db0", func := "loop.example/g01174/laws.FnExactReadCommit", spec := "fnExactReadCommit", apart := false }
def FnExactReadCommitSaid : Prop := fnExactReadCommitRow.holds Try.pinned (OpenSpec.ofChange fnExactReadCommitSpec)

/-- ITS FALSE NEIGHBOUR: 'it returns false'. Refute it at one input. -/
def fnExactReadCommitWrong : ChangeSpec := { name := "fnExactReadCommit", fn := fun _ => fun
  | [d] => { results := [.lit (.bool false)], args := [d] }
  | _ => none }
def FnExactReadCommitWrongFalsely : Prop := fnExactReadCommitRow.holds Try.pinned (OpenSpec.ofChange fnExactReadCommitWrong)

/-- 'laws.FnExactKeyOfPack': WHATEVER THE INPUT: true; the input reads as it did. -/
def fnExactKeyOfPackSpec : ChangeSpec := { name := "fnExactKeyOfPack", fn := fun _ => fun
  | [d] => { results := [.lit (.bool true)], args := [d] }
  | _ => none }
def fnExactKeyOfPackRow : OpenClaim := { program := "ytbngjhppngohaaa", sum := "922b5e46c50b404fb31b92ad251fe30376cefff9b1182bbf746f7b1f3b072db0", func := "loop.example/g01174/laws.FnExactKeyOfPack", spec := "fnExactKeyOfPack", apart := false }
def FnExactKeyOfPackSaid : Prop := fnExactKeyOfPackRow.holds Try.pinned (OpenSpec.ofChange fnExactKeyOfPackSpec)

/-- ITS FALSE NEIGHBOUR: 'it returns false'. Refute it at one input. -/
def fnExactKeyOfPackWrong : ChangeSpec := { name := "fnExactKeyOfPack", fn := fun _ => fun
  | [d] => { results := [.lit (.bool false)], args := [d] }
  | _ => none }
def FnExactKeyOfPackWrongFalsely : Prop := fnExactKeyOfPackRow.holds Try.pinned (OpenSpec.ofChange fnExactKeyOfPackWrong)

/-- 'laws.FnExactCommitData': WHATEVER THE INPUT: true; the input reads as it did. -/
def fnExactCommitDataSpec : ChangeSpec := { name := "fnExactCommitData", fn := fun _ => fun
  | [d] => { results := [.lit (.bool true)], args := [d] }
  | _ => none }
def fnExactCommitDataRow : OpenClaim := { program := "ytbngjhppngohaaa", sum := "922b5e46c50b404fb31b92ad251fe30376cefff9b1182bbf746f7b1f3b072db0", func := "loop.example/g01174/laws.FnExactCommitData", spec := "fnExactCommitData", apart := false }
def FnExactCommitDataSaid : Prop := fnExactCommitDataRow.holds Try.pinned (OpenSpec.ofChange fnExactCommitDataSpec)

/-- ITS FALSE NEIGHBOUR: 'it returns false'. Refute it at one input. -/
def fnExactCommitDataWrong : ChangeSpec := { name := "fnExactCommitData", fn := fun _ => fun
  | [d] => { results := [.lit (.bool false)], args := [d] }
  | _ => none }
def FnExactCommitDataWrongFalsely : Prop := fnExactCommitDataRow.holds Try.pinned (OpenSpec.ofChange fnExactCommitDataWrong)

/-- 'laws.FnExactBlobKey': WHATEVER THE INPUT: true; the input reads as it did. -/
def fnExactBlobKeySpec : ChangeSpec := { name := "fnExactBlobKey", fn := fun _ => fun
  | [d] => { results := [.lit (.bool true)], args := [d] }
  | _ => none }
def fnExactBlobKeyRow : OpenClaim := { program := "ytbngjhppngohaaa", sum := "922b5e46c50b404fb31b92ad251fe30376cefff9b1182bbf746f7b1f3b072db0", func := "loop.example/g01174/laws.FnExactBlobKey", spec := "fnExactBlobKey", apart := false }
def FnExactBlobKeySaid : Prop := fnExactBlobKeyRow.holds Try.pinned (OpenSpec.ofChange fnExactBlobKeySpec)

/-- ITS FALSE NEIGHBOUR: 'it returns false'. Refute it at one input. -/
def fnExactBlobKeyWrong : ChangeSpec := { name := "fnExactBlobKey", fn := fun _ => fun
  | [d] => { results := [.lit (.bool false)], args := [d] }
  | _ => none }
def FnExactBlobKeyWrongFalsely : Prop := fnExactBlobKeyRow.holds Try.pinned (OpenSpec.ofChange fnExactBlobKeyWrong)

/-- 'laws.FnExactMapNodeKey': WHATEVER THE INPUT: true; the input reads as it did. -/
def fnExactMapNodeKeySpec : ChangeSpec := { name := "fnExactMapNodeKey", fn := fun _ => fun
  | [d] => { results := [.lit (.bool true)], args := [d] }
  | _ => none }
def fnExactMapNodeKeyRow : OpenClaim := { program := "ytbngjhppngohaaa", sum := "922b5e46c50b404fb31b92ad251fe30376cefff9b1182bbf746f7b1f3b072db0", func := "loop.example/g01174/laws.FnExactMapNodeKey", spec := "fnExactMapNodeKey", apart := false }
def FnExactMapNodeKeySaid : Prop := fnExactMapNodeKeyRow.holds Try.pinned (OpenSpec.ofChange fnExactMapNodeKeySpec)

/-- ITS FALSE NEIGHBOUR: 'it returns false'. Refute it at one input. -/
def fnExactMapNodeKeyWrong : ChangeSpec := { name := "fnExactMapNodeKey", fn := fun _ => fun
  | [d] => { results := [.lit (.bool false)], args := [d] }
  | _ => none }
def FnExactMapNodeKeyWrongFalsely : Prop := fnExactMapNodeKeyRow.holds Try.pinned (OpenSpec.ofChange fnExactMapNodeKeyWrong)

/-- 'laws.FnExactCommitKey': WHATEVER THE INPUT: true; the input reads as it did. -/
def fnExactCommitKeySpec : ChangeSpec := { name := "fnExactCommitKey", fn := fun _ => fun
  | [d] => { results := [.lit (.bool true)], args := [d] }
  | _ => none }
def fnExactCommitKeyRow : OpenClaim := { program := "ytbngjhppngohaaa", sum := "922b5e46c50b404fb31b92ad251fe30376cefff9b1182bbf746f7b1f3b072db0", func := "loop.example/g01174/laws.FnExactCommitKey", spec := "fnExactCommitKey", apart := false }
def FnExactCommitKeySaid : Prop := fnExactCommitKeyRow.holds Try.pinned (OpenSpec.ofChange fnExactCommitKeySpec)

/-- ITS FALSE NEIGHBOUR: 'it returns false'. Refute it at one input. -/
def fnExactCommitKeyWrong : ChangeSpec := { name := "fnExactCommitKey", fn := fun _ => fun
  | [d] => { results := [.lit (.bool false)], args := [d] }
  | _ => none }
def FnExactCommitKeyWrongFalsely : Prop := fnExactCommitKeyRow.holds Try.pinned (OpenSpec.ofChange fnExactCommitKeyWrong)

/- THE SECOND FORM. 'bulk': how many values and letters a reading holds, each counted each time it is reached (what is shared counts as often as it is met; a slice's spare places count too). A statement '..UptoSaid' is the law's where the arguments, and the package variables that the reading takes, are together of bulk at most 1048576: NARROWER than '..Said'. Prove '..Said' where nothing that the law and all that it calls make is longer than what came in: it says more and counts as full. Else prove '..UptoSaid'. A law counts once. -/
mutual
def uptoBulk {H : Type} : DataW H → Nat
  | .lit (.string bytes) => bytes.length + 1
  | .lit _ => 1
  | .nil => 1
  | .ptr d => uptoBulk d + 1
  | .slice elems spare => uptoBulkAll elems + uptoBulkAll spare + 1
  | .agg parts => uptoBulkAll parts + 1
  | .iface _ d => uptoBulk d + 1
  | .map entries => uptoBulkEntries entries + 1
  | .held _ => 1
def uptoBulkAll {H : Type} : List (DataW H) → Nat
  | [] => 0
  | d :: r => uptoBulk d + uptoBulkAll r
def uptoBulkEntries {H : Type} : List (Lit × DataW H) → Nat
  | [] => 0
  | x :: r => uptoBulkEntry x + uptoBulkEntries r
def uptoBulkEntry {H : Type} : Lit × DataW H → Nat
  | (.string bytes, d) => bytes.length + uptoBulk d + 1
  | (_, d) => uptoBulk d + 1
 end
def uptoSmall : (H : Type) → List (DataW H) → Bool := fun _ ds => decide (uptoBulkAll ds ≤ 1048576)
def OpenSpec.upto (s : _root_.Go.ChangeSpec) : _root_.Go.OpenSpec := { _root_.Go.OpenSpec.ofChange s with cond := some uptoSmall }

/-- 'laws.FnExactSameCommit', WHERE WHAT IT READS IS OF BULK AT MOST 1048576: true; the input reads as it did. -/
def fnExactSameCommitUptoRow : OpenClaim := { program := "ytbngjhppngohaaa", sum := "922b5e46c50b404fb31b92ad251fe30376cefff9b1182bbf746f7b1f3b072db0", func := "loop.example/g01174/laws.FnExactSameCommit", spec := "fnExactSameCommit", apart := false, narrowed := true }
def FnExactSameCommitUptoSaid : Prop := fnExactSameCommitUptoRow.holds Try.pinned (OpenSpec.upto fnExactSameCommitSpec)

/-- 'laws.FnExactValidCommit', WHERE WHAT IT READS IS OF BULK AT MOST 1048576: true; the input reads as it did. -/
def fnExactValidCommitUptoRow : OpenClaim := { program := "ytbngjhppngohaaa", sum := "922b5e46c50b404fb31b92ad251fe30376cefff9b1182bbf746f7b1f3b072db0", func := "loop.example/g01174/laws.FnExactValidCommit", spec := "fnExactValidCommit", apart := false, narrowed := true }
def FnExactValidCommitUptoSaid : Prop := fnExactValidCommitUptoRow.holds Try.pinned (OpenSpec.upto fnExactValidCommitSpec)

/-- 'laws.FnExactEmptyMapKey', WHERE WHAT IT READS IS OF BULK AT MOST 1048576: true; the input reads as it did. -/
def fnExactEmptyMapKeyUptoRow : OpenClaim := { program := "ytbngjhppngohaaa", sum := "922b5e46c50b404fb31b92ad251fe30376cefff9b1182bbf746f7b1f3b072db0", func := "loop.example/g01174/laws.FnExactEmptyMapKey", spec := "fnExactEmptyMapKey", apart := false, narrowed := true }
def FnExactEmptyMapKeyUptoSaid : Prop := fnExactEmptyMapKeyUptoRow.holds Try.pinned (OpenSpec.upto fnExactEmptyMapKeySpec)

/-- 'laws.FnExactPriorityOf', WHERE WHAT IT READS IS OF BULK AT MOST 1048576: true; the input reads as it did. -/
def fnExactPriorityOfUptoRow : OpenClaim := { program := "ytbngjhppngohaaa", sum := "922b5e46c50b404fb31b92ad251fe30376cefff9b1182bbf746f7b1f3b072db0", func := "loop.example/g01174/laws.FnExactPriorityOf", spec := "fnExactPriorityOf", apart := false, narrowed := true }
def FnExactPriorityOfUptoSaid : Prop := fnExactPriorityOfUptoRow.holds Try.pinned (OpenSpec.upto fnExactPriorityOfSpec)

/-- 'laws.FnExactReadCommit', WHERE WHAT IT READS IS OF BULK AT MOST 1048576: true; the input reads as it did. -/
def fnExactReadCommitUptoRow : OpenClaim := { program := "ytbngjhppngohaaa", sum := "922b5e46c50b404fb31b92ad251fe30376cefff9b1182bbf746f7b1f3b072db0", func := "loop.example/g01174/laws.FnExactReadCommit", spec := "fnExactReadCommit", apart := false, narrowed := true }
def FnExactReadCommitUptoSaid : Prop := fnExactReadCommitUptoRow.holds Try.pinned (OpenSpec.upto fnExactReadCommitSpec)

/-- 'laws.FnExactKeyOfPack', WHERE WHAT IT READS IS OF BULK AT MOST 1048576: true; the input reads as it did. -/
def fnExactKeyOfPackUptoRow : OpenClaim := { program := "ytbngjhppngohaaa", sum := "922b5e46c50b404fb31b92ad251fe30376cefff9b1182bbf746f7b1f3b072db0", func := "loop.example/g01174/laws.FnExactKeyOfPack", spec := "fnExactKeyOfPack", apart := false, narrowed := true }
def FnExactKeyOfPackUptoSaid : Prop := fnExactKeyOfPackUptoRow.holds Try.pinned (OpenSpec.upto fnExactKeyOfPackSpec)

/-- 'laws.FnExactCommitData', WHERE WHAT IT READS IS OF BULK AT MOST 1048576: true; the input reads as it did. -/
def fnExactCommitDataUptoRow : OpenClaim := { program := "ytbngjhppngohaaa", sum := "922b5e46c50b404fb31b92ad251fe30376cefff9b1182bbf746f7b1f3b072db0", func := "loop.example/g01174/laws.FnExactCommitData", spec := "fnExactCommitData", apart := false, narrowed := true }
def FnExactCommitDataUptoSaid : Prop := fnExactCommitDataUptoRow.holds Try.pinned (OpenSpec.upto fnExactCommitDataSpec)

/-- 'laws.FnExactBlobKey', WHERE WHAT IT READS IS OF BULK AT MOST 1048576: true; the input reads as it did. -/
def fnExactBlobKeyUptoRow : OpenClaim := { program := "ytbngjhppngohaaa", sum := "922b5e46c50b404fb31b92ad251fe30376cefff9b1182bbf746f7b1f3b072db0", func := "loop.example/g01174/laws.FnExactBlobKey", spec := "fnExactBlobKey", apart := false, narrowed := true }
def FnExactBlobKeyUptoSaid : Prop := fnExactBlobKeyUptoRow.holds Try.pinned (OpenSpec.upto fnExactBlobKeySpec)

/-- 'laws.FnExactMapNodeKey', WHERE WHAT IT READS IS OF BULK AT MOST 1048576: true; the input reads as it did. -/
def fnExactMapNodeKeyUptoRow : OpenClaim := { program := "ytbngjhppngohaaa", sum := "922b5e46c50b404fb31b92ad251fe30376cefff9b1182bbf746f7b1f3b072db0", func := "loop.example/g01174/laws.FnExactMapNodeKey", spec := "fnExactMapNodeKey", apart := false, narrowed := true }
def FnExactMapNodeKeyUptoSaid : Prop := fnExactMapNodeKeyUptoRow.holds Try.pinned (OpenSpec.upto fnExactMapNodeKeySpec)

/-- 'laws.FnExactCommitKey', WHERE WHAT IT READS IS OF BULK AT MOST 1048576: true; the input reads as it did. -/
def fnExactCommitKeyUptoRow : OpenClaim := { program := "ytbngjhppngohaaa", sum := "922b5e46c50b404fb31b92ad251fe30376cefff9b1182bbf746f7b1f3b072db0", func := "loop.example/g01174/laws.FnExactCommitKey", spec := "fnExactCommitKey", apart := false, narrowed := true }
def FnExactCommitKeyUptoSaid : Prop := fnExactCommitKeyUptoRow.holds Try.pinned (OpenSpec.upto fnExactCommitKeySpec)

end Rows
end Go.Proofs.Ytbngjhppngohaaa
