/-
  No cell of these rows narrows 'for every input' (looked for: loops, veiled, ifaces, maps, wideKeys, modest, calm, conditions, laid).
  DERIVED. THE GIVEN ROWS OF THIS SEAT. 5 by the template 'for every input the law returns true; each argument reads behind the call as it read before'; 0 by the template 'total and deterministic' (their statements: YtnklgkmpcochfaaTotals.lean).
  GIVEN WITH THE SEED: the statements are not yours to turn. If you find one false, say at which input.
  Laid BY PROGRAM, IN A SANDBOX (cutbox-rows.mjs): the forced cells as the released guide's own fill.sh prints them over the translation 849100d80f97354b… (all of the seat's roots in one cut). By AI agents, Wed Nov 11 2026. No macro, syntax, notation, axiom, sorry.
-/
import Derived.Test.YtnklgkmpcochfaaChecked
import GoSem.Claim
import GoSem.ClaimJoined
import GoSem.ClaimMapViews
import Derived.JoinedTies
import Derived.KernelRfl
namespace Go.Proofs.Ytnklgkmpcochfaa
/- THE CELL 'sum', in the pinned program and in every row, IS THE sha256 OF THE DUMP (.gsa) THAT YtnklgkmpcochfaaProg.lean LOADS. Nothing in Lean hashes anything: it is a label: what it is worth is what the hold of that sum in a sandbox is worth. -/
noncomputable def Try.pinned : Pinned := { name := "ytnklgkmpcochfaa", sum := "849100d80f97354bc6002203613654fdfcf82fd3fd5e28246225dee52349ad3d", checked := Try.checked }
namespace Rows
def none {H : Type} : Left H := { results := [], args := [] }

/-- 'laws.FnExactValidStore': WHATEVER THE INPUT: true; the input reads as it did. -/
def fnExactValidStoreSpec : ChangeSpec := { name := "fnExactValidStore", fn := fun _ => fun
  | [d] => { results := [.lit (.bool true)], args := [d] }
  | _ => none }
def fnExactValidStoreRow : OpenClaim := { program := "ytnklgkmpcochfaa", sum := "849100d80f97354bc6002203613654fdfcf82fd3fd5e28246225dee52349ad3d", func := "loop.example/g01174/laws.FnExactValidStore", spec := "fnExactValidStore", unfollowed := true, recurses := true, apart := false }
def FnExactValidStoreSaid : Prop := fnExactValidStoreRow.holds Try.pinned (OpenSpec.ofChange fnExactValidStoreSpec)

/-- ITS FALSE NEIGHBOUR: 'it returns false'. Refute it at one input. -/
def fnExactValidStoreWrong : ChangeSpec := { name := "fnExactValidStore", fn := fun _ => fun
  | [d] => { results := [.lit (.bool false)], args := [d] }
  | _ => none }
def FnExactValidStoreWrongFalsely : Prop := fnExactValidStoreRow.holds Try.pinned (OpenSpec.ofChange fnExactValidStoreWrong)

/-- 'laws.FnExactStoreBytes': WHATEVER THE INPUT: true; the input reads as it did. -/
def fnExactStoreBytesSpec : ChangeSpec := { name := "fnExactStoreBytes", fn := fun _ => fun
  | [d] => { results := [.lit (.bool true)], args := [d] }
  | _ => none }
def fnExactStoreBytesRow : OpenClaim := { program := "ytnklgkmpcochfaa", sum := "849100d80f97354bc6002203613654fdfcf82fd3fd5e28246225dee52349ad3d", func := "loop.example/g01174/laws.FnExactStoreBytes", spec := "fnExactStoreBytes", unfollowed := true, recurses := true, apart := false }
def FnExactStoreBytesSaid : Prop := fnExactStoreBytesRow.holds Try.pinned (OpenSpec.ofChange fnExactStoreBytesSpec)

/-- ITS FALSE NEIGHBOUR: 'it returns false'. Refute it at one input. -/
def fnExactStoreBytesWrong : ChangeSpec := { name := "fnExactStoreBytes", fn := fun _ => fun
  | [d] => { results := [.lit (.bool false)], args := [d] }
  | _ => none }
def FnExactStoreBytesWrongFalsely : Prop := fnExactStoreBytesRow.holds Try.pinned (OpenSpec.ofChange fnExactStoreBytesWrong)

/-- 'laws.FnExactKeysOfStore': WHATEVER THE INPUT: true; the input reads as it did. -/
def fnExactKeysOfStoreSpec : ChangeSpec := { name := "fnExactKeysOfStore", fn := fun _ => fun
  | [d] => { results := [.lit (.bool true)], args := [d] }
  | _ => none }
def fnExactKeysOfStoreRow : OpenClaim := { program := "ytnklgkmpcochfaa", sum := "849100d80f97354bc6002203613654fdfcf82fd3fd5e28246225dee52349ad3d", func := "loop.example/g01174/laws.FnExactKeysOfStore", spec := "fnExactKeysOfStore", unfollowed := true, recurses := true, apart := false }
def FnExactKeysOfStoreSaid : Prop := fnExactKeysOfStoreRow.holds Try.pinned (OpenSpec.ofChange fnExactKeysOfStoreSpec)

/-- ITS FALSE NEIGHBOUR: 'it returns false'. Refute it at one input. -/
def fnExactKeysOfStoreWrong : ChangeSpec := { name := "fnExactKeysOfStore", fn := fun _ => fun
  | [d] => { results := [.lit (.bool false)], args := [d] }
  | _ => none }
def FnExactKeysOfStoreWrongFalsely : Prop := fnExactKeysOfStoreRow.holds Try.pinned (OpenSpec.ofChange fnExactKeysOfStoreWrong)

/-- 'laws.FnExactFindCommit': WHATEVER THE INPUT: true; the input reads as it did. -/
def fnExactFindCommitSpec : ChangeSpec := { name := "fnExactFindCommit", fn := fun _ => fun
  | [d1, d2] => { results := [.lit (.bool true)], args := [d1, d2] }
  | _ => none }
def fnExactFindCommitRow : OpenClaim := { program := "ytnklgkmpcochfaa", sum := "849100d80f97354bc6002203613654fdfcf82fd3fd5e28246225dee52349ad3d", func := "loop.example/g01174/laws.FnExactFindCommit", spec := "fnExactFindCommit", recurses := true, apart := false }
def FnExactFindCommitSaid : Prop := fnExactFindCommitRow.holds Try.pinned (OpenSpec.ofChange fnExactFindCommitSpec)

/-- ITS FALSE NEIGHBOUR: 'it returns false'. Refute it at one input. -/
def fnExactFindCommitWrong : ChangeSpec := { name := "fnExactFindCommit", fn := fun _ => fun
  | [d1, d2] => { results := [.lit (.bool false)], args := [d1, d2] }
  | _ => none }
def FnExactFindCommitWrongFalsely : Prop := fnExactFindCommitRow.holds Try.pinned (OpenSpec.ofChange fnExactFindCommitWrong)

/-- 'laws.FnExactValidBook': WHATEVER THE INPUT: true; the input reads as it did. -/
def fnExactValidBookSpec : ChangeSpec := { name := "fnExactValidBook", fn := fun _ => fun
  | [d] => { results := [.lit (.bool true)], args := [d] }
  | _ => none }
def fnExactValidBookRow : OpenClaim := { program := "ytnklgkmpcochfaa", sum := "849100d80f97354bc6002203613654fdfcf82fd3fd5e28246225dee52349ad3d", func := "loop.example/g01174/laws.FnExactValidBook", spec := "fnExactValidBook", recurses := true, apart := false }
def FnExactValidBookSaid : Prop := fnExactValidBookRow.holds Try.pinned (OpenSpec.ofChange fnExactValidBookSpec)

/-- ITS FALSE NEIGHBOUR: 'it returns false'. Refute it at one input. -/
def fnExactValidBookWrong : ChangeSpec := { name := "fnExactValidBook", fn := fun _ => fun
  | [d] => { results := [.lit (.bool false)], args := [d] }
  | _ => none }
def FnExactValidBookWrongFalsely : Prop := fnExactValidBookRow.holds Try.pinned (OpenSpec.ofChange fnExactValidBookWrong)

/- THE SECOND FORM. 'bulk': how many values and letters a reading holds, each counted each time it is reached (what is shared counts as often as it is met; a slice's spare places count too). A statement '..UptoSaid' is the law's where the arguments, and the package variables that the reading takes, are together of bulk at most 1048576: NARROWER than '..Said'. Prove '..Said' where nothing that the law and all that it calls make is longer than what came in: it says more and counts as full. Else prove '..UptoSaid'. A law counts once. -/
mutual
def uptoBulk {H : Type} : DataW H → Nat
  | .lit (.string bytes) => bytes.length + 1
  | .lit _ => 1
  | .nil => 1
  | .ptr d => uptoBulk d + 1
  | .slice elems spare => uptoBulkAll elems + uptoBulkAll spare + 1
  | .agg parts => uptoBulkAll parts + 1
  | .iface _ d => uptoBulk d + 1
  | .map entries => uptoBulkEntries entries + 1
  | .held _ => 1
def uptoBulkAll {H : Type} : List (DataW H) → Nat
  | [] => 0
  | d :: r => uptoBulk d + uptoBulkAll r
def uptoBulkEntries {H : Type} : List (Lit × DataW H) → Nat
  | [] => 0
  | x :: r => uptoBulkEntry x + uptoBulkEntries r
def uptoBulkEntry {H : Type} : Lit × DataW H → Nat
  | (.string bytes, d) => bytes.length + uptoBulk d + 1
  | (_, d) => uptoBulk d + 1
 end
def uptoSmall : (H : Type) → List (DataW H) → Bool := fun _ ds => decide (uptoBulkAll ds ≤ 1048576)
def OpenSpec.upto (s : _root_.Go.ChangeSpec) : _root_.Go.OpenSpec := { _root_.Go.OpenSpec.ofChange s with cond := some uptoSmall }

/-- 'laws.FnExactValidStore', WHERE WHAT IT READS IS OF BULK AT MOST 1048576: true; the input reads as it did. -/
def fnExactValidStoreUptoRow : OpenClaim := { program := "ytnklgkmpcochfaa", sum := "849100d80f97354bc6002203613654fdfcf82fd3fd5e28246225dee52349ad3d", func := "loop.example/g01174/laws.FnExactValidStore", spec := "fnExactValidStore", unfollowed := true, recurses := true, apart := false, narrowed := true }
def FnExactValidStoreUptoSaid : Prop := fnExactValidStoreUptoRow.holds Try.pinned (OpenSpec.upto fnExactValidStoreSpec)

/-- 'laws.FnExactStoreBytes', WHERE WHAT IT READS IS OF BULK AT MOST 1048576: true; the input reads as it did. -/
def fnExactStoreBytesUptoRow : OpenClaim := { program := "ytnklgkmpcochfaa", sum := "849100d80f97354bc6002203613654fdfcf82fd3fd5e28246225dee52349ad3d", func := "loop.example/g01174/laws.FnExactStoreBytes", spec := "fnExactStoreBytes", unfollowed := true, recurses := true, apart := false, narrowed := true }
def FnExactStoreBytesUptoSaid : Prop := fnExactStoreBytesUptoRow.holds Try.pinned (OpenSpec.upto fnExactStoreBytesSpec)

/-- 'laws.FnExactKeysOfStore', WHERE WHAT IT READS IS OF BULK AT MOST 1048576: true; the input reads as it did. -/
def fnExactKeysOfStoreUptoRow : OpenClaim := { program := "ytnklgkmpcochfaa", sum := "849100d80f97354bc6002203613654fdfcf82fd3fd5e28246225dee52349ad3d", func := "loop.example/g01174/laws.FnExactKeysOfStore", spec := "fnExactKeysOfStore", unfollowed := true, recurses := true, apart := false, narrowed := true }
def FnExactKeysOfStoreUptoSaid : Prop := fnExactKeysOfStoreUptoRow.holds Try.pinned (OpenSpec.upto fnExactKeysOfStoreSpec)

/-- 'laws.FnExactFindCommit', WHERE WHAT IT READS IS OF BULK AT MOST 1048576: true; the input reads as it did. -/
def fnExactFindCommitUptoRow : OpenClaim := { program := "ytnklgkmpcochfaa", sum := "849100d80f97354bc6002203613654fdfcf82fd3fd5e28246225dee52349ad3d", func := "loop.example/g01174/laws.FnExactFindCommit", spec := "fnExactFindCommit", recurses := true, apart := false, narrowed := true }
def FnExactFindCommitUptoSaid : Prop := fnExactFindCommitUptoRow.holds Try.pinned (OpenSpec.upto fnExactFindCommitSpec)

/-- 'laws.FnExactValidBook', WHERE WHAT IT READS IS OF BULK AT MOST 1048576: true; the input reads as it did. -/
def fnExactValidBookUptoRow : OpenClaim := { program := "ytnklgkmpcochfaa", sum := "849100d80f97354bc6002203613654fdfcf82fd3fd5e28246225dee52349ad3d", func := "loop.example/g01174/laws.FnExactValidBook", spec := "fnExactValidBook", recurses := true, apart := false, narrowed := true }
def FnExactValidBookUptoSaid : Prop := fnExactValidBookUptoRow.holds Try.pinned (OpenSpec.upto fnExactValidBookSpec)

end Rows
end Go.Proofs.Ytnklgkmpcochfaa
