/-
  No cell of these rows narrows 'for every input' (looked for: loops, veiled, ifaces, maps, wideKeys, modest, calm, conditions, laid).
  DERIVED. THE GIVEN ROWS OF THIS SEAT. 7 by the template 'for every input the law returns true; each argument reads behind the call as it read before'; 0 by the template 'total and deterministic' (their statements: YtikpakhccmdmcaaTotals.lean).
  GIVEN WITH THE SEED: the statements are not yours to turn. If you find one false, say at which input.
  Laid BY PROGRAM, IN A SANDBOX (cutbox-rows.mjs): the forced cells as the released guide's own fill.sh prints them over the translation 4cc84b3b3757c84f… (all of the seat's roots in one cut). By AI agents, Wed Nov 11 2026. No macro, syntax, notation, axiom, sorry.
-/
import Derived.Test.YtikpakhccmdmcaaChecked
import GoSem.Claim
import GoSem.ClaimJoined
import GoSem.ClaimMapViews
import Derived.JoinedTies
import Derived.KernelRfl
namespace Go.Proofs.Ytikpakhccmdmcaa
/- THE CELL 'sum', in the pinned program and in every row, IS THE sha256 OF THE DUMP (.gsa) THAT YtikpakhccmdmcaaProg.lean LOADS. Nothing in Lean hashes anything: it is a label: what it is worth is what the hold of that sum in a sandbox is worth. -/
noncomputable def Try.pinned : Pinned := { name := "ytikpakhccmdmcaa", sum := "4cc84b3b3757c84f5f60d41542da6d15c5a8fddee3152753105e7f33130870c8", checked := Try.checked }
namespace Rows
def none {H : Type} : Left H := { results := [], args := [] }

/-- 'laws.FnExactDepthOfName': WHATEVER THE INPUT: true; the input reads as it did. -/
def fnExactDepthOfNameSpec : ChangeSpec := { name := "fnExactDepthOfName", fn := fun _ => fun
  | [d1, d2] => { results := [.lit (.bool true)], args := [d1, d2] }
  | _ => none }
def fnExactDepthOfNameRow : OpenClaim := { program := "ytikpakhccmdmcaa", sum := "4cc84b3b3757c84f5f60d41542da6d15c5a8fddee3152753105e7f33130870c8", func := "loop.example/g01174/laws.FnExactDepthOfName", spec := "fnExactDepthOfName", unfollowed := true, recurses := true, apart := false }
def FnExactDepthOfNameSaid : Prop := fnExactDepthOfNameRow.holds Try.pinned (OpenSpec.ofChange fnExactDepthOfNameSpec)

/-- ITS FALSE NEIGHBOUR: 'it returns false'. Refute it at one input. -/
def fnExactDepthOfNameWrong : ChangeSpec := { name := "fnExactDepthOfName", fn := fun _ => fun
  | [d1, d2] => { results := [.lit (.bool false)], args := [d1, d2] }
  | _ => none }
def FnExactDepthOfNameWrongFalsely : Prop := fnExactDepthOfNameRow.holds Try.pinned (OpenSpec.ofChange fnExactDepthOfNameWrong)

/-- 'laws.FnExactNodesOfMap': WHATEVER THE INPUT: true; the input reads as it did. -/
def fnExactNodesOfMapSpec : ChangeSpec := { name := "fnExactNodesOfMap", fn := fun _ => fun
  | [d] => { results := [.lit (.bool true)], args := [d] }
  | _ => none }
def fnExactNodesOfMapRow : OpenClaim := { program := "ytikpakhccmdmcaa", sum := "4cc84b3b3757c84f5f60d41542da6d15c5a8fddee3152753105e7f33130870c8", func := "loop.example/g01174/laws.FnExactNodesOfMap", spec := "fnExactNodesOfMap", unfollowed := true, recurses := true, apart := false }
def FnExactNodesOfMapSaid : Prop := fnExactNodesOfMapRow.holds Try.pinned (OpenSpec.ofChange fnExactNodesOfMapSpec)

/-- ITS FALSE NEIGHBOUR: 'it returns false'. Refute it at one input. -/
def fnExactNodesOfMapWrong : ChangeSpec := { name := "fnExactNodesOfMap", fn := fun _ => fun
  | [d] => { results := [.lit (.bool false)], args := [d] }
  | _ => none }
def FnExactNodesOfMapWrongFalsely : Prop := fnExactNodesOfMapRow.holds Try.pinned (OpenSpec.ofChange fnExactNodesOfMapWrong)

/-- 'laws.FnExactProveName': WHATEVER THE INPUT: true; the input reads as it did. -/
def fnExactProveNameSpec : ChangeSpec := { name := "fnExactProveName", fn := fun _ => fun
  | [d1, d2] => { results := [.lit (.bool true)], args := [d1, d2] }
  | _ => none }
def fnExactProveNameRow : OpenClaim := { program := "ytikpakhccmdmcaa", sum := "4cc84b3b3757c84f5f60d41542da6d15c5a8fddee3152753105e7f33130870c8", func := "loop.example/g01174/laws.FnExactProveName", spec := "fnExactProveName", unfollowed := true, recurses := true, apart := false }
def FnExactProveNameSaid : Prop := fnExactProveNameRow.holds Try.pinned (OpenSpec.ofChange fnExactProveNameSpec)

/-- ITS FALSE NEIGHBOUR: 'it returns false'. Refute it at one input. -/
def fnExactProveNameWrong : ChangeSpec := { name := "fnExactProveName", fn := fun _ => fun
  | [d1, d2] => { results := [.lit (.bool false)], args := [d1, d2] }
  | _ => none }
def FnExactProveNameWrongFalsely : Prop := fnExactProveNameRow.holds Try.pinned (OpenSpec.ofChange fnExactProveNameWrong)

/-- 'laws.FnExactProveRange': WHATEVER THE INPUT: true; the input reads as it did. -/
def fnExactProveRangeSpec : ChangeSpec := { name := "fnExactProveRange", fn := fun _ => fun
  | [d1, d2, d3] => { results := [.lit (.bool true)], args := [d1, d2, d3] }
  | _ => none }
def fnExactProveRangeRow : OpenClaim := { program := "ytikpakhccmdmcaa", sum := "4cc84b3b3757c84f5f60d41542da6d15c5a8fddee3152753105e7f33130870c8", func := "loop.example/g01174/laws.FnExactProveRange", spec := "fnExactProveRange", unfollowed := true, recurses := true, apart := false }
def FnExactProveRangeSaid : Prop := fnExactProveRangeRow.holds Try.pinned (OpenSpec.ofChange fnExactProveRangeSpec)

/-- ITS FALSE NEIGHBOUR: 'it returns false'. Refute it at one input. -/
def fnExactProveRangeWrong : ChangeSpec := { name := "fnExactProveRange", fn := fun _ => fun
  | [d1, d2, d3] => { results := [.lit (.bool false)], args := [d1, d2, d3] }
  | _ => none }
def FnExactProveRangeWrongFalsely : Prop := fnExactProveRangeRow.holds Try.pinned (OpenSpec.ofChange fnExactProveRangeWrong)

/-- 'laws.FnExactCheckRangeOfMap': WHATEVER THE INPUT: true; the input reads as it did. -/
def fnExactCheckRangeOfMapSpec : ChangeSpec := { name := "fnExactCheckRangeOfMap", fn := fun _ => fun
  | [d1, d2, d3, d4] => { results := [.lit (.bool true)], args := [d1, d2, d3, d4] }
  | _ => none }
def fnExactCheckRangeOfMapRow : OpenClaim := { program := "ytikpakhccmdmcaa", sum := "4cc84b3b3757c84f5f60d41542da6d15c5a8fddee3152753105e7f33130870c8", func := "loop.example/g01174/laws.FnExactCheckRangeOfMap", spec := "fnExactCheckRangeOfMap", unfollowed := true, recurses := true, apart := false }
def FnExactCheckRangeOfMapSaid : Prop := fnExactCheckRangeOfMapRow.holds Try.pinned (OpenSpec.ofChange fnExactCheckRangeOfMapSpec)

/-- ITS FALSE NEIGHBOUR: 'it returns false'. Refute it at one input. -/
def fnExactCheckRangeOfMapWrong : ChangeSpec := { name := "fnExactCheckRangeOfMap", fn := fun _ => fun
  | [d1, d2, d3, d4] => { results := [.lit (.bool false)], args := [d1, d2, d3, d4] }
  | _ => none }
def FnExactCheckRangeOfMapWrongFalsely : Prop := fnExactCheckRangeOfMapRow.holds Try.pinned (OpenSpec.ofChange fnExactCheckRangeOfMapWrong)

/-- 'laws.FnExactApplyChanges': WHATEVER THE INPUT: true; the input reads as it did. -/
def fnExactApplyChangesSpec : ChangeSpec := { name := "fnExactApplyChanges", fn := fun _ => fun
  | [d1, d2] => { results := [.lit (.bool true)], args := [d1, d2] }
  | _ => none }
def fnExactApplyChangesRow : OpenClaim := { program := "ytikpakhccmdmcaa", sum := "4cc84b3b3757c84f5f60d41542da6d15c5a8fddee3152753105e7f33130870c8", func := "loop.example/g01174/laws.FnExactApplyChanges", spec := "fnExactApplyChanges", inPlace := ["slices.overlaps[loop.example/g01174/impl.Entry]"], unfollowed := true, recurses := true, apart := false }
def FnExactApplyChangesSaid : Prop := fnExactApplyChangesRow.holds Try.pinned (OpenSpec.ofChange fnExactApplyChangesSpec)

/-- ITS FALSE NEIGHBOUR: 'it returns false'. Refute it at one input. -/
def fnExactApplyChangesWrong : ChangeSpec := { name := "fnExactApplyChanges", fn := fun _ => fun
  | [d1, d2] => { results := [.lit (.bool false)], args := [d1, d2] }
  | _ => none }
def FnExactApplyChangesWrongFalsely : Prop := fnExactApplyChangesRow.holds Try.pinned (OpenSpec.ofChange fnExactApplyChangesWrong)

/-- 'laws.FnExactClashOfName': WHATEVER THE INPUT: true; the input reads as it did. -/
def fnExactClashOfNameSpec : ChangeSpec := { name := "fnExactClashOfName", fn := fun _ => fun
  | [d1, d2, d3] => { results := [.lit (.bool true)], args := [d1, d2, d3] }
  | _ => none }
def fnExactClashOfNameRow : OpenClaim := { program := "ytikpakhccmdmcaa", sum := "4cc84b3b3757c84f5f60d41542da6d15c5a8fddee3152753105e7f33130870c8", func := "loop.example/g01174/laws.FnExactClashOfName", spec := "fnExactClashOfName", unfollowed := true, recurses := true, apart := false }
def FnExactClashOfNameSaid : Prop := fnExactClashOfNameRow.holds Try.pinned (OpenSpec.ofChange fnExactClashOfNameSpec)

/-- ITS FALSE NEIGHBOUR: 'it returns false'. Refute it at one input. -/
def fnExactClashOfNameWrong : ChangeSpec := { name := "fnExactClashOfName", fn := fun _ => fun
  | [d1, d2, d3] => { results := [.lit (.bool false)], args := [d1, d2, d3] }
  | _ => none }
def FnExactClashOfNameWrongFalsely : Prop := fnExactClashOfNameRow.holds Try.pinned (OpenSpec.ofChange fnExactClashOfNameWrong)

/- THE SECOND FORM. 'bulk': how many values and letters a reading holds, each counted each time it is reached (what is shared counts as often as it is met; a slice's spare places count too). A statement '..UptoSaid' is the law's where the arguments, and the package variables that the reading takes, are together of bulk at most 1048576: NARROWER than '..Said'. Prove '..Said' where nothing that the law and all that it calls make is longer than what came in: it says more and counts as full. Else prove '..UptoSaid'. A law counts once. -/
mutual
def uptoBulk {H : Type} : DataW H → Nat
  | .lit (.string bytes) => bytes.length + 1
  | .lit _ => 1
  | .nil => 1
  | .ptr d => uptoBulk d + 1
  | .slice elems spare => uptoBulkAll elems + uptoBulkAll spare + 1
  | .agg parts => uptoBulkAll parts + 1
  | .iface _ d => uptoBulk d + 1
  | .map entries => uptoBulkEntries entries + 1
  | .held _ => 1
def uptoBulkAll {H : Type} : List (DataW H) → Nat
  | [] => 0
  | d :: r => uptoBulk d + uptoBulkAll r
def uptoBulkEntries {H : Type} : List (Lit × DataW H) → Nat
  | [] => 0
  | x :: r => uptoBulkEntry x + uptoBulkEntries r
def uptoBulkEntry {H : Type} : Lit × DataW H → Nat
  | (.string bytes, d) => bytes.length + uptoBulk d + 1
  | (_, d) => uptoBulk d + 1
 end
def uptoSmall : (H : Type) → List (DataW H) → Bool := fun _ ds => decide (uptoBulkAll ds ≤ 1048576)
def OpenSpec.upto (s : _root_.Go.ChangeSpec) : _root_.Go.OpenSpec := { _root_.Go.OpenSpec.ofChange s with cond := some uptoSmall }

/-- 'laws.FnExactDepthOfName', WHERE WHAT IT READS IS OF BULK AT MOST 1048576: true; the input reads as it did. -/
def fnExactDepthOfNameUptoRow : OpenClaim := { program := "ytikpakhccmdmcaa", sum := "4cc84b3b3757c84f5f60d41542da6d15c5a8fddee3152753105e7f33130870c8", func := "loop.example/g01174/laws.FnExactDepthOfName", spec := "fnExactDepthOfName", unfollowed := true, recurses := true, apart := false, narrowed := true }
def FnExactDepthOfNameUptoSaid : Prop := fnExactDepthOfNameUptoRow.holds Try.pinned (OpenSpec.upto fnExactDepthOfNameSpec)

/-- 'laws.FnExactNodesOfMap', WHERE WHAT IT READS IS OF BULK AT MOST 1048576: true; the input reads as it did. -/
def fnExactNodesOfMapUptoRow : OpenClaim := { program := "ytikpakhccmdmcaa", sum := "4cc84b3b3757c84f5f60d41542da6d15c5a8fddee3152753105e7f33130870c8", func := "loop.example/g01174/laws.FnExactNodesOfMap", spec := "fnExactNodesOfMap", unfollowed := true, recurses := true, apart := false, narrowed := true }
def FnExactNodesOfMapUptoSaid : Prop := fnExactNodesOfMapUptoRow.holds Try.pinned (OpenSpec.upto fnExactNodesOfMapSpec)

/-- 'laws.FnExactProveName', WHERE WHAT IT READS IS OF BULK AT MOST 1048576: true; the input reads as it did. -/
def fnExactProveNameUptoRow : OpenClaim := { program := "ytikpakhccmdmcaa", sum := "4cc84b3b3757c84f5f60d41542da6d15c5a8fddee3152753105e7f33130870c8", func := "loop.example/g01174/laws.FnExactProveName", spec := "fnExactProveName", unfollowed := true, recurses := true, apart := false, narrowed := true }
def FnExactProveNameUptoSaid : Prop := fnExactProveNameUptoRow.holds Try.pinned (OpenSpec.upto fnExactProveNameSpec)

/-- 'laws.FnExactProveRange', WHERE WHAT IT READS IS OF BULK AT MOST 1048576: true; the input reads as it did. -/
def fnExactProveRangeUptoRow : OpenClaim := { program := "ytikpakhccmdmcaa", sum := "4cc84b3b3757c84f5f60d41542da6d15c5a8fddee3152753105e7f33130870c8", func := "loop.example/g01174/laws.FnExactProveRange", spec := "fnExactProveRange", unfollowed := true, recurses := true, apart := false, narrowed := true }
def FnExactProveRangeUptoSaid : Prop := fnExactProveRangeUptoRow.holds Try.pinned (OpenSpec.upto fnExactProveRangeSpec)

/-- 'laws.FnExactCheckRangeOfMap', WHERE WHAT IT READS IS OF BULK AT MOST 1048576: true; the input reads as it did. -/
def fnExactCheckRangeOfMapUptoRow : OpenClaim := { program := "ytikpakhccmdmcaa", sum := "4cc84b3b3757c84f5f60d41542da6d15c5a8fddee3152753105e7f33130870c8", func := "loop.example/g01174/laws.FnExactCheckRangeOfMap", spec := "fnExactCheckRangeOfMap", unfollowed := true, recurses := true, apart := false, narrowed := true }
def FnExactCheckRangeOfMapUptoSaid : Prop := fnExactCheckRangeOfMapUptoRow.holds Try.pinned (OpenSpec.upto fnExactCheckRangeOfMapSpec)

/-- 'laws.FnExactApplyChanges', WHERE WHAT IT READS IS OF BULK AT MOST 1048576: true; the input reads as it did. -/
def fnExactApplyChangesUptoRow : OpenClaim := { program := "ytikpakhccmdmcaa", sum := "4cc84b3b3757c84f5f60d41542da6d15c5a8fddee3152753105e7f33130870c8", func := "loop.example/g01174/laws.FnExactApplyChanges", spec := "fnExactApplyChanges", inPlace := ["slices.overlaps[loop.example/g01174/impl.Entry]"], unfollowed := true, recurses := true, apart := false, narrowed := true }
def FnExactApplyChangesUptoSaid : Prop := fnExactApplyChangesUptoRow.holds Try.pinned (OpenSpec.upto fnExactApplyChangesSpec)

/-- 'laws.FnExactClashOfName', WHERE WHAT IT READS IS OF BULK AT MOST 1048576: true; the input reads as it did. -/
def fnExactClashOfNameUptoRow : OpenClaim := { program := "ytikpakhccmdmcaa", sum := "4cc84b3b3757c84f5f60d41542da6d15c5a8fddee3152753105e7f33130870c8", func := "loop.example/g01174/laws.FnExactClashOfName", spec := "fnExactClashOfName", unfollowed := true, recurses := true, apart := false, narrowed := true }
def FnExactClashOfNameUptoSaid : Prop := fnExactClashOfNameUptoRow.holds Try.pinned (OpenSpec.upto fnExactClashOfNameSpec)

end Rows
end Go.Proofs.Ytikpakhccmdmcaa
