/-
  No cell of these rows narrows 'for every input' (looked for: loops, veiled, ifaces, maps, wideKeys, modest, calm, conditions, laid).
  DERIVED. THE GIVEN ROWS OF THIS SEAT. 9 by the template 'for every input the law returns true; each argument reads behind the call as it read before'; 0 by the template 'total and deterministic' (their statements: YtmndkbheehcoaaaTotals.lean).
  GIVEN WITH THE SEED: the statements are not yours to turn. If you find one false, say at which input.
  Laid BY PROGRAM, IN A SANDBOX (cutbox-rows.mjs): the forced cells as the released guide's own fill.sh prints them over the translation ab022f9527b88a4c… (all of the seat's roots in one cut). By AI agents, Wed Nov 11 2026. No macro, syntax, notation, axiom, sorry.
-/
import Derived.Test.YtmndkbheehcoaaaChecked
import GoSem.Claim
import GoSem.ClaimJoined
import GoSem.ClaimMapViews
import Derived.JoinedTies
import Derived.KernelRfl
namespace Go.Proofs.Ytmndkbheehcoaaa
/- THE CELL 'sum', in the pinned program and in every row, IS THE sha256 OF THE DUMP (.gsa) THAT YtmndkbheehcoaaaProg.lean LOADS. Nothing in Lean hashes anything: it is a label: what it is worth is what the hold of that sum in a sandbox is worth. -/
noncomputable def Try.pinned : Pinned := { name := "ytmndkbheehcoaaa", sum := "ab022f9527b88a4c5f500c76eb0176fbe2d8d796f842d9df5c05d3ee134191a7", checked := Try.checked }
namespace Rows
def none {H : Type} : Left H := { results := [], args := [] }

/-- 'laws.FnExactClashOfName': WHATEVER THE INPUT: true; the input reads as it did. -/
def fnExactClashOfNameSpec : ChangeSpec := { name := "fnExactClashOfName", fn := fun _ => fun
  | [d1, d2, d3] => { results := [.lit (.bool true)], args := [d1, d2, d3] }
  | _ => none }
def fnExactClashOfNameRow : OpenClaim := { program := "ytmndkbheehcoaaa", sum := "ab022f9527b88a4c5f500c76eb0176fbe2d8d796f842d9df5c05d3ee134191a7", func := "loop.example/g01174/laws.FnExactClashOfName", spec := "fnExactClashOfName", unfollowed := true, recurses := true, plainKeys := false, apart := false }
def FnExactClashOfNameSaid : Prop := fnExactClashOfNameRow.holds Try.pinned (OpenSpec.ofChange fnExactClashOfNameSpec)

/-- ITS FALSE NEIGHBOUR: 'it returns false'. Refute it at one input. -/
def fnExactClashOfNameWrong : ChangeSpec := { name := "fnExactClashOfName", fn := fun _ => fun
  | [d1, d2, d3] => { results := [.lit (.bool false)], args := [d1, d2, d3] }
  | _ => none }
def FnExactClashOfNameWrongFalsely : Prop := fnExactClashOfNameRow.holds Try.pinned (OpenSpec.ofChange fnExactClashOfNameWrong)

/-- 'laws.FnExactCheckRangeOfMap': WHATEVER THE INPUT: true; the input reads as it did. -/
def fnExactCheckRangeOfMapSpec : ChangeSpec := { name := "fnExactCheckRangeOfMap", fn := fun _ => fun
  | [d1, d2, d3, d4] => { results := [.lit (.bool true)], args := [d1, d2, d3, d4] }
  | _ => none }
def fnExactCheckRangeOfMapRow : OpenClaim := { program := "ytmndkbheehcoaaa", sum := "ab022f9527b88a4c5f500c76eb0176fbe2d8d796f842d9df5c05d3ee134191a7", func := "loop.example/g01174/laws.FnExactCheckRangeOfMap", spec := "fnExactCheckRangeOfMap", unfollowed := true, recurses := true, plainKeys := false, apart := false }
def FnExactCheckRangeOfMapSaid : Prop := fnExactCheckRangeOfMapRow.holds Try.pinned (OpenSpec.ofChange fnExactCheckRangeOfMapSpec)

/-- ITS FALSE NEIGHBOUR: 'it returns false'. Refute it at one input. -/
def fnExactCheckRangeOfMapWrong : ChangeSpec := { name := "fnExactCheckRangeOfMap", fn := fun _ => fun
  | [d1, d2, d3, d4] => { results := [.lit (.bool false)], args := [d1, d2, d3, d4] }
  | _ => none }
def FnExactCheckRangeOfMapWrongFalsely : Prop := fnExactCheckRangeOfMapRow.holds Try.pinned (OpenSpec.ofChange fnExactCheckRangeOfMapWrong)

/-- 'laws.FnExactChangesOf': WHATEVER THE INPUT: true; the input reads as it did. -/
def fnExactChangesOfSpec : ChangeSpec := { name := "fnExactChangesOf", fn := fun _ => fun
  | [d1, d2] => { results := [.lit (.bool true)], args := [d1, d2] }
  | _ => none }
def fnExactChangesOfRow : OpenClaim := { program := "ytmndkbheehcoaaa", sum := "ab022f9527b88a4c5f500c76eb0176fbe2d8d796f842d9df5c05d3ee134191a7", func := "loop.example/g01174/laws.FnExactChangesOf", spec := "fnExactChangesOf", plainKeys := false, apart := false }
def FnExactChangesOfSaid : Prop := fnExactChangesOfRow.holds Try.pinned (OpenSpec.ofChange fnExactChangesOfSpec)

/-- ITS FALSE NEIGHBOUR: 'it returns false'. Refute it at one input. -/
def fnExactChangesOfWrong : ChangeSpec := { name := "fnExactChangesOf", fn := fun _ => fun
  | [d1, d2] => { results := [.lit (.bool false)], args := [d1, d2] }
  | _ => none }
def FnExactChangesOfWrongFalsely : Prop := fnExactChangesOfRow.holds Try.pinned (OpenSpec.ofChange fnExactChangesOfWrong)

/-- 'laws.FnExactSharedNodes': WHATEVER THE INPUT: true; the input reads as it did. -/
def fnExactSharedNodesSpec : ChangeSpec := { name := "fnExactSharedNodes", fn := fun _ => fun
  | [d1, d2] => { results := [.lit (.bool true)], args := [d1, d2] }
  | _ => none }
def fnExactSharedNodesRow : OpenClaim := { program := "ytmndkbheehcoaaa", sum := "ab022f9527b88a4c5f500c76eb0176fbe2d8d796f842d9df5c05d3ee134191a7", func := "loop.example/g01174/laws.FnExactSharedNodes", spec := "fnExactSharedNodes", unfollowed := true, recurses := true, plainKeys := false, apart := false }
def FnExactSharedNodesSaid : Prop := fnExactSharedNodesRow.holds Try.pinned (OpenSpec.ofChange fnExactSharedNodesSpec)

/-- ITS FALSE NEIGHBOUR: 'it returns false'. Refute it at one input. -/
def fnExactSharedNodesWrong : ChangeSpec := { name := "fnExactSharedNodes", fn := fun _ => fun
  | [d1, d2] => { results := [.lit (.bool false)], args := [d1, d2] }
  | _ => none }
def FnExactSharedNodesWrongFalsely : Prop := fnExactSharedNodesRow.holds Try.pinned (OpenSpec.ofChange fnExactSharedNodesWrong)

/-- 'laws.FnMapTrees': WHATEVER THE INPUT: true; the input reads as it did. -/
def fnMapTreesSpec : ChangeSpec := { name := "fnMapTrees", fn := fun _ => fun
  | [d1, d2] => { results := [.lit (.bool true)], args := [d1, d2] }
  | _ => none }
def fnMapTreesRow : OpenClaim := { program := "ytmndkbheehcoaaa", sum := "ab022f9527b88a4c5f500c76eb0176fbe2d8d796f842d9df5c05d3ee134191a7", func := "loop.example/g01174/laws.FnMapTrees", spec := "fnMapTrees", unfollowed := true, recurses := true, plainKeys := false, apart := false }
def FnMapTreesSaid : Prop := fnMapTreesRow.holds Try.pinned (OpenSpec.ofChange fnMapTreesSpec)

/-- ITS FALSE NEIGHBOUR: 'it returns false'. Refute it at one input. -/
def fnMapTreesWrong : ChangeSpec := { name := "fnMapTrees", fn := fun _ => fun
  | [d1, d2] => { results := [.lit (.bool false)], args := [d1, d2] }
  | _ => none }
def FnMapTreesWrongFalsely : Prop := fnMapTreesRow.holds Try.pinned (OpenSpec.ofChange fnMapTreesWrong)

/-- 'laws.FnProvedNames': WHATEVER THE INPUT: true; the input reads as it did. -/
def fnProvedNamesSpec : ChangeSpec := { name := "fnProvedNames", fn := fun _ => fun
  | [d1, d2] => { results := [.lit (.bool true)], args := [d1, d2] }
  | _ => none }
def fnProvedNamesRow : OpenClaim := { program := "ytmndkbheehcoaaa", sum := "ab022f9527b88a4c5f500c76eb0176fbe2d8d796f842d9df5c05d3ee134191a7", func := "loop.example/g01174/laws.FnProvedNames", spec := "fnProvedNames", unfollowed := true, recurses := true, plainKeys := false, apart := false }
def FnProvedNamesSaid : Prop := fnProvedNamesRow.holds Try.pinned (OpenSpec.ofChange fnProvedNamesSpec)

/-- ITS FALSE NEIGHBOUR: 'it returns false'. Refute it at one input. -/
def fnProvedNamesWrong : ChangeSpec := { name := "fnProvedNames", fn := fun _ => fun
  | [d1, d2] => { results := [.lit (.bool false)], args := [d1, d2] }
  | _ => none }
def FnProvedNamesWrongFalsely : Prop := fnProvedNamesRow.holds Try.pinned (OpenSpec.ofChange fnProvedNamesWrong)

/-- 'laws.FnProvedRanges': WHATEVER THE INPUT: true; the input reads as it did. -/
def fnProvedRangesSpec : ChangeSpec := { name := "fnProvedRanges", fn := fun _ => fun
  | [d1, d2] => { results := [.lit (.bool true)], args := [d1, d2] }
  | _ => none }
def fnProvedRangesRow : OpenClaim := { program := "ytmndkbheehcoaaa", sum := "ab022f9527b88a4c5f500c76eb0176fbe2d8d796f842d9df5c05d3ee134191a7", func := "loop.example/g01174/laws.FnProvedRanges", spec := "fnProvedRanges", unfollowed := true, recurses := true, plainKeys := false, apart := false }
def FnProvedRangesSaid : Prop := fnProvedRangesRow.holds Try.pinned (OpenSpec.ofChange fnProvedRangesSpec)

/-- ITS FALSE NEIGHBOUR: 'it returns false'. Refute it at one input. -/
def fnProvedRangesWrong : ChangeSpec := { name := "fnProvedRanges", fn := fun _ => fun
  | [d1, d2] => { results := [.lit (.bool false)], args := [d1, d2] }
  | _ => none }
def FnProvedRangesWrongFalsely : Prop := fnProvedRangesRow.holds Try.pinned (OpenSpec.ofChange fnProvedRangesWrong)

/-- 'laws.FnEntries': WHATEVER THE INPUT: true; the input reads as it did. -/
def fnEntriesSpec : ChangeSpec := { name := "fnEntries", fn := fun _ => fun
  | [d1, d2] => { results := [.lit (.bool true)], args := [d1, d2] }
  | _ => none }
def fnEntriesRow : OpenClaim := { program := "ytmndkbheehcoaaa", sum := "ab022f9527b88a4c5f500c76eb0176fbe2d8d796f842d9df5c05d3ee134191a7", func := "loop.example/g01174/laws.FnEntries", spec := "fnEntries", inPlace := ["slices.overlaps[loop.example/g01174/impl.Entry]"], unfollowed := true, recurses := true, plainKeys := false, apart := false }
def FnEntriesSaid : Prop := fnEntriesRow.holds Try.pinned (OpenSpec.ofChange fnEntriesSpec)

/-- ITS FALSE NEIGHBOUR: 'it returns false'. Refute it at one input. -/
def fnEntriesWrong : ChangeSpec := { name := "fnEntries", fn := fun _ => fun
  | [d1, d2] => { results := [.lit (.bool false)], args := [d1, d2] }
  | _ => none }
def FnEntriesWrongFalsely : Prop := fnEntriesRow.holds Try.pinned (OpenSpec.ofChange fnEntriesWrong)

/-- 'laws.FnChanges': WHATEVER THE INPUT: true; the input reads as it did. -/
def fnChangesSpec : ChangeSpec := { name := "fnChanges", fn := fun _ => fun
  | [d1, d2] => { results := [.lit (.bool true)], args := [d1, d2] }
  | _ => none }
def fnChangesRow : OpenClaim := { program := "ytmndkbheehcoaaa", sum := "ab022f9527b88a4c5f500c76eb0176fbe2d8d796f842d9df5c05d3ee134191a7", func := "loop.example/g01174/laws.FnChanges", spec := "fnChanges", inPlace := ["slices.overlaps[loop.example/g01174/impl.Entry]"], unfollowed := true, recurses := true, plainKeys := false, apart := false }
def FnChangesSaid : Prop := fnChangesRow.holds Try.pinned (OpenSpec.ofChange fnChangesSpec)

/-- ITS FALSE NEIGHBOUR: 'it returns false'. Refute it at one input. -/
def fnChangesWrong : ChangeSpec := { name := "fnChanges", fn := fun _ => fun
  | [d1, d2] => { results := [.lit (.bool false)], args := [d1, d2] }
  | _ => none }
def FnChangesWrongFalsely : Prop := fnChangesRow.holds Try.pinned (OpenSpec.ofChange fnChangesWrong)

/- THE SECOND FORM. 'bulk': how many values and letters a reading holds, each counted each time it is reached (what is shared counts as often as it is met; a slice's spare places count too). A statement '..UptoSaid' is the law's where the arguments, and the package variables that the reading takes, are together of bulk at most 1048576: NARROWER than '..Said'. Prove '..Said' where nothing that the law and all that it calls make is longer than what came in: it says more and counts as full. Else prove '..UptoSaid'. A law counts once. -/
mutual
def uptoBulk {H : Type} : DataW H → Nat
  | .lit (.string bytes) => bytes.length + 1
  | .lit _ => 1
  | .nil => 1
  | .ptr d => uptoBulk d + 1
  | .slice elems spare => uptoBulkAll elems + uptoBulkAll spare + 1
  | .agg parts => uptoBulkAll parts + 1
  | .iface _ d => uptoBulk d + 1
  | .map entries => uptoBulkEntries entries + 1
  | .held _ => 1
def uptoBulkAll {H : Type} : List (DataW H) → Nat
  | [] => 0
  | d :: r => uptoBulk d + uptoBulkAll r
def uptoBulkEntries {H : Type} : List (Lit × DataW H) → Nat
  | [] => 0
  | x :: r => uptoBulkEntry x + uptoBulkEntries r
def uptoBulkEntry {H : Type} : Lit × DataW H → Nat
  | (.string bytes, d) => bytes.length + uptoBulk d + 1
  | (_, d) => uptoBulk d + 1
 end
def uptoSmall : (H : Type) → List (DataW H) → Bool := fun _ ds => decide (uptoBulkAll ds ≤ 1048576)
def OpenSpec.upto (s : _root_.Go.ChangeSpec) : _root_.Go.OpenSpec := { _root_.Go.OpenSpec.ofChange s with cond := some uptoSmall }

/-- 'laws.FnExactClashOfName', WHERE WHAT IT READS IS OF BULK AT MOST 1048576: true; the input reads as it did. -/
def fnExactClashOfNameUptoRow : OpenClaim := { program := "ytmndkbheehcoaaa", sum := "ab022f9527b88a4c5f500c76eb0176fbe2d8d796f842d9df5c05d3ee134191a7", func := "loop.example/g01174/laws.FnExactClashOfName", spec := "fnExactClashOfName", unfollowed := true, recurses := true, plainKeys := false, apart := false, narrowed := true }
def FnExactClashOfNameUptoSaid : Prop := fnExactClashOfNameUptoRow.holds Try.pinned (OpenSpec.upto fnExactClashOfNameSpec)

/-- 'laws.FnExactCheckRangeOfMap', WHERE WHAT IT READS IS OF BULK AT MOST 1048576: true; the input reads as it did. -/
def fnExactCheckRangeOfMapUptoRow : OpenClaim := { program := "ytmndkbheehcoaaa", sum := "ab022f9527b88a4c5f500c76eb0176fbe2d8d796f842d9df5c05d3ee134191a7", func := "loop.example/g01174/laws.FnExactCheckRangeOfMap", spec := "fnExactCheckRangeOfMap", unfollowed := true, recurses := true, plainKeys := false, apart := false, narrowed := true }
def FnExactCheckRangeOfMapUptoSaid : Prop := fnExactCheckRangeOfMapUptoRow.holds Try.pinned (OpenSpec.upto fnExactCheckRangeOfMapSpec)

/-- 'laws.FnExactChangesOf', WHERE WHAT IT READS IS OF BULK AT MOST 1048576: true; the input reads as it did. -/
def fnExactChangesOfUptoRow : OpenClaim := { program := "ytmndkbheehcoaaa", sum := "ab022f9527b88a4c5f500c76eb0176fbe2d8d796f842d9df5c05d3ee134191a7", func := "loop.example/g01174/laws.FnExactChangesOf", spec := "fnExactChangesOf", plainKeys := false, apart := false, narrowed := true }
def FnExactChangesOfUptoSaid : Prop := fnExactChangesOfUptoRow.holds Try.pinned (OpenSpec.upto fnExactChangesOfSpec)

/-- 'laws.FnExactSharedNodes', WHERE WHAT IT READS IS OF BULK AT MOST 1048576: true; the input reads as it did. -/
def fnExactSharedNodesUptoRow : OpenClaim := { program := "ytmndkbheehcoaaa", sum := "ab022f9527b88a4c5f500c76eb0176fbe2d8d796f842d9df5c05d3ee134191a7", func := "loop.example/g01174/laws.FnExactSharedNodes", spec := "fnExactSharedNodes", unfollowed := true, recurses := true, plainKeys := false, apart := false, narrowed := true }
def FnExactSharedNodesUptoSaid : Prop := fnExactSharedNodesUptoRow.holds Try.pinned (OpenSpec.upto fnExactSharedNodesSpec)

/-- 'laws.FnMapTrees', WHERE WHAT IT READS IS OF BULK AT MOST 1048576: true; the input reads as it did. -/
def fnMapTreesUptoRow : OpenClaim := { program := "ytmndkbheehcoaaa", sum := "ab022f9527b88a4c5f500c76eb0176fbe2d8d796f842d9df5c05d3ee134191a7", func := "loop.example/g01174/laws.FnMapTrees", spec := "fnMapTrees", unfollowed := true, recurses := true, plainKeys := false, apart := false, narrowed := true }
def FnMapTreesUptoSaid : Prop := fnMapTreesUptoRow.holds Try.pinned (OpenSpec.upto fnMapTreesSpec)

/-- 'laws.FnProvedNames', WHERE WHAT IT READS IS OF BULK AT MOST 1048576: true; the input reads as it did. -/
def fnProvedNamesUptoRow : OpenClaim := { program := "ytmndkbheehcoaaa", sum := "ab022f9527b88a4c5f500c76eb0176fbe2d8d796f842d9df5c05d3ee134191a7", func := "loop.example/g01174/laws.FnProvedNames", spec := "fnProvedNames", unfollowed := true, recurses := true, plainKeys := false, apart := false, narrowed := true }
def FnProvedNamesUptoSaid : Prop := fnProvedNamesUptoRow.holds Try.pinned (OpenSpec.upto fnProvedNamesSpec)

/-- 'laws.FnProvedRanges', WHERE WHAT IT READS IS OF BULK AT MOST 1048576: true; the input reads as it did. -/
def fnProvedRangesUptoRow : OpenClaim := { program := "ytmndkbheehcoaaa", sum := "ab022f9527b88a4c5f500c76eb0176fbe2d8d796f842d9df5c05d3ee134191a7", func := "loop.example/g01174/laws.FnProvedRanges", spec := "fnProvedRanges", unfollowed := true, recurses := true, plainKeys := false, apart := false, narrowed := true }
def FnProvedRangesUptoSaid : Prop := fnProvedRangesUptoRow.holds Try.pinned (OpenSpec.upto fnProvedRangesSpec)

/-- 'laws.FnEntries', WHERE WHAT IT READS IS OF BULK AT MOST 1048576: true; the input reads as it did. -/
def fnEntriesUptoRow : OpenClaim := { program := "ytmndkbheehcoaaa", sum := "ab022f9527b88a4c5f500c76eb0176fbe2d8d796f842d9df5c05d3ee134191a7", func := "loop.example/g01174/laws.FnEntries", spec := "fnEntries", inPlace := ["slices.overlaps[loop.example/g01174/impl.Entry]"], unfollowed := true, recurses := true, plainKeys := false, apart := false, narrowed := true }
def FnEntriesUptoSaid : Prop := fnEntriesUptoRow.holds Try.pinned (OpenSpec.upto fnEntriesSpec)

/-- 'laws.FnChanges', WHERE WHAT IT READS IS OF BULK AT MOST 1048576: true; the input reads as it did. -/
def fnChangesUptoRow : OpenClaim := { program := "ytmndkbheehcoaaa", sum := "ab022f9527b88a4c5f500c76eb0176fbe2d8d796f842d9df5c05d3ee134191a7", func := "loop.example/g01174/laws.FnChanges", spec := "fnChanges", inPlace := ["slices.overlaps[loop.example/g01174/impl.Entry]"], unfollowed := true, recurses := true, plainKeys := false, apart := false, narrowed := true }
def FnChangesUptoSaid : Prop := fnChangesUptoRow.holds Try.pinned (OpenSpec.upto fnChangesSpec)

end Rows
end Go.Proofs.Ytmndkbheehcoaaa
