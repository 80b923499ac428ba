/-
  No cell of these rows narrows 'for every input' (looked for: loops, veiled, ifaces, maps, wideKeys, modest, calm, conditions, laid).
  DERIVED. THE GIVEN ROWS OF THIS SEAT. 8 by the template 'for every input the law returns true; each argument reads behind the call as it read before'; 0 by the template 'total and deterministic' (their statements: YtabeghbobggmjaaTotals.lean).
  GIVEN WITH THE SEED: the statements are not yours to turn. If you find one false, say at which input.
  Laid BY PROGRAM, IN A SANDBOX (cutbox-rows.mjs): the forced cells as the released guide's own fill.sh prints them over the translation 20f3472c77456cb4… (all of the seat's roots in one cut). By AI agents, Wed Nov 11 2026. No macro, syntax, notation, axiom, sorry.
-/
import Derived.Test.YtabeghbobggmjaaChecked
import GoSem.Claim
import GoSem.ClaimJoined
import GoSem.ClaimMapViews
import Derived.JoinedTies
import Derived.KernelRfl
namespace Go.Proofs.Ytabeghbobggmjaa
/- THE CELL 'sum', in the pinned program and in every row, IS THE sha256 OF THE DUMP (.gsa) THAT YtabeghbobggmjaaProg.lean LOADS. Nothing in Lean hashes anything: it is a label: what it is worth is what the hold of that sum in a sandbox is worth. -/
noncomputable def Try.pinned : Pinned := { name := "ytabeghbobggmjaa", sum := "20f3472c77456cb40c4789c340b9df60bf373824d6677ee0d5a1d8a5ece4a756", checked := Try.checked }
namespace Rows
def none {H : Type} : Left H := { results := [], args := [] }

/-- 'laws.FnExactDeltaOf': WHATEVER THE INPUT: true; the input reads as it did. -/
def fnExactDeltaOfSpec : ChangeSpec := { name := "fnExactDeltaOf", fn := fun _ => fun
  | [d1, d2] => { results := [.lit (.bool true)], args := [d1, d2] }
  | _ => none }
def fnExactDeltaOfRow : OpenClaim := { program := "ytabeghbobggmjaa", sum := "20f3472c77456cb40c4789c340b9df60bf373824d6677ee0d5a1d8a5ece4a756", func := "loop.example/g01174/laws.FnExactDeltaOf", spec := "fnExactDeltaOf", unfollowed := true, recurses := true, apart := false }
def FnExactDeltaOfSaid : Prop := fnExactDeltaOfRow.holds Try.pinned (OpenSpec.ofChange fnExactDeltaOfSpec)

/-- ITS FALSE NEIGHBOUR: 'it returns false'. Refute it at one input. -/
def fnExactDeltaOfWrong : ChangeSpec := { name := "fnExactDeltaOf", fn := fun _ => fun
  | [d1, d2] => { results := [.lit (.bool false)], args := [d1, d2] }
  | _ => none }
def FnExactDeltaOfWrongFalsely : Prop := fnExactDeltaOfRow.holds Try.pinned (OpenSpec.ofChange fnExactDeltaOfWrong)

/-- 'laws.FnExactSameStore': WHATEVER THE INPUT: true; the input reads as it did. -/
def fnExactSameStoreSpec : ChangeSpec := { name := "fnExactSameStore", fn := fun _ => fun
  | [d1, d2] => { results := [.lit (.bool true)], args := [d1, d2] }
  | _ => none }
def fnExactSameStoreRow : OpenClaim := { program := "ytabeghbobggmjaa", sum := "20f3472c77456cb40c4789c340b9df60bf373824d6677ee0d5a1d8a5ece4a756", func := "loop.example/g01174/laws.FnExactSameStore", spec := "fnExactSameStore", unfollowed := true, recurses := true, apart := false }
def FnExactSameStoreSaid : Prop := fnExactSameStoreRow.holds Try.pinned (OpenSpec.ofChange fnExactSameStoreSpec)

/-- ITS FALSE NEIGHBOUR: 'it returns false'. Refute it at one input. -/
def fnExactSameStoreWrong : ChangeSpec := { name := "fnExactSameStore", fn := fun _ => fun
  | [d1, d2] => { results := [.lit (.bool false)], args := [d1, d2] }
  | _ => none }
def FnExactSameStoreWrongFalsely : Prop := fnExactSameStoreRow.holds Try.pinned (OpenSpec.ofChange fnExactSameStoreWrong)

/-- 'laws.FnExactGetEntry': WHATEVER THE INPUT: true; the input reads as it did. -/
def fnExactGetEntrySpec : ChangeSpec := { name := "fnExactGetEntry", fn := fun _ => fun
  | [d1, d2] => { results := [.lit (.bool true)], args := [d1, d2] }
  | _ => none }
def fnExactGetEntryRow : OpenClaim := { program := "ytabeghbobggmjaa", sum := "20f3472c77456cb40c4789c340b9df60bf373824d6677ee0d5a1d8a5ece4a756", func := "loop.example/g01174/laws.FnExactGetEntry", spec := "fnExactGetEntry", unfollowed := true, recurses := true, apart := false }
def FnExactGetEntrySaid : Prop := fnExactGetEntryRow.holds Try.pinned (OpenSpec.ofChange fnExactGetEntrySpec)

/-- ITS FALSE NEIGHBOUR: 'it returns false'. Refute it at one input. -/
def fnExactGetEntryWrong : ChangeSpec := { name := "fnExactGetEntry", fn := fun _ => fun
  | [d1, d2] => { results := [.lit (.bool false)], args := [d1, d2] }
  | _ => none }
def FnExactGetEntryWrongFalsely : Prop := fnExactGetEntryRow.holds Try.pinned (OpenSpec.ofChange fnExactGetEntryWrong)

/-- 'laws.FnExactRangeOfEntries': WHATEVER THE INPUT: true; the input reads as it did. -/
def fnExactRangeOfEntriesSpec : ChangeSpec := { name := "fnExactRangeOfEntries", fn := fun _ => fun
  | [d1, d2, d3] => { results := [.lit (.bool true)], args := [d1, d2, d3] }
  | _ => none }
def fnExactRangeOfEntriesRow : OpenClaim := { program := "ytabeghbobggmjaa", sum := "20f3472c77456cb40c4789c340b9df60bf373824d6677ee0d5a1d8a5ece4a756", func := "loop.example/g01174/laws.FnExactRangeOfEntries", spec := "fnExactRangeOfEntries", unfollowed := true, recurses := true, apart := false }
def FnExactRangeOfEntriesSaid : Prop := fnExactRangeOfEntriesRow.holds Try.pinned (OpenSpec.ofChange fnExactRangeOfEntriesSpec)

/-- ITS FALSE NEIGHBOUR: 'it returns false'. Refute it at one input. -/
def fnExactRangeOfEntriesWrong : ChangeSpec := { name := "fnExactRangeOfEntries", fn := fun _ => fun
  | [d1, d2, d3] => { results := [.lit (.bool false)], args := [d1, d2, d3] }
  | _ => none }
def FnExactRangeOfEntriesWrongFalsely : Prop := fnExactRangeOfEntriesRow.holds Try.pinned (OpenSpec.ofChange fnExactRangeOfEntriesWrong)

/-- 'laws.FnExactDeleteEntry': WHATEVER THE INPUT: true; the input reads as it did. -/
def fnExactDeleteEntrySpec : ChangeSpec := { name := "fnExactDeleteEntry", fn := fun _ => fun
  | [d1, d2] => { results := [.lit (.bool true)], args := [d1, d2] }
  | _ => none }
def fnExactDeleteEntryRow : OpenClaim := { program := "ytabeghbobggmjaa", sum := "20f3472c77456cb40c4789c340b9df60bf373824d6677ee0d5a1d8a5ece4a756", func := "loop.example/g01174/laws.FnExactDeleteEntry", spec := "fnExactDeleteEntry", unfollowed := true, recurses := true, apart := false }
def FnExactDeleteEntrySaid : Prop := fnExactDeleteEntryRow.holds Try.pinned (OpenSpec.ofChange fnExactDeleteEntrySpec)

/-- ITS FALSE NEIGHBOUR: 'it returns false'. Refute it at one input. -/
def fnExactDeleteEntryWrong : ChangeSpec := { name := "fnExactDeleteEntry", fn := fun _ => fun
  | [d1, d2] => { results := [.lit (.bool false)], args := [d1, d2] }
  | _ => none }
def FnExactDeleteEntryWrongFalsely : Prop := fnExactDeleteEntryRow.holds Try.pinned (OpenSpec.ofChange fnExactDeleteEntryWrong)

/-- 'laws.FnExactChangesOf': WHATEVER THE INPUT: true; the input reads as it did. -/
def fnExactChangesOfSpec : ChangeSpec := { name := "fnExactChangesOf", fn := fun _ => fun
  | [d1, d2] => { results := [.lit (.bool true)], args := [d1, d2] }
  | _ => none }
def fnExactChangesOfRow : OpenClaim := { program := "ytabeghbobggmjaa", sum := "20f3472c77456cb40c4789c340b9df60bf373824d6677ee0d5a1d8a5ece4a756", func := "loop.example/g01174/laws.FnExactChangesOf", spec := "fnExactChangesOf", apart := false }
def FnExactChangesOfSaid : Prop := fnExactChangesOfRow.holds Try.pinned (OpenSpec.ofChange fnExactChangesOfSpec)

/-- ITS FALSE NEIGHBOUR: 'it returns false'. Refute it at one input. -/
def fnExactChangesOfWrong : ChangeSpec := { name := "fnExactChangesOf", fn := fun _ => fun
  | [d1, d2] => { results := [.lit (.bool false)], args := [d1, d2] }
  | _ => none }
def FnExactChangesOfWrongFalsely : Prop := fnExactChangesOfRow.holds Try.pinned (OpenSpec.ofChange fnExactChangesOfWrong)

/-- 'laws.FnExactSameBook': WHATEVER THE INPUT: true; the input reads as it did. -/
def fnExactSameBookSpec : ChangeSpec := { name := "fnExactSameBook", fn := fun _ => fun
  | [d1, d2] => { results := [.lit (.bool true)], args := [d1, d2] }
  | _ => none }
def fnExactSameBookRow : OpenClaim := { program := "ytabeghbobggmjaa", sum := "20f3472c77456cb40c4789c340b9df60bf373824d6677ee0d5a1d8a5ece4a756", func := "loop.example/g01174/laws.FnExactSameBook", spec := "fnExactSameBook", unfollowed := true, recurses := true, apart := false }
def FnExactSameBookSaid : Prop := fnExactSameBookRow.holds Try.pinned (OpenSpec.ofChange fnExactSameBookSpec)

/-- ITS FALSE NEIGHBOUR: 'it returns false'. Refute it at one input. -/
def fnExactSameBookWrong : ChangeSpec := { name := "fnExactSameBook", fn := fun _ => fun
  | [d1, d2] => { results := [.lit (.bool false)], args := [d1, d2] }
  | _ => none }
def FnExactSameBookWrongFalsely : Prop := fnExactSameBookRow.holds Try.pinned (OpenSpec.ofChange fnExactSameBookWrong)

/-- 'laws.FnExactPutEntry': WHATEVER THE INPUT: true; the input reads as it did. -/
def fnExactPutEntrySpec : ChangeSpec := { name := "fnExactPutEntry", fn := fun _ => fun
  | [d1, d2] => { results := [.lit (.bool true)], args := [d1, d2] }
  | _ => none }
def fnExactPutEntryRow : OpenClaim := { program := "ytabeghbobggmjaa", sum := "20f3472c77456cb40c4789c340b9df60bf373824d6677ee0d5a1d8a5ece4a756", func := "loop.example/g01174/laws.FnExactPutEntry", spec := "fnExactPutEntry", inPlace := ["slices.overlaps[loop.example/g01174/impl.Entry]"], unfollowed := true, recurses := true, apart := false }
def FnExactPutEntrySaid : Prop := fnExactPutEntryRow.holds Try.pinned (OpenSpec.ofChange fnExactPutEntrySpec)

/-- ITS FALSE NEIGHBOUR: 'it returns false'. Refute it at one input. -/
def fnExactPutEntryWrong : ChangeSpec := { name := "fnExactPutEntry", fn := fun _ => fun
  | [d1, d2] => { results := [.lit (.bool false)], args := [d1, d2] }
  | _ => none }
def FnExactPutEntryWrongFalsely : Prop := fnExactPutEntryRow.holds Try.pinned (OpenSpec.ofChange fnExactPutEntryWrong)

/- THE SECOND FORM. 'bulk': how many values and letters a reading holds, each counted each time it is reached (what is shared counts as often as it is met; a slice's spare places count too). A statement '..UptoSaid' is the law's where the arguments, and the package variables that the reading takes, are together of bulk at most 1048576: NARROWER than '..Said'. Prove '..Said' where nothing that the law and all that it calls make is longer than what came in: it says more and counts as full. Else prove '..UptoSaid'. A law counts once. -/
mutual
def uptoBulk {H : Type} : DataW H → Nat
  | .lit (.string bytes) => bytes.length + 1
  | .lit _ => 1
  | .nil => 1
  | .ptr d => uptoBulk d + 1
  | .slice elems spare => uptoBulkAll elems + uptoBulkAll spare + 1
  | .agg parts => uptoBulkAll parts + 1
  | .iface _ d => uptoBulk d + 1
  | .map entries => uptoBulkEntries entries + 1
  | .held _ => 1
def uptoBulkAll {H : Type} : List (DataW H) → Nat
  | [] => 0
  | d :: r => uptoBulk d + uptoBulkAll r
def uptoBulkEntries {H : Type} : List (Lit × DataW H) → Nat
  | [] => 0
  | x :: r => uptoBulkEntry x + uptoBulkEntries r
def uptoBulkEntry {H : Type} : Lit × DataW H → Nat
  | (.string bytes, d) => bytes.length + uptoBulk d + 1
  | (_, d) => uptoBulk d + 1
 end
def uptoSmall : (H : Type) → List (DataW H) → Bool := fun _ ds => decide (uptoBulkAll ds ≤ 1048576)
def OpenSpec.upto (s : _root_.Go.ChangeSpec) : _root_.Go.OpenSpec := { _root_.Go.OpenSpec.ofChange s with cond := some uptoSmall }

/-- 'laws.FnExactDeltaOf', WHERE WHAT IT READS IS OF BULK AT MOST 1048576: true; the input reads as it did. -/
def fnExactDeltaOfUptoRow : OpenClaim := { program := "ytabeghbobggmjaa", sum := "20f3472c77456cb40c4789c340b9df60bf373824d6677ee0d5a1d8a5ece4a756", func := "loop.example/g01174/laws.FnExactDeltaOf", spec := "fnExactDeltaOf", unfollowed := true, recurses := true, apart := false, narrowed := true }
def FnExactDeltaOfUptoSaid : Prop := fnExactDeltaOfUptoRow.holds Try.pinned (OpenSpec.upto fnExactDeltaOfSpec)

/-- 'laws.FnExactSameStore', WHERE WHAT IT READS IS OF BULK AT MOST 1048576: true; the input reads as it did. -/
def fnExactSameStoreUptoRow : OpenClaim := { program := "ytabeghbobggmjaa", sum := "20f3472c77456cb40c4789c340b9df60bf373824d6677ee0d5a1d8a5ece4a756", func := "loop.example/g01174/laws.FnExactSameStore", spec := "fnExactSameStore", unfollowed := true, recurses := true, apart := false, narrowed := true }
def FnExactSameStoreUptoSaid : Prop := fnExactSameStoreUptoRow.holds Try.pinned (OpenSpec.upto fnExactSameStoreSpec)

/-- 'laws.FnExactGetEntry', WHERE WHAT IT READS IS OF BULK AT MOST 1048576: true; the input reads as it did. -/
def fnExactGetEntryUptoRow : OpenClaim := { program := "ytabeghbobggmjaa", sum := "20f3472c77456cb40c4789c340b9df60bf373824d6677ee0d5a1d8a5ece4a756", func := "loop.example/g01174/laws.FnExactGetEntry", spec := "fnExactGetEntry", unfollowed := true, recurses := true, apart := false, narrowed := true }
def FnExactGetEntryUptoSaid : Prop := fnExactGetEntryUptoRow.holds Try.pinned (OpenSpec.upto fnExactGetEntrySpec)

/-- 'laws.FnExactRangeOfEntries', WHERE WHAT IT READS IS OF BULK AT MOST 1048576: true; the input reads as it did. -/
def fnExactRangeOfEntriesUptoRow : OpenClaim := { program := "ytabeghbobggmjaa", sum := "20f3472c77456cb40c4789c340b9df60bf373824d6677ee0d5a1d8a5ece4a756", func := "loop.example/g01174/laws.FnExactRangeOfEntries", spec := "fnExactRangeOfEntries", unfollowed := true, recurses := true, apart := false, narrowed := true }
def FnExactRangeOfEntriesUptoSaid : Prop := fnExactRangeOfEntriesUptoRow.holds Try.pinned (OpenSpec.upto fnExactRangeOfEntriesSpec)

/-- 'laws.FnExactDeleteEntry', WHERE WHAT IT READS IS OF BULK AT MOST 1048576: true; the input reads as it did. -/
def fnExactDeleteEntryUptoRow : OpenClaim := { program := "ytabeghbobggmjaa", sum := "20f3472c77456cb40c4789c340b9df60bf373824d6677ee0d5a1d8a5ece4a756", func := "loop.example/g01174/laws.FnExactDeleteEntry", spec := "fnExactDeleteEntry", unfollowed := true, recurses := true, apart := false, narrowed := true }
def FnExactDeleteEntryUptoSaid : Prop := fnExactDeleteEntryUptoRow.holds Try.pinned (OpenSpec.upto fnExactDeleteEntrySpec)

/-- 'laws.FnExactChangesOf', WHERE WHAT IT READS IS OF BULK AT MOST 1048576: true; the input reads as it did. -/
def fnExactChangesOfUptoRow : OpenClaim := { program := "ytabeghbobggmjaa", sum := "20f3472c77456cb40c4789c340b9df60bf373824d6677ee0d5a1d8a5ece4a756", func := "loop.example/g01174/laws.FnExactChangesOf", spec := "fnExactChangesOf", apart := false, narrowed := true }
def FnExactChangesOfUptoSaid : Prop := fnExactChangesOfUptoRow.holds Try.pinned (OpenSpec.upto fnExactChangesOfSpec)

/-- 'laws.FnExactSameBook', WHERE WHAT IT READS IS OF BULK AT MOST 1048576: true; the input reads as it did. -/
def fnExactSameBookUptoRow : OpenClaim := { program := "ytabeghbobggmjaa", sum := "20f3472c77456cb40c4789c340b9df60bf373824d6677ee0d5a1d8a5ece4a756", func := "loop.example/g01174/laws.FnExactSameBook", spec := "fnExactSameBook", unfollowed := true, recurses := true, apart := false, narrowed := true }
def FnExactSameBookUptoSaid : Prop := fnExactSameBookUptoRow.holds Try.pinned (OpenSpec.upto fnExactSameBookSpec)

/-- 'laws.FnExactPutEntry', WHERE WHAT IT READS IS OF BULK AT MOST 1048576: true; the input reads as it did. -/
def fnExactPutEntryUptoRow : OpenClaim := { program := "ytabeghbobggmjaa", sum := "20f3472c77456cb40c4789c340b9df60bf373824d6677ee0d5a1d8a5ece4a756", func := "loop.example/g01174/laws.FnExactPutEntry", spec := "fnExactPutEntry", inPlace := ["slices.overlaps[loop.example/g01174/impl.Entry]"], unfollowed := true, recurses := true, apart := false, narrowed := true }
def FnExactPutEntryUptoSaid : Prop := fnExactPutEntryUptoRow.holds Try.pinned (OpenSpec.upto fnExactPutEntrySpec)

end Rows
end Go.Proofs.Ytabeghbobggmjaa
