/-
  No cell of these rows narrows 'for every input' (looked for: loops, veiled, ifaces, maps, wideKeys, modest, calm, conditions, laid).
  DERIVED. THE GIVEN ROWS OF THIS SEAT. 6 by the template 'for every input the law returns true; each argument reads behind the call as it read before'; 0 by the template 'total and deterministic' (their statements: YteegnbdgfedajaaTotals.lean).
  GIVEN WITH THE SEED: the statements are not yours to turn. If you find one false, say at which input.
  Laid BY PROGRAM, IN A SANDBOX (cutbox-rows.mjs): the forced cells as the released guide's own fill.sh prints them over the translation e724c52e67112dca… (all of the seat's roots in one cut). By AI agents, Wed Nov 11 2026. No macro, syntax, notation, axiom, sorry.
-/
import Derived.Test.YteegnbdgfedajaaChecked
import GoSem.Claim
import GoSem.ClaimJoined
import GoSem.ClaimMapViews
import Derived.JoinedTies
import Derived.KernelRfl
namespace Go.Proofs.Yteegnbdgfedajaa
/- THE CELL 'sum', in the pinned program and in every row, IS THE sha256 OF THE DUMP (.gsa) THAT YteegnbdgfedajaaProg.lean LOADS. Nothing in Lean hashes anything: it is a label: what it is worth is what the hold of that sum in a sandbox is worth. -/
noncomputable def Try.pinned : Pinned := { name := "yteegnbdgfedajaa", sum := "e724c52e67112dcac1d2e41d07ac009edd7d575cfb9d5fba98af47a20a8ce41c", checked := Try.checked }
namespace Rows
def none {H : Type} : Left H := { results := [], args := [] }

/-- 'laws.FnExactDeltaOf': WHATEVER THE INPUT: true; the input reads as it did. -/
def fnExactDeltaOfSpec : ChangeSpec := { name := "fnExactDeltaOf", fn := fun _ => fun
  | [d1, d2] => { results := [.lit (.bool true)], args := [d1, d2] }
  | _ => none }
def fnExactDeltaOfRow : OpenClaim := { program := "yteegnbdgfedajaa", sum := "e724c52e67112dcac1d2e41d07ac009edd7d575cfb9d5fba98af47a20a8ce41c", func := "loop.example/g01174/laws.FnExactDeltaOf", spec := "fnExactDeltaOf", unfollowed := true, recurses := true, apart := false }
def FnExactDeltaOfSaid : Prop := fnExactDeltaOfRow.holds Try.pinned (OpenSpec.ofChange fnExactDeltaOfSpec)

/-- ITS FALSE NEIGHBOUR: 'it returns false'. Refute it at one input. -/
def fnExactDeltaOfWrong : ChangeSpec := { name := "fnExactDeltaOf", fn := fun _ => fun
  | [d1, d2] => { results := [.lit (.bool false)], args := [d1, d2] }
  | _ => none }
def FnExactDeltaOfWrongFalsely : Prop := fnExactDeltaOfRow.holds Try.pinned (OpenSpec.ofChange fnExactDeltaOfWrong)

/-- 'laws.FnExactSameStore': WHATEVER THE INPUT: true; the input reads as it did. -/
def fnExactSameStoreSpec : ChangeSpec := { name := "fnExactSameStore", fn := fun _ => fun
  | [d1, d2] => { results := [.lit (.bool true)], args := [d1, d2] }
  | _ => none }
def fnExactSameStoreRow : OpenClaim := { program := "yteegnbdgfedajaa", sum := "e724c52e67112dcac1d2e41d07ac009edd7d575cfb9d5fba98af47a20a8ce41c", func := "loop.example/g01174/laws.FnExactSameStore", spec := "fnExactSameStore", unfollowed := true, recurses := true, apart := false }
def FnExactSameStoreSaid : Prop := fnExactSameStoreRow.holds Try.pinned (OpenSpec.ofChange fnExactSameStoreSpec)

/-- ITS FALSE NEIGHBOUR: 'it returns false'. Refute it at one input. -/
def fnExactSameStoreWrong : ChangeSpec := { name := "fnExactSameStore", fn := fun _ => fun
  | [d1, d2] => { results := [.lit (.bool false)], args := [d1, d2] }
  | _ => none }
def FnExactSameStoreWrongFalsely : Prop := fnExactSameStoreRow.holds Try.pinned (OpenSpec.ofChange fnExactSameStoreWrong)

/-- 'laws.FnDeltas': WHATEVER THE INPUT: true; the input reads as it did. -/
def fnDeltasSpec : ChangeSpec := { name := "fnDeltas", fn := fun _ => fun
  | [d1, d2] => { results := [.lit (.bool true)], args := [d1, d2] }
  | _ => none }
def fnDeltasRow : OpenClaim := { program := "yteegnbdgfedajaa", sum := "e724c52e67112dcac1d2e41d07ac009edd7d575cfb9d5fba98af47a20a8ce41c", func := "loop.example/g01174/laws.FnDeltas", spec := "fnDeltas", unfollowed := true, recurses := true, apart := false }
def FnDeltasSaid : Prop := fnDeltasRow.holds Try.pinned (OpenSpec.ofChange fnDeltasSpec)

/-- ITS FALSE NEIGHBOUR: 'it returns false'. Refute it at one input. -/
def fnDeltasWrong : ChangeSpec := { name := "fnDeltas", fn := fun _ => fun
  | [d1, d2] => { results := [.lit (.bool false)], args := [d1, d2] }
  | _ => none }
def FnDeltasWrongFalsely : Prop := fnDeltasRow.holds Try.pinned (OpenSpec.ofChange fnDeltasWrong)

/-- 'laws.FnExactReadCommit': WHATEVER THE INPUT: true; the input reads as it did. -/
def fnExactReadCommitSpec : ChangeSpec := { name := "fnExactReadCommit", fn := fun _ => fun
  | [d] => { results := [.lit (.bool true)], args := [d] }
  | _ => none }
def fnExactReadCommitRow : OpenClaim := { program := "yteegnbdgfedajaa", sum := "e724c52e67112dcac1d2e41d07ac009edd7d575cfb9d5fba98af47a20a8ce41c", func := "loop.example/g01174/laws.FnExactReadCommit", spec := "fnExactReadCommit", apart := false }
def FnExactReadCommitSaid : Prop := fnExactReadCommitRow.holds Try.pinned (OpenSpec.ofChange fnExactReadCommitSpec)

/-- ITS FALSE NEIGHBOUR: 'it returns false'. Refute it at one input. -/
def fnExactReadCommitWrong : ChangeSpec := { name := "fnExactReadCommit", fn := fun _ => fun
  | [d] => { results := [.lit (.bool false)], args := [d] }
  | _ => none }
def FnExactReadCommitWrongFalsely : Prop := fnExactReadCommitRow.holds Try.pinned (OpenSpec.ofChange fnExactReadCommitWrong)

/-- 'laws.FnExactSameBook': WHATEVER THE INPUT: true; the input reads as it did. -/
def fnExactSameBookSpec : ChangeSpec := { name := "fnExactSameBook", fn := fun _ => fun
  | [d1, d2] => { results := [.lit (.bool true)], args := [d1, d2] }
  | _ => none }
def fnExactSameBookRow : OpenClaim := { program := "yteegnbdgfedajaa", sum := "e724c52e67112dcac1d2e41d07ac009edd7d575cfb9d5fba98af47a20a8ce41c", func := "loop.example/g01174/laws.FnExactSameBook", spec := "fnExactSameBook", unfollowed := true, recurses := true, apart := false }
def FnExactSameBookSaid : Prop := fnExactSameBookRow.holds Try.pinned (OpenSpec.ofChange fnExactSameBookSpec)

/-- ITS FALSE NEIGHBOUR: 'it returns false'. Refute it at one input. -/
def fnExactSameBookWrong : ChangeSpec := { name := "fnExactSameBook", fn := fun _ => fun
  | [d1, d2] => { results := [.lit (.bool false)], args := [d1, d2] }
  | _ => none }
def FnExactSameBookWrongFalsely : Prop := fnExactSameBookRow.holds Try.pinned (OpenSpec.ofChange fnExactSameBookWrong)

/-- 'laws.FnExactLinksOf': WHATEVER THE INPUT: true; the input reads as it did. -/
def fnExactLinksOfSpec : ChangeSpec := { name := "fnExactLinksOf", fn := fun _ => fun
  | [d] => { results := [.lit (.bool true)], args := [d] }
  | _ => none }
def fnExactLinksOfRow : OpenClaim := { program := "yteegnbdgfedajaa", sum := "e724c52e67112dcac1d2e41d07ac009edd7d575cfb9d5fba98af47a20a8ce41c", func := "loop.example/g01174/laws.FnExactLinksOf", spec := "fnExactLinksOf", unfollowed := true, recurses := true, apart := false }
def FnExactLinksOfSaid : Prop := fnExactLinksOfRow.holds Try.pinned (OpenSpec.ofChange fnExactLinksOfSpec)

/-- ITS FALSE NEIGHBOUR: 'it returns false'. Refute it at one input. -/
def fnExactLinksOfWrong : ChangeSpec := { name := "fnExactLinksOf", fn := fun _ => fun
  | [d] => { results := [.lit (.bool false)], args := [d] }
  | _ => none }
def FnExactLinksOfWrongFalsely : Prop := fnExactLinksOfRow.holds Try.pinned (OpenSpec.ofChange fnExactLinksOfWrong)

/- THE SECOND FORM. 'bulk': how many values and letters a reading holds, each counted each time it is reached (what is shared counts as often as it is met; a slice's spare places count too). A statement '..UptoSaid' is the law's where the arguments, and the package variables that the reading takes, are together of bulk at most 1048576: NARROWER than '..Said'. Prove '..Said' where nothing that the law and all that it calls make is longer than what came in: it says more and counts as full. Else prove '..UptoSaid'. A law counts once. -/
mutual
def uptoBulk {H : Type} : DataW H → Nat
  | .lit (.string bytes) => bytes.length + 1
  | .lit _ => 1
  | .nil => 1
  | .ptr d => uptoBulk d + 1
  | .slice elems spare => uptoBulkAll elems + uptoBulkAll spare + 1
  | .agg parts => uptoBulkAll parts + 1
  | .iface _ d => uptoBulk d + 1
  | .map entries => uptoBulkEntries entries + 1
  | .held _ => 1
def uptoBulkAll {H : Type} : List (DataW H) → Nat
  | [] => 0
  | d :: r => uptoBulk d + uptoBulkAll r
def uptoBulkEntries {H : Type} : List (Lit × DataW H) → Nat
  | [] => 0
  | x :: r => uptoBulkEntry x + uptoBulkEntries r
def uptoBulkEntry {H : Type} : Lit × DataW H → Nat
  | (.string bytes, d) => bytes.length + uptoBulk d + 1
  | (_, d) => uptoBulk d + 1
 end
def uptoSmall : (H : Type) → List (DataW H) → Bool := fun _ ds => decide (uptoBulkAll ds ≤ 1048576)
def OpenSpec.upto (s : _root_.Go.ChangeSpec) : _root_.Go.OpenSpec := { _root_.Go.OpenSpec.ofChange s with cond := some uptoSmall }

/-- 'laws.FnExactDeltaOf', WHERE WHAT IT READS IS OF BULK AT MOST 1048576: true; the input reads as it did. -/
def fnExactDeltaOfUptoRow : OpenClaim := { program := "yteegnbdgfedajaa", sum := "e724c52e67112dcac1d2e41d07ac009edd7d575cfb9d5fba98af47a20a8ce41c", func := "loop.example/g01174/laws.FnExactDeltaOf", spec := "fnExactDeltaOf", unfollowed := true, recurses := true, apart := false, narrowed := true }
def FnExactDeltaOfUptoSaid : Prop := fnExactDeltaOfUptoRow.holds Try.pinned (OpenSpec.upto fnExactDeltaOfSpec)

/-- 'laws.FnExactSameStore', WHERE WHAT IT READS IS OF BULK AT MOST 1048576: true; the input reads as it did. -/
def fnExactSameStoreUptoRow : OpenClaim := { program := "yteegnbdgfedajaa", sum := "e724c52e67112dcac1d2e41d07ac009edd7d575cfb9d5fba98af47a20a8ce41c", func := "loop.example/g01174/laws.FnExactSameStore", spec := "fnExactSameStore", unfollowed := true, recurses := true, apart := false, narrowed := true }
def FnExactSameStoreUptoSaid : Prop := fnExactSameStoreUptoRow.holds Try.pinned (OpenSpec.upto fnExactSameStoreSpec)

/-- 'laws.FnDeltas', WHERE WHAT IT READS IS OF BULK AT MOST 1048576: true; the input reads as it did. -/
def fnDeltasUptoRow : OpenClaim := { program := "yteegnbdgfedajaa", sum := "e724c52e67112dcac1d2e41d07ac009edd7d575cfb9d5fba98af47a20a8ce41c", func := "loop.example/g01174/laws.FnDeltas", spec := "fnDeltas", unfollowed := true, recurses := true, apart := false, narrowed := true }
def FnDeltasUptoSaid : Prop := fnDeltasUptoRow.holds Try.pinned (OpenSpec.upto fnDeltasSpec)

/-- 'laws.FnExactReadCommit', WHERE WHAT IT READS IS OF BULK AT MOST 1048576: true; the input reads as it did. -/
def fnExactReadCommitUptoRow : OpenClaim := { program := "yteegnbdgfedajaa", sum := "e724c52e67112dcac1d2e41d07ac009edd7d575cfb9d5fba98af47a20a8ce41c", func := "loop.example/g01174/laws.FnExactReadCommit", spec := "fnExactReadCommit", apart := false, narrowed := true }
def FnExactReadCommitUptoSaid : Prop := fnExactReadCommitUptoRow.holds Try.pinned (OpenSpec.upto fnExactReadCommitSpec)

/-- 'laws.FnExactSameBook', WHERE WHAT IT READS IS OF BULK AT MOST 1048576: true; the input reads as it did. -/
def fnExactSameBookUptoRow : OpenClaim := { program := "yteegnbdgfedajaa", sum := "e724c52e67112dcac1d2e41d07ac009edd7d575cfb9d5fba98af47a20a8ce41c", func := "loop.example/g01174/laws.FnExactSameBook", spec := "fnExactSameBook", unfollowed := true, recurses := true, apart := false, narrowed := true }
def FnExactSameBookUptoSaid : Prop := fnExactSameBookUptoRow.holds Try.pinned (OpenSpec.upto fnExactSameBookSpec)

/-- 'laws.FnExactLinksOf', WHERE WHAT IT READS IS OF BULK AT MOST 1048576: true; the input reads as it did. -/
def fnExactLinksOfUptoRow : OpenClaim := { program := "yteegnbdgfedajaa", sum := "e724c52e67112dcac1d2e41d07ac009edd7d575cfb9d5fba98af47a20a8ce41c", func := "loop.example/g01174/laws.FnExactLinksOf", spec := "fnExactLinksOf", unfollowed := true, recurses := true, apart := false, narrowed := true }
def FnExactLinksOfUptoSaid : Prop := fnExactLinksOfUptoRow.holds Try.pinned (OpenSpec.upto fnExactLinksOfSpec)

end Rows
end Go.Proofs.Yteegnbdgfedajaa
