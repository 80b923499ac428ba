/- The laws' own words on lists of bytes: counted, copied, held against each other, marked. No condition. -/
import Derived.Test.YtikpakhccmdmcaaLib
import Derived.Deep.OwnRows
namespace Go.Proofs.Ytikpakhccmdmcaa
open Go.RowKit
set_option linter.unusedVariables false
set_option linter.unusedSimpArgs false

theorem made_nums (k : IntKind) (n : Nat) : madeCells #[.int k 0] n = numsA k (List.replicate n 0) := by
  apply Array.ext
  · simp [madeCells, numsA, nums]
  · intro i h1 h2
    simp [madeCells, numsA, nums, Nat.mod_one]
theorem make_bytes (m : Nat) (hm : m ≤ 140737488355328) : ∀ W : World, (Instr.makeSlice 126 (.int .i64 (m : Int)) (.int .i64 (m : Int))).run Try.prog W =
    .ok (.slice (some ⟨W.heap.size, 0, none⟩) m m) (W.alloc (.cells (numsA .u8 (List.replicate m 0)) 5)) := by
  intro W
  rw [← made_nums]
  exact run_make_row' 126 5 (.int .u8 0) 1 Try.underlying126 (by kernel_rfl) rfl .i64 .i64 m (by omega) (by omega) W

end Go.Proofs.Ytikpakhccmdmcaa
