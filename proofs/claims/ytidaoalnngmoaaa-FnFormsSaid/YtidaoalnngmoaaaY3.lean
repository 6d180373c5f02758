/-
  A closed fact on the whole program, which every row asks: make. No conditions.
-/
import Derived.Test.YtidaoalnngmoaaaRows
import Derived.ProofKit
namespace Go.Proofs.Ytidaoalnngmoaaa
theorem prog_make : Try.pinned.checked.prog.make = some Rows.fnMotionsRow.make := by kernel_rfl
end Go.Proofs.Ytidaoalnngmoaaa
