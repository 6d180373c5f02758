/-
  A closed fact on the whole program, which every row asks: liftsFinal. No conditions.
-/
import Derived.Test.YtidaoalnngmoaaaRows
import Derived.ProofKit
namespace Go.Proofs.Ytidaoalnngmoaaa
theorem prog_liftsFinal : Try.pinned.checked.prog.liftsFinal = false := by kernel_rfl
end Go.Proofs.Ytidaoalnngmoaaa
