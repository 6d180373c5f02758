/-
  A closed fact on the whole program, which every row asks: mayEnter. No conditions.
-/
import Derived.Test.YtidaoalnngmoaaaRows
import Derived.ProofKit
namespace Go.Proofs.Ytidaoalnngmoaaa
theorem prog_mayEnter : Try.pinned.checked.prog.mayEnter = true := by kernel_rfl
end Go.Proofs.Ytidaoalnngmoaaa
