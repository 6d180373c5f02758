/-
  The statement FnMotionsSaid is proved: for every code the law returns true and its argument reads afterwards as before. No conditions.
-/
import Derived.Test.YtidaoalnngmoaaaQFnMotions
import Derived.Test.YtidaoalnngmoaaaY1
import Derived.Test.YtidaoalnngmoaaaY2
import Derived.Test.YtidaoalnngmoaaaY3
namespace Go.Proofs.Ytidaoalnngmoaaa.fnMotions
open Go.ChangeShapes Go.WideShapes Go.ChangeAt Go.RowKit
set_option linter.unusedVariables false

theorem closed : joinedFacts Try.pinned.checked.prog 16 Try.f16 Rows.fnMotionsSpec Rows.fnMotionsRow = true := by
  unfold joinedFacts
  rw [prog_liftsFinal, prog_mayEnter, prog_make]
  kernel_rfl
theorem over : Rows.fnMotionsRow.holds Try.pinned (OpenSpec.ofChange Rows.fnMotionsSpec) :=
  OpenClaim.holds_of_wide 16 Try.f16 rfl rfl rfl rfl rfl rfl rfl ⟨rfl, rfl, rfl, rfl, rfl⟩ rfl rfl rfl rfl rfl (by kernel_rfl) Try.func16 closed
    (of_decide_eq_true (by kernel_rfl)) (by unfold Func.isWrapper; first | (rw [if_pos (by decide +kernel)]; kernel_rfl) | (rw [if_neg (by decide +kernel)]; exact ⟨rfl, rfl⟩))
    (fun os started H enc _ => lifted os started H enc)
theorem proved : Rows.FnMotionsSaid := over
#print axioms proved
end Go.Proofs.Ytidaoalnngmoaaa.fnMotions
