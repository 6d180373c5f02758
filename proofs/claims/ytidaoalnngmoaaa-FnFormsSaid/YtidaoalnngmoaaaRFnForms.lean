/-
  The statement FnFormsSaid is proved: for every code the law returns true and its argument reads afterwards as before. No conditions.
-/
import Derived.Test.YtidaoalnngmoaaaQFnForms
import Derived.Test.YtidaoalnngmoaaaY1
import Derived.Test.YtidaoalnngmoaaaY2
import Derived.Test.YtidaoalnngmoaaaY3
namespace Go.Proofs.Ytidaoalnngmoaaa.fnForms
open Go.ChangeShapes Go.WideShapes Go.ChangeAt Go.RowKit
set_option linter.unusedVariables false

theorem closed : joinedFacts Try.pinned.checked.prog 17 Try.f17 Rows.fnFormsSpec Rows.fnFormsRow = true := by
  unfold joinedFacts
  rw [prog_liftsFinal, prog_mayEnter, prog_make]
  kernel_rfl
theorem over : Rows.fnFormsRow.holds Try.pinned (OpenSpec.ofChange Rows.fnFormsSpec) :=
  OpenClaim.holds_of_wide 17 Try.f17 rfl rfl rfl rfl rfl rfl rfl ⟨rfl, rfl, rfl, rfl, rfl⟩ rfl rfl rfl rfl rfl (by kernel_rfl) Try.func17 closed
    (of_decide_eq_true (by kernel_rfl)) (by unfold Func.isWrapper; first | (rw [if_pos (by decide +kernel)]; kernel_rfl) | (rw [if_neg (by decide +kernel)]; exact ⟨rfl, rfl⟩))
    (fun os started H enc _ => lifted os started H enc)
theorem proved : Rows.FnFormsSaid := over
#print axioms proved
end Go.Proofs.Ytidaoalnngmoaaa.fnForms
