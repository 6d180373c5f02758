/-
  The statement FnExactLessString is proved: for all strings, program and reference compare them alike. No conditions.
-/
import Derived.Test.YtneaomnlpfeedaaPFnExactLessStringx1
namespace Go.Proofs.Ytneaomnlpfeedaa.Pure
open Go.RowKit Go.Proofs.Ytneaomnlpfeedaa.PFnExactLessString Go.Proofs.YtneaomnlpfeedaaW.PrintWords Go.Proofs.YtneaomnlpfeedaaW.PrintLast

theorem FnExactLessString : laws_FnExactLessString.Pure := by
  intro a b _ _
  unfold laws_FnExactLessString.f spec_LessString.f impl_LessString.f
  split
  · rfl
  · split
    · rfl
    · simp

end Go.Proofs.Ytneaomnlpfeedaa.Pure
