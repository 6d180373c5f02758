/-
  Contracts of sizes of sheets of the reference. No conditions.
-/
import Derived.Test.YtidaoalnngmoaaaEa
namespace Go.Proofs.Ytidaoalnngmoaaa
open Go.RowKit
set_option linter.unusedSimpArgs false
set_option linter.unusedVariables false

def CtRel (X : Nat) (m i : Value) : Prop := ∃ y : Nat, y ≤ 6 ∧ i = .int .i64 (y : Int) ∧ m = .int .i64 ((dsN 1 (6 * y) X : Nat) : Int)
def CtIn (X y : Nat) (m r : Value) : Prop := ∃ a b : Nat, b < 64 ∧ m = .int .i64 (a : Int) ∧ r = .int .i64 (b : Int) ∧ Hid (a + dsN 1 6 b = dsN 1 (6 * (y + 1)) X)
end Go.Proofs.Ytidaoalnngmoaaa
