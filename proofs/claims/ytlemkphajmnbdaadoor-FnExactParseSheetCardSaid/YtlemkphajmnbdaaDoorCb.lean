/-
  Contracts of the small functions on sheets that most claims of this seat use, second part. No conditions.
-/
import Derived.Test.YtlemkphajmnbdaaDoorCa
namespace Go.Proofs.YtlemkphajmnbdaaDoor
open Go.RowKit
set_option linter.unusedSimpArgs false
set_option linter.unusedVariables false

end Go.Proofs.YtlemkphajmnbdaaDoor
