/-
  The functions of FnStrings as Lean functions, with their contracts; written by a program of ours after the print. No conditions.
-/
import Derived.Test.YtneaomnlpfeedaaDoorProg
import Derived.Below
import Derived.Deep.Draws
import Derived.Deep.AppendLies
import Derived.Maps.AppendAt
import Derived.OwnWalk
import Derived.Laws.BytesArg
import Derived.Laws.MakeOwn
import Derived.Laws.OwnMore
import Derived.Deep.OwnRows
import Derived.Tactics
import Derived.Lib.ConvBytes
import Derived.Laws.Slices
import Derived.WalkKit
import Derived.KernelRfl
import Derived.RowKit3
import Derived.Deep.LoopGhost
import Derived.Deep.QuietTactic
import Derived.BigQuiet
import Derived.WideLaws
import Derived.Deep.DeepCutAuto
import Derived.Deep.CutBlock
import Derived.Deep.RegionHeld3
import Derived.Laws.Rows
import Derived.Lib.AppendStr
import Derived.ArgAppend
import Derived.Laws.IdiomCopy
import Derived.OrdersHeld
import Derived.Laws.BitsLemmas
import Derived.RowKit
import Derived.Test.YtneaomnlpfeedaaDoorWWords
import Derived.Test.YtneaomnlpfeedaaDoorWLast
import Derived.Test.YtneaomnlpfeedaaDoorWTab
import Derived.Test.YtneaomnlpfeedaaDoorWFour
import Derived.Test.YtneaomnlpfeedaaDoorWQPut
import Derived.Test.YtneaomnlpfeedaaDoorWApart
import Derived.Test.YtneaomnlpfeedaaDoorWArr
import Derived.Test.YtneaomnlpfeedaaDoorWZeros
import Derived.Test.YtneaomnlpfeedaaDoorWFoot
import Derived.Test.YtneaomnlpfeedaaDoorWKept
import Derived.Test.YtneaomnlpfeedaaDoorWShare
import Derived.Test.YtneaomnlpfeedaaDoorWN
import Derived.Test.YtneaomnlpfeedaaDoorWFootNe
import Derived.Test.YtneaomnlpfeedaaDoorWAt
import Derived.Test.YtneaomnlpfeedaaDoorWEqStruct
import Derived.Test.YtneaomnlpfeedaaDoorWRepsOne
import Derived.Test.YtneaomnlpfeedaaDoorWInv
import Derived.Test.YtneaomnlpfeedaaDoorWInvWords
import Derived.Test.YtneaomnlpfeedaaDoorWGuard
import Derived.Test.YtneaomnlpfeedaaDoorWNEv
import Derived.Test.YtneaomnlpfeedaaDoorWMore
namespace Go.Proofs.YtneaomnlpfeedaaDoor.PFnStrings
open Go.RowKit Go.Proofs.YtneaomnlpfeedaaDoorW.PrintWords Go.Proofs.YtneaomnlpfeedaaDoorW.PrintLast Go.Proofs.YtneaomnlpfeedaaDoorW.PrintMore
attribute [local go_sem] max2_int min2_int max_two min_two max_three min_three max_four min_four   -- for this text's walks alone
set_option linter.unusedVariables false
set_option linter.unusedSimpArgs false



def errW : Option Int → Value
  | none => .nilIface
  | some c => .iface 0 (.int .i64 c)
theorem errW_none : errW none = .nilIface := rfl
theorem errW_some (c : Int) : errW (some c) = .iface 0 (.int .i64 c) := rfl

theorem info9 : (Tryd.prog.info? 9).map (fun i => (i.zero, i.size, i.bytes)) = some (some (.string ⟨#[]⟩), 1, 16) := by kernel_rfl
-- the values' own types

end Go.Proofs.YtneaomnlpfeedaaDoor.PFnStrings
