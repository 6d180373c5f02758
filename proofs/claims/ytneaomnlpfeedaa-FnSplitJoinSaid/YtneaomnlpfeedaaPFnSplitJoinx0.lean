/-
  The functions of FnSplitJoin as Lean functions, with their contracts; written by a program of ours after the print. No conditions.
-/
import Derived.Test.YtneaomnlpfeedaaProg
import Derived.Below
import Derived.Deep.Draws
import Derived.Deep.AppendLies
import Derived.Maps.AppendAt
import Derived.OwnWalk
import Derived.Laws.BytesArg
import Derived.Laws.MakeOwn
import Derived.Laws.OwnMore
import Derived.Deep.OwnRows
import Derived.Tactics
import Derived.Lib.ConvBytes
import Derived.Laws.Slices
import Derived.WalkKit
import Derived.KernelRfl
import Derived.RowKit3
import Derived.Deep.LoopGhost
import Derived.Deep.QuietTactic
import Derived.BigQuiet
import Derived.WideLaws
import Derived.Deep.DeepCutAuto
import Derived.Deep.CutBlock
import Derived.Deep.RegionHeld3
import Derived.Laws.Rows
import Derived.Lib.AppendStr
import Derived.ArgAppend
import Derived.Laws.IdiomCopy
import Derived.OrdersHeld
import Derived.Laws.BitsLemmas
import Derived.RowKit
import Derived.Test.YtneaomnlpfeedaaWWords
import Derived.Test.YtneaomnlpfeedaaWLast
import Derived.Test.YtneaomnlpfeedaaWTab
import Derived.Test.YtneaomnlpfeedaaWFour
import Derived.Test.YtneaomnlpfeedaaWQPut
import Derived.Test.YtneaomnlpfeedaaWApart
import Derived.Test.YtneaomnlpfeedaaWArr
import Derived.Test.YtneaomnlpfeedaaWZeros
import Derived.Test.YtneaomnlpfeedaaWFoot
import Derived.Test.YtneaomnlpfeedaaWKept
import Derived.Test.YtneaomnlpfeedaaWShare
import Derived.Test.YtneaomnlpfeedaaWN
import Derived.Test.YtneaomnlpfeedaaWFootNe
import Derived.Test.YtneaomnlpfeedaaWAt
import Derived.Test.YtneaomnlpfeedaaWEqStruct
import Derived.Test.YtneaomnlpfeedaaWRepsOne
import Derived.Test.YtneaomnlpfeedaaWInv
import Derived.Test.YtneaomnlpfeedaaWInvWords
import Derived.Test.YtneaomnlpfeedaaWGuard
import Derived.Test.YtneaomnlpfeedaaWNEv
import Derived.Test.YtneaomnlpfeedaaWMore
namespace Go.Proofs.Ytneaomnlpfeedaa.PFnSplitJoin
open Go.RowKit Go.Proofs.YtneaomnlpfeedaaW.PrintWords Go.Proofs.YtneaomnlpfeedaaW.PrintLast Go.Proofs.YtneaomnlpfeedaaW.PrintMore
attribute [local go_sem] max2_int min2_int max_two min_two max_three min_three max_four min_four   -- for this text's walks alone
set_option linter.unusedVariables false
set_option linter.unusedSimpArgs false



def errW : Option Int → Value
  | none => .nilIface
  | some c => .iface 0 (.int .i64 c)
theorem errW_none : errW none = .nilIface := rfl
theorem errW_some (c : Int) : errW (some c) = .iface 0 (.int .i64 c) := rfl

theorem info9 : (Try.prog.info? 9).map (fun i => (i.zero, i.size, i.bytes)) = some (some (.string ⟨#[]⟩), 1, 16) := by kernel_rfl
-- the values' own types

end Go.Proofs.Ytneaomnlpfeedaa.PFnSplitJoin
