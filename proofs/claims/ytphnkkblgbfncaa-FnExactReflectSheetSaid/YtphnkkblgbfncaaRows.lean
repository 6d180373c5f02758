/-
  No cell of these rows narrows 'for every input' (looked for: loops, veiled, ifaces, maps, wideKeys, modest, calm, conditions, laid).
  DERIVED. THE GIVEN ROWS OF THIS SEAT. 11 by the template 'for every input the law returns true; each argument reads behind the call as it read before'; 0 by the template 'total and deterministic' (their statements: YtphnkkblgbfncaaTotals.lean).
  GIVEN WITH THE SEED: the statements are not yours to turn. If you find one false, say at which input.
  Laid BY PROGRAM, IN A SANDBOX (cutbox-rows.mjs): the forced cells as the released guide's own fill.sh prints them over the translation 2ed239fb6cd5428b… (all of the seat's roots in one cut). By AI agents, Wed Nov 11 2026. No macro, syntax, notation, axiom, sorry.
-/
import Derived.Test.YtphnkkblgbfncaaChecked
import GoSem.Claim
import GoSem.ClaimJoined
import GoSem.ClaimMapViews
import Derived.JoinedTies
import Derived.KernelRfl
namespace Go.Proofs.Ytphnkkblgbfncaa
/- THE CELL 'sum', in the pinned program and in every row, IS THE sha256 OF THE DUMP (.gsa) THAT YtphnkkblgbfncaaProg.lean LOADS. Nothing in Lean hashes anything: it is a label: what it is worth is what the hold of that sum in a sandbox is worth. -/
noncomputable def Try.pinned : Pinned := { name := "ytphnkkblgbfncaa", sum := "2ed239fb6cd5428b096a6e57cc29c6730cd13f4fc49af20996b52ddb34065bfa", checked := Try.checked }
namespace Rows
def none {H : Type} : Left H := { results := [], args := [] }

/-- 'laws.FnExactReflectSheet': WHATEVER THE INPUT: true; the input reads as it did. -/
def fnExactReflectSheetSpec : ChangeSpec := { name := "fnExactReflectSheet", fn := fun _ => fun
  | [d] => { results := [.lit (.bool true)], args := [d] }
  | _ => none }
def fnExactReflectSheetRow : OpenClaim := { program := "ytphnkkblgbfncaa", sum := "2ed239fb6cd5428b096a6e57cc29c6730cd13f4fc49af20996b52ddb34065bfa", func := "loop.example/g01220/laws.FnExactReflectSheet", spec := "fnExactReflectSheet", unfollowed := true, recurses := true, apart := false }
def FnExactReflectSheetSaid : Prop := fnExactReflectSheetRow.holds Try.pinned (OpenSpec.ofChange fnExactReflectSheetSpec)

/-- ITS FALSE NEIGHBOUR: 'it returns false'. Refute it at one input. -/
def fnExactReflectSheetWrong : ChangeSpec := { name := "fnExactReflectSheet", fn := fun _ => fun
  | [d] => { results := [.lit (.bool false)], args := [d] }
  | _ => none }
def FnExactReflectSheetWrongFalsely : Prop := fnExactReflectSheetRow.holds Try.pinned (OpenSpec.ofChange fnExactReflectSheetWrong)

/-- 'laws.FnExactShrinkSheet': WHATEVER THE INPUT: true; the input reads as it did. -/
def fnExactShrinkSheetSpec : ChangeSpec := { name := "fnExactShrinkSheet", fn := fun _ => fun
  | [d1, d2] => { results := [.lit (.bool true)], args := [d1, d2] }
  | _ => none }
def fnExactShrinkSheetRow : OpenClaim := { program := "ytphnkkblgbfncaa", sum := "2ed239fb6cd5428b096a6e57cc29c6730cd13f4fc49af20996b52ddb34065bfa", func := "loop.example/g01220/laws.FnExactShrinkSheet", spec := "fnExactShrinkSheet", unfollowed := true, recurses := true, apart := false }
def FnExactShrinkSheetSaid : Prop := fnExactShrinkSheetRow.holds Try.pinned (OpenSpec.ofChange fnExactShrinkSheetSpec)

/-- ITS FALSE NEIGHBOUR: 'it returns false'. Refute it at one input. -/
def fnExactShrinkSheetWrong : ChangeSpec := { name := "fnExactShrinkSheet", fn := fun _ => fun
  | [d1, d2] => { results := [.lit (.bool false)], args := [d1, d2] }
  | _ => none }
def FnExactShrinkSheetWrongFalsely : Prop := fnExactShrinkSheetRow.holds Try.pinned (OpenSpec.ofChange fnExactShrinkSheetWrong)

/-- 'laws.FnExactTimesToFill': WHATEVER THE INPUT: true; the input reads as it did. -/
def fnExactTimesToFillSpec : ChangeSpec := { name := "fnExactTimesToFill", fn := fun _ => fun
  | [d1, d2] => { results := [.lit (.bool true)], args := [d1, d2] }
  | _ => none }
def fnExactTimesToFillRow : OpenClaim := { program := "ytphnkkblgbfncaa", sum := "2ed239fb6cd5428b096a6e57cc29c6730cd13f4fc49af20996b52ddb34065bfa", func := "loop.example/g01220/laws.FnExactTimesToFill", spec := "fnExactTimesToFill", unfollowed := true, recurses := true, apart := false }
def FnExactTimesToFillSaid : Prop := fnExactTimesToFillRow.holds Try.pinned (OpenSpec.ofChange fnExactTimesToFillSpec)

/-- ITS FALSE NEIGHBOUR: 'it returns false'. Refute it at one input. -/
def fnExactTimesToFillWrong : ChangeSpec := { name := "fnExactTimesToFill", fn := fun _ => fun
  | [d1, d2] => { results := [.lit (.bool false)], args := [d1, d2] }
  | _ => none }
def FnExactTimesToFillWrongFalsely : Prop := fnExactTimesToFillRow.holds Try.pinned (OpenSpec.ofChange fnExactTimesToFillWrong)

/-- 'laws.FnExactInnerEdge': WHATEVER THE INPUT: true; the input reads as it did. -/
def fnExactInnerEdgeSpec : ChangeSpec := { name := "fnExactInnerEdge", fn := fun _ => fun
  | [d1, d2] => { results := [.lit (.bool true)], args := [d1, d2] }
  | _ => none }
def fnExactInnerEdgeRow : OpenClaim := { program := "ytphnkkblgbfncaa", sum := "2ed239fb6cd5428b096a6e57cc29c6730cd13f4fc49af20996b52ddb34065bfa", func := "loop.example/g01220/laws.FnExactInnerEdge", spec := "fnExactInnerEdge", unfollowed := true, recurses := true, apart := false }
def FnExactInnerEdgeSaid : Prop := fnExactInnerEdgeRow.holds Try.pinned (OpenSpec.ofChange fnExactInnerEdgeSpec)

/-- ITS FALSE NEIGHBOUR: 'it returns false'. Refute it at one input. -/
def fnExactInnerEdgeWrong : ChangeSpec := { name := "fnExactInnerEdge", fn := fun _ => fun
  | [d1, d2] => { results := [.lit (.bool false)], args := [d1, d2] }
  | _ => none }
def FnExactInnerEdgeWrongFalsely : Prop := fnExactInnerEdgeRow.holds Try.pinned (OpenSpec.ofChange fnExactInnerEdgeWrong)

/-- 'laws.FnExactSpreadSheet': WHATEVER THE INPUT: true; the input reads as it did. -/
def fnExactSpreadSheetSpec : ChangeSpec := { name := "fnExactSpreadSheet", fn := fun _ => fun
  | [d1, d2] => { results := [.lit (.bool true)], args := [d1, d2] }
  | _ => none }
def fnExactSpreadSheetRow : OpenClaim := { program := "ytphnkkblgbfncaa", sum := "2ed239fb6cd5428b096a6e57cc29c6730cd13f4fc49af20996b52ddb34065bfa", func := "loop.example/g01220/laws.FnExactSpreadSheet", spec := "fnExactSpreadSheet", unfollowed := true, recurses := true, apart := false }
def FnExactSpreadSheetSaid : Prop := fnExactSpreadSheetRow.holds Try.pinned (OpenSpec.ofChange fnExactSpreadSheetSpec)

/-- ITS FALSE NEIGHBOUR: 'it returns false'. Refute it at one input. -/
def fnExactSpreadSheetWrong : ChangeSpec := { name := "fnExactSpreadSheet", fn := fun _ => fun
  | [d1, d2] => { results := [.lit (.bool false)], args := [d1, d2] }
  | _ => none }
def FnExactSpreadSheetWrongFalsely : Prop := fnExactSpreadSheetRow.holds Try.pinned (OpenSpec.ofChange fnExactSpreadSheetWrong)

/-- 'laws.FnExactSumStamp': WHATEVER THE INPUT: true; the input reads as it did. -/
def fnExactSumStampSpec : ChangeSpec := { name := "fnExactSumStamp", fn := fun _ => fun
  | [d1, d2] => { results := [.lit (.bool true)], args := [d1, d2] }
  | _ => none }
def fnExactSumStampRow : OpenClaim := { program := "ytphnkkblgbfncaa", sum := "2ed239fb6cd5428b096a6e57cc29c6730cd13f4fc49af20996b52ddb34065bfa", func := "loop.example/g01220/laws.FnExactSumStamp", spec := "fnExactSumStamp", unfollowed := true, recurses := true, apart := false }
def FnExactSumStampSaid : Prop := fnExactSumStampRow.holds Try.pinned (OpenSpec.ofChange fnExactSumStampSpec)

/-- ITS FALSE NEIGHBOUR: 'it returns false'. Refute it at one input. -/
def fnExactSumStampWrong : ChangeSpec := { name := "fnExactSumStamp", fn := fun _ => fun
  | [d1, d2] => { results := [.lit (.bool false)], args := [d1, d2] }
  | _ => none }
def FnExactSumStampWrongFalsely : Prop := fnExactSumStampRow.holds Try.pinned (OpenSpec.ofChange fnExactSumStampWrong)

/-- 'laws.FnExactHitSheet': WHATEVER THE INPUT: true; the input reads as it did. -/
def fnExactHitSheetSpec : ChangeSpec := { name := "fnExactHitSheet", fn := fun _ => fun
  | [d1, d2, d3] => { results := [.lit (.bool true)], args := [d1, d2, d3] }
  | _ => none }
def fnExactHitSheetRow : OpenClaim := { program := "ytphnkkblgbfncaa", sum := "2ed239fb6cd5428b096a6e57cc29c6730cd13f4fc49af20996b52ddb34065bfa", func := "loop.example/g01220/laws.FnExactHitSheet", spec := "fnExactHitSheet", unfollowed := true, recurses := true, apart := false }
def FnExactHitSheetSaid : Prop := fnExactHitSheetRow.holds Try.pinned (OpenSpec.ofChange fnExactHitSheetSpec)

/-- ITS FALSE NEIGHBOUR: 'it returns false'. Refute it at one input. -/
def fnExactHitSheetWrong : ChangeSpec := { name := "fnExactHitSheet", fn := fun _ => fun
  | [d1, d2, d3] => { results := [.lit (.bool false)], args := [d1, d2, d3] }
  | _ => none }
def FnExactHitSheetWrongFalsely : Prop := fnExactHitSheetRow.holds Try.pinned (OpenSpec.ofChange fnExactHitSheetWrong)

/-- 'laws.FnExactShrinkLeft': WHATEVER THE INPUT: true; the input reads as it did. -/
def fnExactShrinkLeftSpec : ChangeSpec := { name := "fnExactShrinkLeft", fn := fun _ => fun
  | [d1, d2] => { results := [.lit (.bool true)], args := [d1, d2] }
  | _ => none }
def fnExactShrinkLeftRow : OpenClaim := { program := "ytphnkkblgbfncaa", sum := "2ed239fb6cd5428b096a6e57cc29c6730cd13f4fc49af20996b52ddb34065bfa", func := "loop.example/g01220/laws.FnExactShrinkLeft", spec := "fnExactShrinkLeft", unfollowed := true, recurses := true, apart := false }
def FnExactShrinkLeftSaid : Prop := fnExactShrinkLeftRow.holds Try.pinned (OpenSpec.ofChange fnExactShrinkLeftSpec)

/-- ITS FALSE NEIGHBOUR: 'it returns false'. Refute it at one input. -/
def fnExactShrinkLeftWrong : ChangeSpec := { name := "fnExactShrinkLeft", fn := fun _ => fun
  | [d1, d2] => { results := [.lit (.bool false)], args := [d1, d2] }
  | _ => none }
def FnExactShrinkLeftWrongFalsely : Prop := fnExactShrinkLeftRow.holds Try.pinned (OpenSpec.ofChange fnExactShrinkLeftWrong)

/-- 'laws.FnExactSpreadTimes': WHATEVER THE INPUT: true; the input reads as it did. -/
def fnExactSpreadTimesSpec : ChangeSpec := { name := "fnExactSpreadTimes", fn := fun _ => fun
  | [d1, d2, d3] => { results := [.lit (.bool true)], args := [d1, d2, d3] }
  | _ => none }
def fnExactSpreadTimesRow : OpenClaim := { program := "ytphnkkblgbfncaa", sum := "2ed239fb6cd5428b096a6e57cc29c6730cd13f4fc49af20996b52ddb34065bfa", func := "loop.example/g01220/laws.FnExactSpreadTimes", spec := "fnExactSpreadTimes", unfollowed := true, recurses := true, apart := false }
def FnExactSpreadTimesSaid : Prop := fnExactSpreadTimesRow.holds Try.pinned (OpenSpec.ofChange fnExactSpreadTimesSpec)

/-- ITS FALSE NEIGHBOUR: 'it returns false'. Refute it at one input. -/
def fnExactSpreadTimesWrong : ChangeSpec := { name := "fnExactSpreadTimes", fn := fun _ => fun
  | [d1, d2, d3] => { results := [.lit (.bool false)], args := [d1, d2, d3] }
  | _ => none }
def FnExactSpreadTimesWrongFalsely : Prop := fnExactSpreadTimesRow.holds Try.pinned (OpenSpec.ofChange fnExactSpreadTimesWrong)

/-- 'laws.FnExactIsClosed': WHATEVER THE INPUT: true; the input reads as it did. -/
def fnExactIsClosedSpec : ChangeSpec := { name := "fnExactIsClosed", fn := fun _ => fun
  | [d1, d2] => { results := [.lit (.bool true)], args := [d1, d2] }
  | _ => none }
def fnExactIsClosedRow : OpenClaim := { program := "ytphnkkblgbfncaa", sum := "2ed239fb6cd5428b096a6e57cc29c6730cd13f4fc49af20996b52ddb34065bfa", func := "loop.example/g01220/laws.FnExactIsClosed", spec := "fnExactIsClosed", unfollowed := true, recurses := true, apart := false }
def FnExactIsClosedSaid : Prop := fnExactIsClosedRow.holds Try.pinned (OpenSpec.ofChange fnExactIsClosedSpec)

/-- ITS FALSE NEIGHBOUR: 'it returns false'. Refute it at one input. -/
def fnExactIsClosedWrong : ChangeSpec := { name := "fnExactIsClosed", fn := fun _ => fun
  | [d1, d2] => { results := [.lit (.bool false)], args := [d1, d2] }
  | _ => none }
def FnExactIsClosedWrongFalsely : Prop := fnExactIsClosedRow.holds Try.pinned (OpenSpec.ofChange fnExactIsClosedWrong)

/-- 'laws.FnExactIsOpened': WHATEVER THE INPUT: true; the input reads as it did. -/
def fnExactIsOpenedSpec : ChangeSpec := { name := "fnExactIsOpened", fn := fun _ => fun
  | [d1, d2] => { results := [.lit (.bool true)], args := [d1, d2] }
  | _ => none }
def fnExactIsOpenedRow : OpenClaim := { program := "ytphnkkblgbfncaa", sum := "2ed239fb6cd5428b096a6e57cc29c6730cd13f4fc49af20996b52ddb34065bfa", func := "loop.example/g01220/laws.FnExactIsOpened", spec := "fnExactIsOpened", unfollowed := true, recurses := true, apart := false }
def FnExactIsOpenedSaid : Prop := fnExactIsOpenedRow.holds Try.pinned (OpenSpec.ofChange fnExactIsOpenedSpec)

/-- ITS FALSE NEIGHBOUR: 'it returns false'. Refute it at one input. -/
def fnExactIsOpenedWrong : ChangeSpec := { name := "fnExactIsOpened", fn := fun _ => fun
  | [d1, d2] => { results := [.lit (.bool false)], args := [d1, d2] }
  | _ => none }
def FnExactIsOpenedWrongFalsely : Prop := fnExactIsOpenedRow.holds Try.pinned (OpenSpec.ofChange fnExactIsOpenedWrong)

/- THE SECOND FORM. 'bulk': how many values and letters a reading holds, each counted each time it is reached (what is shared counts as often as it is met; a slice's spare places count too). A statement '..UptoSaid' is the law's where the arguments, and the package variables that the reading takes, are together of bulk at most 1048576: NARROWER than '..Said'. Prove '..Said' where nothing that the law and all that it calls make is longer than what came in: it says more and counts as full. Else prove '..UptoSaid'. A law counts once. -/
mutual
def uptoBulk {H : Type} : DataW H → Nat
  | .lit (.string bytes) => bytes.length + 1
  | .lit _ => 1
  | .nil => 1
  | .ptr d => uptoBulk d + 1
  | .slice elems spare => uptoBulkAll elems + uptoBulkAll spare + 1
  | .agg parts => uptoBulkAll parts + 1
  | .iface _ d => uptoBulk d + 1
  | .map entries => uptoBulkEntries entries + 1
  | .held _ => 1
def uptoBulkAll {H : Type} : List (DataW H) → Nat
  | [] => 0
  | d :: r => uptoBulk d + uptoBulkAll r
def uptoBulkEntries {H : Type} : List (Lit × DataW H) → Nat
  | [] => 0
  | x :: r => uptoBulkEntry x + uptoBulkEntries r
def uptoBulkEntry {H : Type} : Lit × DataW H → Nat
  | (.string bytes, d) => bytes.length + uptoBulk d + 1
  | (_, d) => uptoBulk d + 1
 end
def uptoSmall : (H : Type) → List (DataW H) → Bool := fun _ ds => decide (uptoBulkAll ds ≤ 1048576)
def OpenSpec.upto (s : _root_.Go.ChangeSpec) : _root_.Go.OpenSpec := { _root_.Go.OpenSpec.ofChange s with cond := some uptoSmall }

/-- 'laws.FnExactReflectSheet', WHERE WHAT IT READS IS OF BULK AT MOST 1048576: true; the input reads as it did. -/
def fnExactReflectSheetUptoRow : OpenClaim := { program := "ytphnkkblgbfncaa", sum := "2ed239fb6cd5428b096a6e57cc29c6730cd13f4fc49af20996b52ddb34065bfa", func := "loop.example/g01220/laws.FnExactReflectSheet", spec := "fnExactReflectSheet", unfollowed := true, recurses := true, apart := false, narrowed := true }
def FnExactReflectSheetUptoSaid : Prop := fnExactReflectSheetUptoRow.holds Try.pinned (OpenSpec.upto fnExactReflectSheetSpec)

/-- 'laws.FnExactShrinkSheet', WHERE WHAT IT READS IS OF BULK AT MOST 1048576: true; the input reads as it did. -/
def fnExactShrinkSheetUptoRow : OpenClaim := { program := "ytphnkkblgbfncaa", sum := "2ed239fb6cd5428b096a6e57cc29c6730cd13f4fc49af20996b52ddb34065bfa", func := "loop.example/g01220/laws.FnExactShrinkSheet", spec := "fnExactShrinkSheet", unfollowed := true, recurses := true, apart := false, narrowed := true }
def FnExactShrinkSheetUptoSaid : Prop := fnExactShrinkSheetUptoRow.holds Try.pinned (OpenSpec.upto fnExactShrinkSheetSpec)

/-- 'laws.FnExactTimesToFill', WHERE WHAT IT READS IS OF BULK AT MOST 1048576: true; the input reads as it did. -/
def fnExactTimesToFillUptoRow : OpenClaim := { program := "ytphnkkblgbfncaa", sum := "2ed239fb6cd5428b096a6e57cc29c6730cd13f4fc49af20996b52ddb34065bfa", func := "loop.example/g01220/laws.FnExactTimesToFill", spec := "fnExactTimesToFill", unfollowed := true, recurses := true, apart := false, narrowed := true }
def FnExactTimesToFillUptoSaid : Prop := fnExactTimesToFillUptoRow.holds Try.pinned (OpenSpec.upto fnExactTimesToFillSpec)

/-- 'laws.FnExactInnerEdge', WHERE WHAT IT READS IS OF BULK AT MOST 1048576: true; the input reads as it did. -/
def fnExactInnerEdgeUptoRow : OpenClaim := { program := "ytphnkkblgbfncaa", sum := "2ed239fb6cd5428b096a6e57cc29c6730cd13f4fc49af20996b52ddb34065bfa", func := "loop.example/g01220/laws.FnExactInnerEdge", spec := "fnExactInnerEdge", unfollowed := true, recurses := true, apart := false, narrowed := true }
def FnExactInnerEdgeUptoSaid : Prop := fnExactInnerEdgeUptoRow.holds Try.pinned (OpenSpec.upto fnExactInnerEdgeSpec)

/-- 'laws.FnExactSpreadSheet', WHERE WHAT IT READS IS OF BULK AT MOST 1048576: true; the input reads as it did. -/
def fnExactSpreadSheetUptoRow : OpenClaim := { program := "ytphnkkblgbfncaa", sum := "2ed239fb6cd5428b096a6e57cc29c6730cd13f4fc49af20996b52ddb34065bfa", func := "loop.example/g01220/laws.FnExactSpreadSheet", spec := "fnExactSpreadSheet", unfollowed := true, recurses := true, apart := false, narrowed := true }
def FnExactSpreadSheetUptoSaid : Prop := fnExactSpreadSheetUptoRow.holds Try.pinned (OpenSpec.upto fnExactSpreadSheetSpec)

/-- 'laws.FnExactSumStamp', WHERE WHAT IT READS IS OF BULK AT MOST 1048576: true; the input reads as it did. -/
def fnExactSumStampUptoRow : OpenClaim := { program := "ytphnkkblgbfncaa", sum := "2ed239fb6cd5428b096a6e57cc29c6730cd13f4fc49af20996b52ddb34065bfa", func := "loop.example/g01220/laws.FnExactSumStamp", spec := "fnExactSumStamp", unfollowed := true, recurses := true, apart := false, narrowed := true }
def FnExactSumStampUptoSaid : Prop := fnExactSumStampUptoRow.holds Try.pinned (OpenSpec.upto fnExactSumStampSpec)

/-- 'laws.FnExactHitSheet', WHERE WHAT IT READS IS OF BULK AT MOST 1048576: true; the input reads as it did. -/
def fnExactHitSheetUptoRow : OpenClaim := { program := "ytphnkkblgbfncaa", sum := "2ed239fb6cd5428b096a6e57cc29c6730cd13f4fc49af20996b52ddb34065bfa", func := "loop.example/g01220/laws.FnExactHitSheet", spec := "fnExactHitSheet", unfollowed := true, recurses := true, apart := false, narrowed := true }
def FnExactHitSheetUptoSaid : Prop := fnExactHitSheetUptoRow.holds Try.pinned (OpenSpec.upto fnExactHitSheetSpec)

/-- 'laws.FnExactShrinkLeft', WHERE WHAT IT READS IS OF BULK AT MOST 1048576: true; the input reads as it did. -/
def fnExactShrinkLeftUptoRow : OpenClaim := { program := "ytphnkkblgbfncaa", sum := "2ed239fb6cd5428b096a6e57cc29c6730cd13f4fc49af20996b52ddb34065bfa", func := "loop.example/g01220/laws.FnExactShrinkLeft", spec := "fnExactShrinkLeft", unfollowed := true, recurses := true, apart := false, narrowed := true }
def FnExactShrinkLeftUptoSaid : Prop := fnExactShrinkLeftUptoRow.holds Try.pinned (OpenSpec.upto fnExactShrinkLeftSpec)

/-- 'laws.FnExactSpreadTimes', WHERE WHAT IT READS IS OF BULK AT MOST 1048576: true; the input reads as it did. -/
def fnExactSpreadTimesUptoRow : OpenClaim := { program := "ytphnkkblgbfncaa", sum := "2ed239fb6cd5428b096a6e57cc29c6730cd13f4fc49af20996b52ddb34065bfa", func := "loop.example/g01220/laws.FnExactSpreadTimes", spec := "fnExactSpreadTimes", unfollowed := true, recurses := true, apart := false, narrowed := true }
def FnExactSpreadTimesUptoSaid : Prop := fnExactSpreadTimesUptoRow.holds Try.pinned (OpenSpec.upto fnExactSpreadTimesSpec)

/-- 'laws.FnExactIsClosed', WHERE WHAT IT READS IS OF BULK AT MOST 1048576: true; the input reads as it did. -/
def fnExactIsClosedUptoRow : OpenClaim := { program := "ytphnkkblgbfncaa", sum := "2ed239fb6cd5428b096a6e57cc29c6730cd13f4fc49af20996b52ddb34065bfa", func := "loop.example/g01220/laws.FnExactIsClosed", spec := "fnExactIsClosed", unfollowed := true, recurses := true, apart := false, narrowed := true }
def FnExactIsClosedUptoSaid : Prop := fnExactIsClosedUptoRow.holds Try.pinned (OpenSpec.upto fnExactIsClosedSpec)

/-- 'laws.FnExactIsOpened', WHERE WHAT IT READS IS OF BULK AT MOST 1048576: true; the input reads as it did. -/
def fnExactIsOpenedUptoRow : OpenClaim := { program := "ytphnkkblgbfncaa", sum := "2ed239fb6cd5428b096a6e57cc29c6730cd13f4fc49af20996b52ddb34065bfa", func := "loop.example/g01220/laws.FnExactIsOpened", spec := "fnExactIsOpened", unfollowed := true, recurses := true, apart := false, narrowed := true }
def FnExactIsOpenedUptoSaid : Prop := fnExactIsOpenedUptoRow.holds Try.pinned (OpenSpec.upto fnExactIsOpenedSpec)

end Rows
end Go.Proofs.Ytphnkkblgbfncaa
