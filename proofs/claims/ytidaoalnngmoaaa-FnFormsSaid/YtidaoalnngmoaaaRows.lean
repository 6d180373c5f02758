/-
  No cell of these rows narrows 'for every input' (looked for: loops, veiled, ifaces, maps, wideKeys, modest, calm, conditions, laid).
  DERIVED. THE GIVEN ROWS OF THIS SEAT. 15 by the template 'for every input the law returns true; each argument reads behind the call as it read before'; 0 by the template 'total and deterministic' (their statements: YtidaoalnngmoaaaTotals.lean).
  GIVEN WITH THE SEED: the statements are not yours to turn. If you find one false, say at which input.
  Laid BY PROGRAM, IN A SANDBOX (cutbox-rows.mjs): the forced cells as the released guide's own fill.sh prints them over the translation 5cb73e3144036bb8… (all of the seat's roots in one cut). By AI agents, Wed Nov 11 2026. No macro, syntax, notation, axiom, sorry.
-/
import Derived.Test.YtidaoalnngmoaaaChecked
import GoSem.Claim
import GoSem.ClaimJoined
import GoSem.ClaimMapViews
import Derived.JoinedTies
import Derived.KernelRfl
namespace Go.Proofs.Ytidaoalnngmoaaa
/- THE CELL 'sum', in the pinned program and in every row, IS THE sha256 OF THE DUMP (.gsa) THAT YtidaoalnngmoaaaProg.lean LOADS. Nothing in Lean hashes anything: it is a label: what it is worth is what the hold of that sum in a sandbox is worth. -/
noncomputable def Try.pinned : Pinned := { name := "ytidaoalnngmoaaa", sum := "5cb73e3144036bb8493bdbe04076acf8f087e5c96bbe514888f2b34c33187ec3", checked := Try.checked }
namespace Rows
def none {H : Type} : Left H := { results := [], args := [] }

/-- 'laws.FnExactTurnVector': WHATEVER THE INPUT: true; the input reads as it did. -/
def fnExactTurnVectorSpec : ChangeSpec := { name := "fnExactTurnVector", fn := fun _ => fun
  | [d1, d2, d3] => { results := [.lit (.bool true)], args := [d1, d2, d3] }
  | _ => none }
def fnExactTurnVectorRow : OpenClaim := { program := "ytidaoalnngmoaaa", sum := "5cb73e3144036bb8493bdbe04076acf8f087e5c96bbe514888f2b34c33187ec3", func := "loop.example/g01220/laws.FnExactTurnVector", spec := "fnExactTurnVector", apart := false }
def FnExactTurnVectorSaid : Prop := fnExactTurnVectorRow.holds Try.pinned (OpenSpec.ofChange fnExactTurnVectorSpec)

/-- ITS FALSE NEIGHBOUR: 'it returns false'. Refute it at one input. -/
def fnExactTurnVectorWrong : ChangeSpec := { name := "fnExactTurnVector", fn := fun _ => fun
  | [d1, d2, d3] => { results := [.lit (.bool false)], args := [d1, d2, d3] }
  | _ => none }
def FnExactTurnVectorWrongFalsely : Prop := fnExactTurnVectorRow.holds Try.pinned (OpenSpec.ofChange fnExactTurnVectorWrong)

/-- 'laws.FnExactTurnBehind': WHATEVER THE INPUT: true; the input reads as it did. -/
def fnExactTurnBehindSpec : ChangeSpec := { name := "fnExactTurnBehind", fn := fun _ => fun
  | [d1, d2] => { results := [.lit (.bool true)], args := [d1, d2] }
  | _ => none }
def fnExactTurnBehindRow : OpenClaim := { program := "ytidaoalnngmoaaa", sum := "5cb73e3144036bb8493bdbe04076acf8f087e5c96bbe514888f2b34c33187ec3", func := "loop.example/g01220/laws.FnExactTurnBehind", spec := "fnExactTurnBehind", unfollowed := true, recurses := true, apart := false }
def FnExactTurnBehindSaid : Prop := fnExactTurnBehindRow.holds Try.pinned (OpenSpec.ofChange fnExactTurnBehindSpec)

/-- ITS FALSE NEIGHBOUR: 'it returns false'. Refute it at one input. -/
def fnExactTurnBehindWrong : ChangeSpec := { name := "fnExactTurnBehind", fn := fun _ => fun
  | [d1, d2] => { results := [.lit (.bool false)], args := [d1, d2] }
  | _ => none }
def FnExactTurnBehindWrongFalsely : Prop := fnExactTurnBehindRow.holds Try.pinned (OpenSpec.ofChange fnExactTurnBehindWrong)

/-- 'laws.FnExactTurnBack': WHATEVER THE INPUT: true; the input reads as it did. -/
def fnExactTurnBackSpec : ChangeSpec := { name := "fnExactTurnBack", fn := fun _ => fun
  | [d] => { results := [.lit (.bool true)], args := [d] }
  | _ => none }
def fnExactTurnBackRow : OpenClaim := { program := "ytidaoalnngmoaaa", sum := "5cb73e3144036bb8493bdbe04076acf8f087e5c96bbe514888f2b34c33187ec3", func := "loop.example/g01220/laws.FnExactTurnBack", spec := "fnExactTurnBack", unfollowed := true, recurses := true, apart := false }
def FnExactTurnBackSaid : Prop := fnExactTurnBackRow.holds Try.pinned (OpenSpec.ofChange fnExactTurnBackSpec)

/-- ITS FALSE NEIGHBOUR: 'it returns false'. Refute it at one input. -/
def fnExactTurnBackWrong : ChangeSpec := { name := "fnExactTurnBack", fn := fun _ => fun
  | [d] => { results := [.lit (.bool false)], args := [d] }
  | _ => none }
def FnExactTurnBackWrongFalsely : Prop := fnExactTurnBackRow.holds Try.pinned (OpenSpec.ofChange fnExactTurnBackWrong)

/-- 'laws.FnExactTurnSheet': WHATEVER THE INPUT: true; the input reads as it did. -/
def fnExactTurnSheetSpec : ChangeSpec := { name := "fnExactTurnSheet", fn := fun _ => fun
  | [d1, d2] => { results := [.lit (.bool true)], args := [d1, d2] }
  | _ => none }
def fnExactTurnSheetRow : OpenClaim := { program := "ytidaoalnngmoaaa", sum := "5cb73e3144036bb8493bdbe04076acf8f087e5c96bbe514888f2b34c33187ec3", func := "loop.example/g01220/laws.FnExactTurnSheet", spec := "fnExactTurnSheet", unfollowed := true, recurses := true, apart := false }
def FnExactTurnSheetSaid : Prop := fnExactTurnSheetRow.holds Try.pinned (OpenSpec.ofChange fnExactTurnSheetSpec)

/-- ITS FALSE NEIGHBOUR: 'it returns false'. Refute it at one input. -/
def fnExactTurnSheetWrong : ChangeSpec := { name := "fnExactTurnSheet", fn := fun _ => fun
  | [d1, d2] => { results := [.lit (.bool false)], args := [d1, d2] }
  | _ => none }
def FnExactTurnSheetWrongFalsely : Prop := fnExactTurnSheetRow.holds Try.pinned (OpenSpec.ofChange fnExactTurnSheetWrong)

/-- 'laws.FnExactMotionBehind': WHATEVER THE INPUT: true; the input reads as it did. -/
def fnExactMotionBehindSpec : ChangeSpec := { name := "fnExactMotionBehind", fn := fun _ => fun
  | [d1, d2] => { results := [.lit (.bool true)], args := [d1, d2] }
  | _ => none }
def fnExactMotionBehindRow : OpenClaim := { program := "ytidaoalnngmoaaa", sum := "5cb73e3144036bb8493bdbe04076acf8f087e5c96bbe514888f2b34c33187ec3", func := "loop.example/g01220/laws.FnExactMotionBehind", spec := "fnExactMotionBehind", unfollowed := true, recurses := true, apart := false }
def FnExactMotionBehindSaid : Prop := fnExactMotionBehindRow.holds Try.pinned (OpenSpec.ofChange fnExactMotionBehindSpec)

/-- ITS FALSE NEIGHBOUR: 'it returns false'. Refute it at one input. -/
def fnExactMotionBehindWrong : ChangeSpec := { name := "fnExactMotionBehind", fn := fun _ => fun
  | [d1, d2] => { results := [.lit (.bool false)], args := [d1, d2] }
  | _ => none }
def FnExactMotionBehindWrongFalsely : Prop := fnExactMotionBehindRow.holds Try.pinned (OpenSpec.ofChange fnExactMotionBehindWrong)

/-- 'laws.FnExactMotionBack': WHATEVER THE INPUT: true; the input reads as it did. -/
def fnExactMotionBackSpec : ChangeSpec := { name := "fnExactMotionBack", fn := fun _ => fun
  | [d] => { results := [.lit (.bool true)], args := [d] }
  | _ => none }
def fnExactMotionBackRow : OpenClaim := { program := "ytidaoalnngmoaaa", sum := "5cb73e3144036bb8493bdbe04076acf8f087e5c96bbe514888f2b34c33187ec3", func := "loop.example/g01220/laws.FnExactMotionBack", spec := "fnExactMotionBack", unfollowed := true, recurses := true, apart := false }
def FnExactMotionBackSaid : Prop := fnExactMotionBackRow.holds Try.pinned (OpenSpec.ofChange fnExactMotionBackSpec)

/-- ITS FALSE NEIGHBOUR: 'it returns false'. Refute it at one input. -/
def fnExactMotionBackWrong : ChangeSpec := { name := "fnExactMotionBack", fn := fun _ => fun
  | [d] => { results := [.lit (.bool false)], args := [d] }
  | _ => none }
def FnExactMotionBackWrongFalsely : Prop := fnExactMotionBackRow.holds Try.pinned (OpenSpec.ofChange fnExactMotionBackWrong)

/-- 'laws.FnExactMoveSheet': WHATEVER THE INPUT: true; the input reads as it did. -/
def fnExactMoveSheetSpec : ChangeSpec := { name := "fnExactMoveSheet", fn := fun _ => fun
  | [d1, d2] => { results := [.lit (.bool true)], args := [d1, d2] }
  | _ => none }
def fnExactMoveSheetRow : OpenClaim := { program := "ytidaoalnngmoaaa", sum := "5cb73e3144036bb8493bdbe04076acf8f087e5c96bbe514888f2b34c33187ec3", func := "loop.example/g01220/laws.FnExactMoveSheet", spec := "fnExactMoveSheet", unfollowed := true, recurses := true, apart := false }
def FnExactMoveSheetSaid : Prop := fnExactMoveSheetRow.holds Try.pinned (OpenSpec.ofChange fnExactMoveSheetSpec)

/-- ITS FALSE NEIGHBOUR: 'it returns false'. Refute it at one input. -/
def fnExactMoveSheetWrong : ChangeSpec := { name := "fnExactMoveSheet", fn := fun _ => fun
  | [d1, d2] => { results := [.lit (.bool false)], args := [d1, d2] }
  | _ => none }
def FnExactMoveSheetWrongFalsely : Prop := fnExactMoveSheetRow.holds Try.pinned (OpenSpec.ofChange fnExactMoveSheetWrong)

/-- 'laws.FnExactFirstPlace': WHATEVER THE INPUT: true; the input reads as it did. -/
def fnExactFirstPlaceSpec : ChangeSpec := { name := "fnExactFirstPlace", fn := fun _ => fun
  | [d] => { results := [.lit (.bool true)], args := [d] }
  | _ => none }
def fnExactFirstPlaceRow : OpenClaim := { program := "ytidaoalnngmoaaa", sum := "5cb73e3144036bb8493bdbe04076acf8f087e5c96bbe514888f2b34c33187ec3", func := "loop.example/g01220/laws.FnExactFirstPlace", spec := "fnExactFirstPlace", unfollowed := true, recurses := true, apart := false }
def FnExactFirstPlaceSaid : Prop := fnExactFirstPlaceRow.holds Try.pinned (OpenSpec.ofChange fnExactFirstPlaceSpec)

/-- ITS FALSE NEIGHBOUR: 'it returns false'. Refute it at one input. -/
def fnExactFirstPlaceWrong : ChangeSpec := { name := "fnExactFirstPlace", fn := fun _ => fun
  | [d] => { results := [.lit (.bool false)], args := [d] }
  | _ => none }
def FnExactFirstPlaceWrongFalsely : Prop := fnExactFirstPlaceRow.holds Try.pinned (OpenSpec.ofChange fnExactFirstPlaceWrong)

/-- 'laws.FnExactFirstTurn': WHATEVER THE INPUT: true; the input reads as it did. -/
def fnExactFirstTurnSpec : ChangeSpec := { name := "fnExactFirstTurn", fn := fun _ => fun
  | [d] => { results := [.lit (.bool true)], args := [d] }
  | _ => none }
def fnExactFirstTurnRow : OpenClaim := { program := "ytidaoalnngmoaaa", sum := "5cb73e3144036bb8493bdbe04076acf8f087e5c96bbe514888f2b34c33187ec3", func := "loop.example/g01220/laws.FnExactFirstTurn", spec := "fnExactFirstTurn", unfollowed := true, recurses := true, apart := false }
def FnExactFirstTurnSaid : Prop := fnExactFirstTurnRow.holds Try.pinned (OpenSpec.ofChange fnExactFirstTurnSpec)

/-- ITS FALSE NEIGHBOUR: 'it returns false'. Refute it at one input. -/
def fnExactFirstTurnWrong : ChangeSpec := { name := "fnExactFirstTurn", fn := fun _ => fun
  | [d] => { results := [.lit (.bool false)], args := [d] }
  | _ => none }
def FnExactFirstTurnWrongFalsely : Prop := fnExactFirstTurnRow.holds Try.pinned (OpenSpec.ofChange fnExactFirstTurnWrong)

/-- 'laws.FnExactKeptBy': WHATEVER THE INPUT: true; the input reads as it did. -/
def fnExactKeptBySpec : ChangeSpec := { name := "fnExactKeptBy", fn := fun _ => fun
  | [d] => { results := [.lit (.bool true)], args := [d] }
  | _ => none }
def fnExactKeptByRow : OpenClaim := { program := "ytidaoalnngmoaaa", sum := "5cb73e3144036bb8493bdbe04076acf8f087e5c96bbe514888f2b34c33187ec3", func := "loop.example/g01220/laws.FnExactKeptBy", spec := "fnExactKeptBy", unfollowed := true, recurses := true, apart := false }
def FnExactKeptBySaid : Prop := fnExactKeptByRow.holds Try.pinned (OpenSpec.ofChange fnExactKeptBySpec)

/-- ITS FALSE NEIGHBOUR: 'it returns false'. Refute it at one input. -/
def fnExactKeptByWrong : ChangeSpec := { name := "fnExactKeptBy", fn := fun _ => fun
  | [d] => { results := [.lit (.bool false)], args := [d] }
  | _ => none }
def FnExactKeptByWrongFalsely : Prop := fnExactKeptByRow.holds Try.pinned (OpenSpec.ofChange fnExactKeptByWrong)

/-- 'laws.FnExactCountForms': WHATEVER THE INPUT: true; the input reads as it did. -/
def fnExactCountFormsSpec : ChangeSpec := { name := "fnExactCountForms", fn := fun _ => fun
  | [d] => { results := [.lit (.bool true)], args := [d] }
  | _ => none }
def fnExactCountFormsRow : OpenClaim := { program := "ytidaoalnngmoaaa", sum := "5cb73e3144036bb8493bdbe04076acf8f087e5c96bbe514888f2b34c33187ec3", func := "loop.example/g01220/laws.FnExactCountForms", spec := "fnExactCountForms", unfollowed := true, recurses := true, apart := false }
def FnExactCountFormsSaid : Prop := fnExactCountFormsRow.holds Try.pinned (OpenSpec.ofChange fnExactCountFormsSpec)

/-- ITS FALSE NEIGHBOUR: 'it returns false'. Refute it at one input. -/
def fnExactCountFormsWrong : ChangeSpec := { name := "fnExactCountForms", fn := fun _ => fun
  | [d] => { results := [.lit (.bool false)], args := [d] }
  | _ => none }
def FnExactCountFormsWrongFalsely : Prop := fnExactCountFormsRow.holds Try.pinned (OpenSpec.ofChange fnExactCountFormsWrong)

/-- 'laws.FnExactAreAlike': WHATEVER THE INPUT: true; the input reads as it did. -/
def fnExactAreAlikeSpec : ChangeSpec := { name := "fnExactAreAlike", fn := fun _ => fun
  | [d1, d2] => { results := [.lit (.bool true)], args := [d1, d2] }
  | _ => none }
def fnExactAreAlikeRow : OpenClaim := { program := "ytidaoalnngmoaaa", sum := "5cb73e3144036bb8493bdbe04076acf8f087e5c96bbe514888f2b34c33187ec3", func := "loop.example/g01220/laws.FnExactAreAlike", spec := "fnExactAreAlike", unfollowed := true, recurses := true, apart := false }
def FnExactAreAlikeSaid : Prop := fnExactAreAlikeRow.holds Try.pinned (OpenSpec.ofChange fnExactAreAlikeSpec)

/-- ITS FALSE NEIGHBOUR: 'it returns false'. Refute it at one input. -/
def fnExactAreAlikeWrong : ChangeSpec := { name := "fnExactAreAlike", fn := fun _ => fun
  | [d1, d2] => { results := [.lit (.bool false)], args := [d1, d2] }
  | _ => none }
def FnExactAreAlikeWrongFalsely : Prop := fnExactAreAlikeRow.holds Try.pinned (OpenSpec.ofChange fnExactAreAlikeWrong)

/-- 'laws.FnExactFirstForm': WHATEVER THE INPUT: true; the input reads as it did. -/
def fnExactFirstFormSpec : ChangeSpec := { name := "fnExactFirstForm", fn := fun _ => fun
  | [d] => { results := [.lit (.bool true)], args := [d] }
  | _ => none }
def fnExactFirstFormRow : OpenClaim := { program := "ytidaoalnngmoaaa", sum := "5cb73e3144036bb8493bdbe04076acf8f087e5c96bbe514888f2b34c33187ec3", func := "loop.example/g01220/laws.FnExactFirstForm", spec := "fnExactFirstForm", unfollowed := true, recurses := true, apart := false }
def FnExactFirstFormSaid : Prop := fnExactFirstFormRow.holds Try.pinned (OpenSpec.ofChange fnExactFirstFormSpec)

/-- ITS FALSE NEIGHBOUR: 'it returns false'. Refute it at one input. -/
def fnExactFirstFormWrong : ChangeSpec := { name := "fnExactFirstForm", fn := fun _ => fun
  | [d] => { results := [.lit (.bool false)], args := [d] }
  | _ => none }
def FnExactFirstFormWrongFalsely : Prop := fnExactFirstFormRow.holds Try.pinned (OpenSpec.ofChange fnExactFirstFormWrong)

/-- 'laws.FnMotions': WHATEVER THE INPUT: true; the input reads as it did. -/
def fnMotionsSpec : ChangeSpec := { name := "fnMotions", fn := fun _ => fun
  | [d] => { results := [.lit (.bool true)], args := [d] }
  | _ => none }
def fnMotionsRow : OpenClaim := { program := "ytidaoalnngmoaaa", sum := "5cb73e3144036bb8493bdbe04076acf8f087e5c96bbe514888f2b34c33187ec3", func := "loop.example/g01220/laws.FnMotions", spec := "fnMotions", unfollowed := true, recurses := true, apart := false }
def FnMotionsSaid : Prop := fnMotionsRow.holds Try.pinned (OpenSpec.ofChange fnMotionsSpec)

/-- ITS FALSE NEIGHBOUR: 'it returns false'. Refute it at one input. -/
def fnMotionsWrong : ChangeSpec := { name := "fnMotions", fn := fun _ => fun
  | [d] => { results := [.lit (.bool false)], args := [d] }
  | _ => none }
def FnMotionsWrongFalsely : Prop := fnMotionsRow.holds Try.pinned (OpenSpec.ofChange fnMotionsWrong)

/-- 'laws.FnForms': WHATEVER THE INPUT: true; the input reads as it did. -/
def fnFormsSpec : ChangeSpec := { name := "fnForms", fn := fun _ => fun
  | [d] => { results := [.lit (.bool true)], args := [d] }
  | _ => none }
def fnFormsRow : OpenClaim := { program := "ytidaoalnngmoaaa", sum := "5cb73e3144036bb8493bdbe04076acf8f087e5c96bbe514888f2b34c33187ec3", func := "loop.example/g01220/laws.FnForms", spec := "fnForms", unfollowed := true, recurses := true, apart := false }
def FnFormsSaid : Prop := fnFormsRow.holds Try.pinned (OpenSpec.ofChange fnFormsSpec)

/-- ITS FALSE NEIGHBOUR: 'it returns false'. Refute it at one input. -/
def fnFormsWrong : ChangeSpec := { name := "fnForms", fn := fun _ => fun
  | [d] => { results := [.lit (.bool false)], args := [d] }
  | _ => none }
def FnFormsWrongFalsely : Prop := fnFormsRow.holds Try.pinned (OpenSpec.ofChange fnFormsWrong)

/- THE SECOND FORM. 'bulk': how many values and letters a reading holds, each counted each time it is reached (what is shared counts as often as it is met; a slice's spare places count too). A statement '..UptoSaid' is the law's where the arguments, and the package variables that the reading takes, are together of bulk at most 1048576: NARROWER than '..Said'. Prove '..Said' where nothing that the law and all that it calls make is longer than what came in: it says more and counts as full. Else prove '..UptoSaid'. A law counts once. -/
mutual
def uptoBulk {H : Type} : DataW H → Nat
  | .lit (.string bytes) => bytes.length + 1
  | .lit _ => 1
  | .nil => 1
  | .ptr d => uptoBulk d + 1
  | .slice elems spare => uptoBulkAll elems + uptoBulkAll spare + 1
  | .agg parts => uptoBulkAll parts + 1
  | .iface _ d => uptoBulk d + 1
  | .map entries => uptoBulkEntries entries + 1
  | .held _ => 1
def uptoBulkAll {H : Type} : List (DataW H) → Nat
  | [] => 0
  | d :: r => uptoBulk d + uptoBulkAll r
def uptoBulkEntries {H : Type} : List (Lit × DataW H) → Nat
  | [] => 0
  | x :: r => uptoBulkEntry x + uptoBulkEntries r
def uptoBulkEntry {H : Type} : Lit × DataW H → Nat
  | (.string bytes, d) => bytes.length + uptoBulk d + 1
  | (_, d) => uptoBulk d + 1
 end
def uptoSmall : (H : Type) → List (DataW H) → Bool := fun _ ds => decide (uptoBulkAll ds ≤ 1048576)
def OpenSpec.upto (s : _root_.Go.ChangeSpec) : _root_.Go.OpenSpec := { _root_.Go.OpenSpec.ofChange s with cond := some uptoSmall }

/-- 'laws.FnExactTurnVector', WHERE WHAT IT READS IS OF BULK AT MOST 1048576: true; the input reads as it did. -/
def fnExactTurnVectorUptoRow : OpenClaim := { program := "ytidaoalnngmoaaa", sum := "5cb73e3144036bb8493bdbe04076acf8f087e5c96bbe514888f2b34c33187ec3", func := "loop.example/g01220/laws.FnExactTurnVector", spec := "fnExactTurnVector", apart := false, narrowed := true }
def FnExactTurnVectorUptoSaid : Prop := fnExactTurnVectorUptoRow.holds Try.pinned (OpenSpec.upto fnExactTurnVectorSpec)

/-- 'laws.FnExactTurnBehind', WHERE WHAT IT READS IS OF BULK AT MOST 1048576: true; the input reads as it did. -/
def fnExactTurnBehindUptoRow : OpenClaim := { program := "ytidaoalnngmoaaa", sum := "5cb73e3144036bb8493bdbe04076acf8f087e5c96bbe514888f2b34c33187ec3", func := "loop.example/g01220/laws.FnExactTurnBehind", spec := "fnExactTurnBehind", unfollowed := true, recurses := true, apart := false, narrowed := true }
def FnExactTurnBehindUptoSaid : Prop := fnExactTurnBehindUptoRow.holds Try.pinned (OpenSpec.upto fnExactTurnBehindSpec)

/-- 'laws.FnExactTurnBack', WHERE WHAT IT READS IS OF BULK AT MOST 1048576: true; the input reads as it did. -/
def fnExactTurnBackUptoRow : OpenClaim := { program := "ytidaoalnngmoaaa", sum := "5cb73e3144036bb8493bdbe04076acf8f087e5c96bbe514888f2b34c33187ec3", func := "loop.example/g01220/laws.FnExactTurnBack", spec := "fnExactTurnBack", unfollowed := true, recurses := true, apart := false, narrowed := true }
def FnExactTurnBackUptoSaid : Prop := fnExactTurnBackUptoRow.holds Try.pinned (OpenSpec.upto fnExactTurnBackSpec)

/-- 'laws.FnExactTurnSheet', WHERE WHAT IT READS IS OF BULK AT MOST 1048576: true; the input reads as it did. -/
def fnExactTurnSheetUptoRow : OpenClaim := { program := "ytidaoalnngmoaaa", sum := "5cb73e3144036bb8493bdbe04076acf8f087e5c96bbe514888f2b34c33187ec3", func := "loop.example/g01220/laws.FnExactTurnSheet", spec := "fnExactTurnSheet", unfollowed := true, recurses := true, apart := false, narrowed := true }
def FnExactTurnSheetUptoSaid : Prop := fnExactTurnSheetUptoRow.holds Try.pinned (OpenSpec.upto fnExactTurnSheetSpec)

/-- 'laws.FnExactMotionBehind', WHERE WHAT IT READS IS OF BULK AT MOST 1048576: true; the input reads as it did. -/
def fnExactMotionBehindUptoRow : OpenClaim := { program := "ytidaoalnngmoaaa", sum := "5cb73e3144036bb8493bdbe04076acf8f087e5c96bbe514888f2b34c33187ec3", func := "loop.example/g01220/laws.FnExactMotionBehind", spec := "fnExactMotionBehind", unfollowed := true, recurses := true, apart := false, narrowed := true }
def FnExactMotionBehindUptoSaid : Prop := fnExactMotionBehindUptoRow.holds Try.pinned (OpenSpec.upto fnExactMotionBehindSpec)

/-- 'laws.FnExactMotionBack', WHERE WHAT IT READS IS OF BULK AT MOST 1048576: true; the input reads as it did. -/
def fnExactMotionBackUptoRow : OpenClaim := { program := "ytidaoalnngmoaaa", sum := "5cb73e3144036bb8493bdbe04076acf8f087e5c96bbe514888f2b34c33187ec3", func := "loop.example/g01220/laws.FnExactMotionBack", spec := "fnExactMotionBack", unfollowed := true, recurses := true, apart := false, narrowed := true }
def FnExactMotionBackUptoSaid : Prop := fnExactMotionBackUptoRow.holds Try.pinned (OpenSpec.upto fnExactMotionBackSpec)

/-- 'laws.FnExactMoveSheet', WHERE WHAT IT READS IS OF BULK AT MOST 1048576: true; the input reads as it did. -/
def fnExactMoveSheetUptoRow : OpenClaim := { program := "ytidaoalnngmoaaa", sum := "5cb73e3144036bb8493bdbe04076acf8f087e5c96bbe514888f2b34c33187ec3", func := "loop.example/g01220/laws.FnExactMoveSheet", spec := "fnExactMoveSheet", unfollowed := true, recurses := true, apart := false, narrowed := true }
def FnExactMoveSheetUptoSaid : Prop := fnExactMoveSheetUptoRow.holds Try.pinned (OpenSpec.upto fnExactMoveSheetSpec)

/-- 'laws.FnExactFirstPlace', WHERE WHAT IT READS IS OF BULK AT MOST 1048576: true; the input reads as it did. -/
def fnExactFirstPlaceUptoRow : OpenClaim := { program := "ytidaoalnngmoaaa", sum := "5cb73e3144036bb8493bdbe04076acf8f087e5c96bbe514888f2b34c33187ec3", func := "loop.example/g01220/laws.FnExactFirstPlace", spec := "fnExactFirstPlace", unfollowed := true, recurses := true, apart := false, narrowed := true }
def FnExactFirstPlaceUptoSaid : Prop := fnExactFirstPlaceUptoRow.holds Try.pinned (OpenSpec.upto fnExactFirstPlaceSpec)

/-- 'laws.FnExactFirstTurn', WHERE WHAT IT READS IS OF BULK AT MOST 1048576: true; the input reads as it did. -/
def fnExactFirstTurnUptoRow : OpenClaim := { program := "ytidaoalnngmoaaa", sum := "5cb73e3144036bb8493bdbe04076acf8f087e5c96bbe514888f2b34c33187ec3", func := "loop.example/g01220/laws.FnExactFirstTurn", spec := "fnExactFirstTurn", unfollowed := true, recurses := true, apart := false, narrowed := true }
def FnExactFirstTurnUptoSaid : Prop := fnExactFirstTurnUptoRow.holds Try.pinned (OpenSpec.upto fnExactFirstTurnSpec)

/-- 'laws.FnExactKeptBy', WHERE WHAT IT READS IS OF BULK AT MOST 1048576: true; the input reads as it did. -/
def fnExactKeptByUptoRow : OpenClaim := { program := "ytidaoalnngmoaaa", sum := "5cb73e3144036bb8493bdbe04076acf8f087e5c96bbe514888f2b34c33187ec3", func := "loop.example/g01220/laws.FnExactKeptBy", spec := "fnExactKeptBy", unfollowed := true, recurses := true, apart := false, narrowed := true }
def FnExactKeptByUptoSaid : Prop := fnExactKeptByUptoRow.holds Try.pinned (OpenSpec.upto fnExactKeptBySpec)

/-- 'laws.FnExactCountForms', WHERE WHAT IT READS IS OF BULK AT MOST 1048576: true; the input reads as it did. -/
def fnExactCountFormsUptoRow : OpenClaim := { program := "ytidaoalnngmoaaa", sum := "5cb73e3144036bb8493bdbe04076acf8f087e5c96bbe514888f2b34c33187ec3", func := "loop.example/g01220/laws.FnExactCountForms", spec := "fnExactCountForms", unfollowed := true, recurses := true, apart := false, narrowed := true }
def FnExactCountFormsUptoSaid : Prop := fnExactCountFormsUptoRow.holds Try.pinned (OpenSpec.upto fnExactCountFormsSpec)

/-- 'laws.FnExactAreAlike', WHERE WHAT IT READS IS OF BULK AT MOST 1048576: true; the input reads as it did. -/
def fnExactAreAlikeUptoRow : OpenClaim := { program := "ytidaoalnngmoaaa", sum := "5cb73e3144036bb8493bdbe04076acf8f087e5c96bbe514888f2b34c33187ec3", func := "loop.example/g01220/laws.FnExactAreAlike", spec := "fnExactAreAlike", unfollowed := true, recurses := true, apart := false, narrowed := true }
def FnExactAreAlikeUptoSaid : Prop := fnExactAreAlikeUptoRow.holds Try.pinned (OpenSpec.upto fnExactAreAlikeSpec)

/-- 'laws.FnExactFirstForm', WHERE WHAT IT READS IS OF BULK AT MOST 1048576: true; the input reads as it did. -/
def fnExactFirstFormUptoRow : OpenClaim := { program := "ytidaoalnngmoaaa", sum := "5cb73e3144036bb8493bdbe04076acf8f087e5c96bbe514888f2b34c33187ec3", func := "loop.example/g01220/laws.FnExactFirstForm", spec := "fnExactFirstForm", unfollowed := true, recurses := true, apart := false, narrowed := true }
def FnExactFirstFormUptoSaid : Prop := fnExactFirstFormUptoRow.holds Try.pinned (OpenSpec.upto fnExactFirstFormSpec)

/-- 'laws.FnMotions', WHERE WHAT IT READS IS OF BULK AT MOST 1048576: true; the input reads as it did. -/
def fnMotionsUptoRow : OpenClaim := { program := "ytidaoalnngmoaaa", sum := "5cb73e3144036bb8493bdbe04076acf8f087e5c96bbe514888f2b34c33187ec3", func := "loop.example/g01220/laws.FnMotions", spec := "fnMotions", unfollowed := true, recurses := true, apart := false, narrowed := true }
def FnMotionsUptoSaid : Prop := fnMotionsUptoRow.holds Try.pinned (OpenSpec.upto fnMotionsSpec)

/-- 'laws.FnForms', WHERE WHAT IT READS IS OF BULK AT MOST 1048576: true; the input reads as it did. -/
def fnFormsUptoRow : OpenClaim := { program := "ytidaoalnngmoaaa", sum := "5cb73e3144036bb8493bdbe04076acf8f087e5c96bbe514888f2b34c33187ec3", func := "loop.example/g01220/laws.FnForms", spec := "fnForms", unfollowed := true, recurses := true, apart := false, narrowed := true }
def FnFormsUptoSaid : Prop := fnFormsUptoRow.holds Try.pinned (OpenSpec.upto fnFormsSpec)

end Rows
end Go.Proofs.Ytidaoalnngmoaaa
