/-
  NARROWER THAN 'FOR EVERY INPUT', by the rows' own cells (each row's printed sentence says how): FnExactCanToggle: laid · FnExactStampOrder: laid · FnExactIsUndoable: laid · FnExactRankOf: laid · FnExactQuietStamps: laid · FnExactUndoStamp: laid · FnExactFewestPresses: laid · FnExactLeastPresses: laid · FnExactKernelOf: laid · FnToggles: laid.
  DERIVED. THE GIVEN ROWS OF THIS SEAT. 10 by the template 'for every input the law returns true; each argument reads behind the call as it read before'; 0 by the template 'total and deterministic' (their statements: YtgjgefbcfcomcaaDoorTotals.lean).
  GIVEN WITH THE SEED: the statements are not yours to turn. If you find one false, say at which input.
  Laid BY PROGRAM, IN A SANDBOX (cutbox-rows.mjs): the forced cells as the released guide's own fill.sh prints them over the translation 5896161898920474… (all of the seat's roots in one cut). By AI agents, Wed Nov 11 2026. No macro, syntax, notation, axiom, sorry.
-/
import Derived.Test.YtgjgefbcfcomcaaDoorChecked
import GoSem.Claim
import GoSem.ClaimJoined
import GoSem.ClaimMapViews
import Derived.JoinedTies
import Derived.KernelRfl
namespace Go.Proofs.YtgjgefbcfcomcaaDoor
/- THE CELL 'sum', in the pinned program and in every row, IS THE sha256 OF THE DUMP (.gsa) THAT YtgjgefbcfcomcaaDoorProg.lean LOADS. Nothing in Lean hashes anything: it is a label: what it is worth is what the hold of that sum in a sandbox is worth. -/
noncomputable def Tryd.pinned : Pinned := { name := "ytgjgefbcfcomcaadoor", sum := "5896161898920474812a75c517ee36a67bb75ca6bbbd33eecc8f8b4b34c12ad8", checked := Tryd.checked }
namespace Rows
def none {H : Type} : Left H := { results := [], args := [] }

/- WHAT THE LISTED PACKAGE-LEVEL VARIABLES READ AS WHEN THE CALL BEGINS. Each datum BY PROGRAM (the guide's laid-datum.mjs) off the statement by which the dump's own 'gosem.cut.vars' lays the variable. In a bare row this is a premise. The card (YtgjgefbcfcomcaaDoorCards.lean) ties it to the program's text. -/
def laid_math_bits_deBruijn64tab {H : Type} : DataW H := .agg [.lit (.int .u8 0), .lit (.int .u8 1), .lit (.int .u8 56), .lit (.int .u8 2), .lit (.int .u8 57), .lit (.int .u8 49), .lit (.int .u8 28), .lit (.int .u8 3), .lit (.int .u8 61), .lit (.int .u8 58), .lit (.int .u8 42), .lit (.int .u8 50), .lit (.int .u8 38), .lit (.int .u8 29), .lit (.int .u8 17), .lit (.int .u8 4), .lit (.int .u8 62), .lit (.int .u8 47), .lit (.int .u8 59), .lit (.int .u8 36), .lit (.int .u8 45), .lit (.int .u8 43), .lit (.int .u8 51), .lit (.int .u8 22), .lit (.int .u8 53), .lit (.int .u8 39), .lit (.int .u8 33), .lit (.int .u8 30), .lit (.int .u8 24), .lit (.int .u8 18), .lit (.int .u8 12), .lit (.int .u8 5), .lit (.int .u8 63), .lit (.int .u8 55), .lit (.int .u8 48), .lit (.int .u8 27), .lit (.int .u8 60), .lit (.int .u8 41), .lit (.int .u8 37), .lit (.int .u8 16), .lit (.int .u8 46), .lit (.int .u8 35), .lit (.int .u8 44), .lit (.int .u8 21), .lit (.int .u8 52), .lit (.int .u8 32), .lit (.int .u8 23), .lit (.int .u8 11), .lit (.int .u8 54), .lit (.int .u8 26), .lit (.int .u8 40), .lit (.int .u8 15), .lit (.int .u8 34), .lit (.int .u8 20), .lit (.int .u8 31), .lit (.int .u8 10), .lit (.int .u8 25), .lit (.int .u8 14), .lit (.int .u8 19), .lit (.int .u8 9), .lit (.int .u8 13), .lit (.int .u8 8), .lit (.int .u8 7), .lit (.int .u8 6)]

/-- 'laws.FnExactCanToggle': WHATEVER THE INPUT: true; the input reads as it did. -/
def fnExactCanToggleSpec : ChangeSpec := { name := "fnExactCanToggle", fn := fun _ => fun
  | [d1, d2] => { results := [.lit (.bool true)], args := [d1, d2] }
  | _ => none }
def fnExactCanToggleRow : OpenClaim := { program := "ytgjgefbcfcomcaadoor", sum := "5896161898920474812a75c517ee36a67bb75ca6bbbd33eecc8f8b4b34c12ad8", func := "loop.example/g01220/laws.FnExactCanToggle", spec := "fnExactCanToggle", unfollowed := true, recurses := true, named := ["math/bits.deBruijn64tab"], apart := false, laid := [("math/bits.deBruijn64tab", laid_math_bits_deBruijn64tab)] }
def FnExactCanToggleSaid : Prop := fnExactCanToggleRow.holds Tryd.pinned (OpenSpec.ofChange fnExactCanToggleSpec)

/-- ITS FALSE NEIGHBOUR: 'it returns false'. Refute it at one input. -/
def fnExactCanToggleWrong : ChangeSpec := { name := "fnExactCanToggle", fn := fun _ => fun
  | [d1, d2] => { results := [.lit (.bool false)], args := [d1, d2] }
  | _ => none }
def FnExactCanToggleWrongFalsely : Prop := fnExactCanToggleRow.holds Tryd.pinned (OpenSpec.ofChange fnExactCanToggleWrong)

/-- 'laws.FnExactStampOrder': WHATEVER THE INPUT: true; the input reads as it did. -/
def fnExactStampOrderSpec : ChangeSpec := { name := "fnExactStampOrder", fn := fun _ => fun
  | [d] => { results := [.lit (.bool true)], args := [d] }
  | _ => none }
def fnExactStampOrderRow : OpenClaim := { program := "ytgjgefbcfcomcaadoor", sum := "5896161898920474812a75c517ee36a67bb75ca6bbbd33eecc8f8b4b34c12ad8", func := "loop.example/g01220/laws.FnExactStampOrder", spec := "fnExactStampOrder", unfollowed := true, recurses := true, named := ["math/bits.deBruijn64tab"], apart := false, laid := [("math/bits.deBruijn64tab", laid_math_bits_deBruijn64tab)] }
def FnExactStampOrderSaid : Prop := fnExactStampOrderRow.holds Tryd.pinned (OpenSpec.ofChange fnExactStampOrderSpec)

/-- ITS FALSE NEIGHBOUR: 'it returns false'. Refute it at one input. -/
def fnExactStampOrderWrong : ChangeSpec := { name := "fnExactStampOrder", fn := fun _ => fun
  | [d] => { results := [.lit (.bool false)], args := [d] }
  | _ => none }
def FnExactStampOrderWrongFalsely : Prop := fnExactStampOrderRow.holds Tryd.pinned (OpenSpec.ofChange fnExactStampOrderWrong)

/-- 'laws.FnExactIsUndoable': WHATEVER THE INPUT: true; the input reads as it did. -/
def fnExactIsUndoableSpec : ChangeSpec := { name := "fnExactIsUndoable", fn := fun _ => fun
  | [d] => { results := [.lit (.bool true)], args := [d] }
  | _ => none }
def fnExactIsUndoableRow : OpenClaim := { program := "ytgjgefbcfcomcaadoor", sum := "5896161898920474812a75c517ee36a67bb75ca6bbbd33eecc8f8b4b34c12ad8", func := "loop.example/g01220/laws.FnExactIsUndoable", spec := "fnExactIsUndoable", unfollowed := true, recurses := true, named := ["math/bits.deBruijn64tab"], apart := false, laid := [("math/bits.deBruijn64tab", laid_math_bits_deBruijn64tab)] }
def FnExactIsUndoableSaid : Prop := fnExactIsUndoableRow.holds Tryd.pinned (OpenSpec.ofChange fnExactIsUndoableSpec)

/-- ITS FALSE NEIGHBOUR: 'it returns false'. Refute it at one input. -/
def fnExactIsUndoableWrong : ChangeSpec := { name := "fnExactIsUndoable", fn := fun _ => fun
  | [d] => { results := [.lit (.bool false)], args := [d] }
  | _ => none }
def FnExactIsUndoableWrongFalsely : Prop := fnExactIsUndoableRow.holds Tryd.pinned (OpenSpec.ofChange fnExactIsUndoableWrong)

/-- 'laws.FnExactRankOf': WHATEVER THE INPUT: true; the input reads as it did. -/
def fnExactRankOfSpec : ChangeSpec := { name := "fnExactRankOf", fn := fun _ => fun
  | [d] => { results := [.lit (.bool true)], args := [d] }
  | _ => none }
def fnExactRankOfRow : OpenClaim := { program := "ytgjgefbcfcomcaadoor", sum := "5896161898920474812a75c517ee36a67bb75ca6bbbd33eecc8f8b4b34c12ad8", func := "loop.example/g01220/laws.FnExactRankOf", spec := "fnExactRankOf", unfollowed := true, recurses := true, named := ["math/bits.deBruijn64tab"], apart := false, laid := [("math/bits.deBruijn64tab", laid_math_bits_deBruijn64tab)] }
def FnExactRankOfSaid : Prop := fnExactRankOfRow.holds Tryd.pinned (OpenSpec.ofChange fnExactRankOfSpec)

/-- ITS FALSE NEIGHBOUR: 'it returns false'. Refute it at one input. -/
def fnExactRankOfWrong : ChangeSpec := { name := "fnExactRankOf", fn := fun _ => fun
  | [d] => { results := [.lit (.bool false)], args := [d] }
  | _ => none }
def FnExactRankOfWrongFalsely : Prop := fnExactRankOfRow.holds Tryd.pinned (OpenSpec.ofChange fnExactRankOfWrong)

/-- 'laws.FnExactQuietStamps': WHATEVER THE INPUT: true; the input reads as it did. -/
def fnExactQuietStampsSpec : ChangeSpec := { name := "fnExactQuietStamps", fn := fun _ => fun
  | [d] => { results := [.lit (.bool true)], args := [d] }
  | _ => none }
def fnExactQuietStampsRow : OpenClaim := { program := "ytgjgefbcfcomcaadoor", sum := "5896161898920474812a75c517ee36a67bb75ca6bbbd33eecc8f8b4b34c12ad8", func := "loop.example/g01220/laws.FnExactQuietStamps", spec := "fnExactQuietStamps", unfollowed := true, recurses := true, named := ["math/bits.deBruijn64tab"], apart := false, laid := [("math/bits.deBruijn64tab", laid_math_bits_deBruijn64tab)] }
def FnExactQuietStampsSaid : Prop := fnExactQuietStampsRow.holds Tryd.pinned (OpenSpec.ofChange fnExactQuietStampsSpec)

/-- ITS FALSE NEIGHBOUR: 'it returns false'. Refute it at one input. -/
def fnExactQuietStampsWrong : ChangeSpec := { name := "fnExactQuietStamps", fn := fun _ => fun
  | [d] => { results := [.lit (.bool false)], args := [d] }
  | _ => none }
def FnExactQuietStampsWrongFalsely : Prop := fnExactQuietStampsRow.holds Tryd.pinned (OpenSpec.ofChange fnExactQuietStampsWrong)

/-- 'laws.FnExactUndoStamp': WHATEVER THE INPUT: true; the input reads as it did. -/
def fnExactUndoStampSpec : ChangeSpec := { name := "fnExactUndoStamp", fn := fun _ => fun
  | [d] => { results := [.lit (.bool true)], args := [d] }
  | _ => none }
def fnExactUndoStampRow : OpenClaim := { program := "ytgjgefbcfcomcaadoor", sum := "5896161898920474812a75c517ee36a67bb75ca6bbbd33eecc8f8b4b34c12ad8", func := "loop.example/g01220/laws.FnExactUndoStamp", spec := "fnExactUndoStamp", unfollowed := true, recurses := true, named := ["math/bits.deBruijn64tab"], apart := false, laid := [("math/bits.deBruijn64tab", laid_math_bits_deBruijn64tab)] }
def FnExactUndoStampSaid : Prop := fnExactUndoStampRow.holds Tryd.pinned (OpenSpec.ofChange fnExactUndoStampSpec)

/-- ITS FALSE NEIGHBOUR: 'it returns false'. Refute it at one input. -/
def fnExactUndoStampWrong : ChangeSpec := { name := "fnExactUndoStamp", fn := fun _ => fun
  | [d] => { results := [.lit (.bool false)], args := [d] }
  | _ => none }
def FnExactUndoStampWrongFalsely : Prop := fnExactUndoStampRow.holds Tryd.pinned (OpenSpec.ofChange fnExactUndoStampWrong)

/-- 'laws.FnExactFewestPresses': WHATEVER THE INPUT: true; the input reads as it did. -/
def fnExactFewestPressesSpec : ChangeSpec := { name := "fnExactFewestPresses", fn := fun _ => fun
  | [d1, d2] => { results := [.lit (.bool true)], args := [d1, d2] }
  | _ => none }
def fnExactFewestPressesRow : OpenClaim := { program := "ytgjgefbcfcomcaadoor", sum := "5896161898920474812a75c517ee36a67bb75ca6bbbd33eecc8f8b4b34c12ad8", func := "loop.example/g01220/laws.FnExactFewestPresses", spec := "fnExactFewestPresses", unfollowed := true, recurses := true, named := ["math/bits.deBruijn64tab"], apart := false, laid := [("math/bits.deBruijn64tab", laid_math_bits_deBruijn64tab)] }
def FnExactFewestPressesSaid : Prop := fnExactFewestPressesRow.holds Tryd.pinned (OpenSpec.ofChange fnExactFewestPressesSpec)

/-- ITS FALSE NEIGHBOUR: 'it returns false'. Refute it at one input. -/
def fnExactFewestPressesWrong : ChangeSpec := { name := "fnExactFewestPresses", fn := fun _ => fun
  | [d1, d2] => { results := [.lit (.bool false)], args := [d1, d2] }
  | _ => none }
def FnExactFewestPressesWrongFalsely : Prop := fnExactFewestPressesRow.holds Tryd.pinned (OpenSpec.ofChange fnExactFewestPressesWrong)

/-- 'laws.FnExactLeastPresses': WHATEVER THE INPUT: true; the input reads as it did. -/
def fnExactLeastPressesSpec : ChangeSpec := { name := "fnExactLeastPresses", fn := fun _ => fun
  | [d1, d2] => { results := [.lit (.bool true)], args := [d1, d2] }
  | _ => none }
def fnExactLeastPressesRow : OpenClaim := { program := "ytgjgefbcfcomcaadoor", sum := "5896161898920474812a75c517ee36a67bb75ca6bbbd33eecc8f8b4b34c12ad8", func := "loop.example/g01220/laws.FnExactLeastPresses", spec := "fnExactLeastPresses", unfollowed := true, recurses := true, named := ["math/bits.deBruijn64tab"], apart := false, laid := [("math/bits.deBruijn64tab", laid_math_bits_deBruijn64tab)] }
def FnExactLeastPressesSaid : Prop := fnExactLeastPressesRow.holds Tryd.pinned (OpenSpec.ofChange fnExactLeastPressesSpec)

/-- ITS FALSE NEIGHBOUR: 'it returns false'. Refute it at one input. -/
def fnExactLeastPressesWrong : ChangeSpec := { name := "fnExactLeastPresses", fn := fun _ => fun
  | [d1, d2] => { results := [.lit (.bool false)], args := [d1, d2] }
  | _ => none }
def FnExactLeastPressesWrongFalsely : Prop := fnExactLeastPressesRow.holds Tryd.pinned (OpenSpec.ofChange fnExactLeastPressesWrong)

/-- 'laws.FnExactKernelOf': WHATEVER THE INPUT: true; the input reads as it did. -/
def fnExactKernelOfSpec : ChangeSpec := { name := "fnExactKernelOf", fn := fun _ => fun
  | [d] => { results := [.lit (.bool true)], args := [d] }
  | _ => none }
def fnExactKernelOfRow : OpenClaim := { program := "ytgjgefbcfcomcaadoor", sum := "5896161898920474812a75c517ee36a67bb75ca6bbbd33eecc8f8b4b34c12ad8", func := "loop.example/g01220/laws.FnExactKernelOf", spec := "fnExactKernelOf", unfollowed := true, recurses := true, named := ["math/bits.deBruijn64tab"], apart := false, laid := [("math/bits.deBruijn64tab", laid_math_bits_deBruijn64tab)] }
def FnExactKernelOfSaid : Prop := fnExactKernelOfRow.holds Tryd.pinned (OpenSpec.ofChange fnExactKernelOfSpec)

/-- ITS FALSE NEIGHBOUR: 'it returns false'. Refute it at one input. -/
def fnExactKernelOfWrong : ChangeSpec := { name := "fnExactKernelOf", fn := fun _ => fun
  | [d] => { results := [.lit (.bool false)], args := [d] }
  | _ => none }
def FnExactKernelOfWrongFalsely : Prop := fnExactKernelOfRow.holds Tryd.pinned (OpenSpec.ofChange fnExactKernelOfWrong)

/-- 'laws.FnToggles': WHATEVER THE INPUT: true; the input reads as it did. -/
def fnTogglesSpec : ChangeSpec := { name := "fnToggles", fn := fun _ => fun
  | [d] => { results := [.lit (.bool true)], args := [d] }
  | _ => none }
def fnTogglesRow : OpenClaim := { program := "ytgjgefbcfcomcaadoor", sum := "5896161898920474812a75c517ee36a67bb75ca6bbbd33eecc8f8b4b34c12ad8", func := "loop.example/g01220/laws.FnToggles", spec := "fnToggles", unfollowed := true, recurses := true, named := ["math/bits.deBruijn64tab"], apart := false, laid := [("math/bits.deBruijn64tab", laid_math_bits_deBruijn64tab)] }
def FnTogglesSaid : Prop := fnTogglesRow.holds Tryd.pinned (OpenSpec.ofChange fnTogglesSpec)

/-- ITS FALSE NEIGHBOUR: 'it returns false'. Refute it at one input. -/
def fnTogglesWrong : ChangeSpec := { name := "fnToggles", fn := fun _ => fun
  | [d] => { results := [.lit (.bool false)], args := [d] }
  | _ => none }
def FnTogglesWrongFalsely : Prop := fnTogglesRow.holds Tryd.pinned (OpenSpec.ofChange fnTogglesWrong)

/- THE SECOND FORM. 'bulk': how many values and letters a reading holds, each counted each time it is reached (what is shared counts as often as it is met; a slice's spare places count too). A statement '..UptoSaid' is the law's where the arguments, and the package variables that the reading takes, are together of bulk at most 1048576: NARROWER than '..Said'. Prove '..Said' where nothing that the law and all that it calls make is longer than what came in: it says more and counts as full. Else prove '..UptoSaid'. A law counts once. -/
mutual
def uptoBulk {H : Type} : DataW H → Nat
  | .lit (.string bytes) => bytes.length + 1
  | .lit _ => 1
  | .nil => 1
  | .ptr d => uptoBulk d + 1
  | .slice elems spare => uptoBulkAll elems + uptoBulkAll spare + 1
  | .agg parts => uptoBulkAll parts + 1
  | .iface _ d => uptoBulk d + 1
  | .map entries => uptoBulkEntries entries + 1
  | .held _ => 1
def uptoBulkAll {H : Type} : List (DataW H) → Nat
  | [] => 0
  | d :: r => uptoBulk d + uptoBulkAll r
def uptoBulkEntries {H : Type} : List (Lit × DataW H) → Nat
  | [] => 0
  | x :: r => uptoBulkEntry x + uptoBulkEntries r
def uptoBulkEntry {H : Type} : Lit × DataW H → Nat
  | (.string bytes, d) => bytes.length + uptoBulk d + 1
  | (_, d) => uptoBulk d + 1
 end
def uptoSmall : (H : Type) → List (DataW H) → Bool := fun _ ds => decide (uptoBulkAll ds ≤ 1048576)
def OpenSpec.upto (s : _root_.Go.ChangeSpec) : _root_.Go.OpenSpec := { _root_.Go.OpenSpec.ofChange s with cond := some uptoSmall }

/-- 'laws.FnExactCanToggle', WHERE WHAT IT READS IS OF BULK AT MOST 1048576: true; the input reads as it did. -/
def fnExactCanToggleUptoRow : OpenClaim := { program := "ytgjgefbcfcomcaadoor", sum := "5896161898920474812a75c517ee36a67bb75ca6bbbd33eecc8f8b4b34c12ad8", func := "loop.example/g01220/laws.FnExactCanToggle", spec := "fnExactCanToggle", unfollowed := true, recurses := true, named := ["math/bits.deBruijn64tab"], apart := false, laid := [("math/bits.deBruijn64tab", laid_math_bits_deBruijn64tab)], narrowed := true }
def FnExactCanToggleUptoSaid : Prop := fnExactCanToggleUptoRow.holds Tryd.pinned (OpenSpec.upto fnExactCanToggleSpec)

/-- 'laws.FnExactStampOrder', WHERE WHAT IT READS IS OF BULK AT MOST 1048576: true; the input reads as it did. -/
def fnExactStampOrderUptoRow : OpenClaim := { program := "ytgjgefbcfcomcaadoor", sum := "5896161898920474812a75c517ee36a67bb75ca6bbbd33eecc8f8b4b34c12ad8", func := "loop.example/g01220/laws.FnExactStampOrder", spec := "fnExactStampOrder", unfollowed := true, recurses := true, named := ["math/bits.deBruijn64tab"], apart := false, laid := [("math/bits.deBruijn64tab", laid_math_bits_deBruijn64tab)], narrowed := true }
def FnExactStampOrderUptoSaid : Prop := fnExactStampOrderUptoRow.holds Tryd.pinned (OpenSpec.upto fnExactStampOrderSpec)

/-- 'laws.FnExactIsUndoable', WHERE WHAT IT READS IS OF BULK AT MOST 1048576: true; the input reads as it did. -/
def fnExactIsUndoableUptoRow : OpenClaim := { program := "ytgjgefbcfcomcaadoor", sum := "5896161898920474812a75c517ee36a67bb75ca6bbbd33eecc8f8b4b34c12ad8", func := "loop.example/g01220/laws.FnExactIsUndoable", spec := "fnExactIsUndoable", unfollowed := true, recurses := true, named := ["math/bits.deBruijn64tab"], apart := false, laid := [("math/bits.deBruijn64tab", laid_math_bits_deBruijn64tab)], narrowed := true }
def FnExactIsUndoableUptoSaid : Prop := fnExactIsUndoableUptoRow.holds Tryd.pinned (OpenSpec.upto fnExactIsUndoableSpec)

/-- 'laws.FnExactRankOf', WHERE WHAT IT READS IS OF BULK AT MOST 1048576: true; the input reads as it did. -/
def fnExactRankOfUptoRow : OpenClaim := { program := "ytgjgefbcfcomcaadoor", sum := "5896161898920474812a75c517ee36a67bb75ca6bbbd33eecc8f8b4b34c12ad8", func := "loop.example/g01220/laws.FnExactRankOf", spec := "fnExactRankOf", unfollowed := true, recurses := true, named := ["math/bits.deBruijn64tab"], apart := false, laid := [("math/bits.deBruijn64tab", laid_math_bits_deBruijn64tab)], narrowed := true }
def FnExactRankOfUptoSaid : Prop := fnExactRankOfUptoRow.holds Tryd.pinned (OpenSpec.upto fnExactRankOfSpec)

/-- 'laws.FnExactQuietStamps', WHERE WHAT IT READS IS OF BULK AT MOST 1048576: true; the input reads as it did. -/
def fnExactQuietStampsUptoRow : OpenClaim := { program := "ytgjgefbcfcomcaadoor", sum := "5896161898920474812a75c517ee36a67bb75ca6bbbd33eecc8f8b4b34c12ad8", func := "loop.example/g01220/laws.FnExactQuietStamps", spec := "fnExactQuietStamps", unfollowed := true, recurses := true, named := ["math/bits.deBruijn64tab"], apart := false, laid := [("math/bits.deBruijn64tab", laid_math_bits_deBruijn64tab)], narrowed := true }
def FnExactQuietStampsUptoSaid : Prop := fnExactQuietStampsUptoRow.holds Tryd.pinned (OpenSpec.upto fnExactQuietStampsSpec)

/-- 'laws.FnExactUndoStamp', WHERE WHAT IT READS IS OF BULK AT MOST 1048576: true; the input reads as it did. -/
def fnExactUndoStampUptoRow : OpenClaim := { program := "ytgjgefbcfcomcaadoor", sum := "5896161898920474812a75c517ee36a67bb75ca6bbbd33eecc8f8b4b34c12ad8", func := "loop.example/g01220/laws.FnExactUndoStamp", spec := "fnExactUndoStamp", unfollowed := true, recurses := true, named := ["math/bits.deBruijn64tab"], apart := false, laid := [("math/bits.deBruijn64tab", laid_math_bits_deBruijn64tab)], narrowed := true }
def FnExactUndoStampUptoSaid : Prop := fnExactUndoStampUptoRow.holds Tryd.pinned (OpenSpec.upto fnExactUndoStampSpec)

/-- 'laws.FnExactFewestPresses', WHERE WHAT IT READS IS OF BULK AT MOST 1048576: true; the input reads as it did. -/
def fnExactFewestPressesUptoRow : OpenClaim := { program := "ytgjgefbcfcomcaadoor", sum := "5896161898920474812a75c517ee36a67bb75ca6bbbd33eecc8f8b4b34c12ad8", func := "loop.example/g01220/laws.FnExactFewestPresses", spec := "fnExactFewestPresses", unfollowed := true, recurses := true, named := ["math/bits.deBruijn64tab"], apart := false, laid := [("math/bits.deBruijn64tab", laid_math_bits_deBruijn64tab)], narrowed := true }
def FnExactFewestPressesUptoSaid : Prop := fnExactFewestPressesUptoRow.holds Tryd.pinned (OpenSpec.upto fnExactFewestPressesSpec)

/-- 'laws.FnExactLeastPresses', WHERE WHAT IT READS IS OF BULK AT MOST 1048576: true; the input reads as it did. -/
def fnExactLeastPressesUptoRow : OpenClaim := { program := "ytgjgefbcfcomcaadoor", sum := "5896161898920474812a75c517ee36a67bb75ca6bbbd33eecc8f8b4b34c12ad8", func := "loop.example/g01220/laws.FnExactLeastPresses", spec := "fnExactLeastPresses", unfollowed := true, recurses := true, named := ["math/bits.deBruijn64tab"], apart := false, laid := [("math/bits.deBruijn64tab", laid_math_bits_deBruijn64tab)], narrowed := true }
def FnExactLeastPressesUptoSaid : Prop := fnExactLeastPressesUptoRow.holds Tryd.pinned (OpenSpec.upto fnExactLeastPressesSpec)

/-- 'laws.FnExactKernelOf', WHERE WHAT IT READS IS OF BULK AT MOST 1048576: true; the input reads as it did. -/
def fnExactKernelOfUptoRow : OpenClaim := { program := "ytgjgefbcfcomcaadoor", sum := "5896161898920474812a75c517ee36a67bb75ca6bbbd33eecc8f8b4b34c12ad8", func := "loop.example/g01220/laws.FnExactKernelOf", spec := "fnExactKernelOf", unfollowed := true, recurses := true, named := ["math/bits.deBruijn64tab"], apart := false, laid := [("math/bits.deBruijn64tab", laid_math_bits_deBruijn64tab)], narrowed := true }
def FnExactKernelOfUptoSaid : Prop := fnExactKernelOfUptoRow.holds Tryd.pinned (OpenSpec.upto fnExactKernelOfSpec)

/-- 'laws.FnToggles', WHERE WHAT IT READS IS OF BULK AT MOST 1048576: true; the input reads as it did. -/
def fnTogglesUptoRow : OpenClaim := { program := "ytgjgefbcfcomcaadoor", sum := "5896161898920474812a75c517ee36a67bb75ca6bbbd33eecc8f8b4b34c12ad8", func := "loop.example/g01220/laws.FnToggles", spec := "fnToggles", unfollowed := true, recurses := true, named := ["math/bits.deBruijn64tab"], apart := false, laid := [("math/bits.deBruijn64tab", laid_math_bits_deBruijn64tab)], narrowed := true }
def FnTogglesUptoSaid : Prop := fnTogglesUptoRow.holds Tryd.pinned (OpenSpec.upto fnTogglesSpec)

end Rows
end Go.Proofs.YtgjgefbcfcomcaaDoor
