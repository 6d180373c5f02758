/-
  No cell of these rows narrows 'for every input' (looked for: loops, veiled, ifaces, maps, wideKeys, modest, calm, conditions, laid).
  DERIVED. THE GIVEN ROWS OF THIS SEAT. 11 by the template 'for every input the law returns true; each argument reads behind the call as it read before'; 0 by the template 'total and deterministic' (their statements: YtphoapmmliiimaaTotals.lean).
  GIVEN WITH THE SEED: the statements are not yours to turn. If you find one false, say at which input.
  Laid BY PROGRAM, IN A SANDBOX (cutbox-rows.mjs): the forced cells as the released guide's own fill.sh prints them over the translation d070309821ec167a… (all of the seat's roots in one cut). By AI agents, Wed Nov 11 2026. No macro, syntax, notation, axiom, sorry.
-/
import Derived.Test.YtphoapmmliiimaaChecked
import GoSem.Claim
import GoSem.ClaimJoined
import GoSem.ClaimMapViews
import Derived.JoinedTies
import Derived.KernelRfl
namespace Go.Proofs.Ytphoapmmliiimaa
/- THE CELL 'sum', in the pinned program and in every row, IS THE sha256 OF THE DUMP (.gsa) THAT YtphoapmmliiimaaProg.lean LOADS. Nothing in Lean hashes anything: it is a label: what it is worth is what the hold of that sum in a sandbox is worth. -/
noncomputable def Try.pinned : Pinned := { name := "ytphoapmmliiimaa", sum := "d070309821ec167a85eb57b9bb00d90ccd88438c8360edfb1ad59c974852b0a5", checked := Try.checked }
namespace Rows
def none {H : Type} : Left H := { results := [], args := [] }

/-- 'laws.FnExactIsSheet': WHATEVER THE INPUT: true; the input reads as it did. -/
def fnExactIsSheetSpec : ChangeSpec := { name := "fnExactIsSheet", fn := fun _ => fun
  | [d] => { results := [.lit (.bool true)], args := [d] }
  | _ => none }
def fnExactIsSheetRow : OpenClaim := { program := "ytphoapmmliiimaa", sum := "d070309821ec167a85eb57b9bb00d90ccd88438c8360edfb1ad59c974852b0a5", func := "loop.example/g01220/laws.FnExactIsSheet", spec := "fnExactIsSheet", apart := false }
def FnExactIsSheetSaid : Prop := fnExactIsSheetRow.holds Try.pinned (OpenSpec.ofChange fnExactIsSheetSpec)

/-- ITS FALSE NEIGHBOUR: 'it returns false'. Refute it at one input. -/
def fnExactIsSheetWrong : ChangeSpec := { name := "fnExactIsSheet", fn := fun _ => fun
  | [d] => { results := [.lit (.bool false)], args := [d] }
  | _ => none }
def FnExactIsSheetWrongFalsely : Prop := fnExactIsSheetRow.holds Try.pinned (OpenSpec.ofChange fnExactIsSheetWrong)

/-- 'laws.FnExactIsPart': WHATEVER THE INPUT: true; the input reads as it did. -/
def fnExactIsPartSpec : ChangeSpec := { name := "fnExactIsPart", fn := fun _ => fun
  | [d1, d2] => { results := [.lit (.bool true)], args := [d1, d2] }
  | _ => none }
def fnExactIsPartRow : OpenClaim := { program := "ytphoapmmliiimaa", sum := "d070309821ec167a85eb57b9bb00d90ccd88438c8360edfb1ad59c974852b0a5", func := "loop.example/g01220/laws.FnExactIsPart", spec := "fnExactIsPart", apart := false }
def FnExactIsPartSaid : Prop := fnExactIsPartRow.holds Try.pinned (OpenSpec.ofChange fnExactIsPartSpec)

/-- ITS FALSE NEIGHBOUR: 'it returns false'. Refute it at one input. -/
def fnExactIsPartWrong : ChangeSpec := { name := "fnExactIsPart", fn := fun _ => fun
  | [d1, d2] => { results := [.lit (.bool false)], args := [d1, d2] }
  | _ => none }
def FnExactIsPartWrongFalsely : Prop := fnExactIsPartRow.holds Try.pinned (OpenSpec.ofChange fnExactIsPartWrong)

/-- 'laws.FnExactOtherOf': WHATEVER THE INPUT: true; the input reads as it did. -/
def fnExactOtherOfSpec : ChangeSpec := { name := "fnExactOtherOf", fn := fun _ => fun
  | [d] => { results := [.lit (.bool true)], args := [d] }
  | _ => none }
def fnExactOtherOfRow : OpenClaim := { program := "ytphoapmmliiimaa", sum := "d070309821ec167a85eb57b9bb00d90ccd88438c8360edfb1ad59c974852b0a5", func := "loop.example/g01220/laws.FnExactOtherOf", spec := "fnExactOtherOf", apart := false }
def FnExactOtherOfSaid : Prop := fnExactOtherOfRow.holds Try.pinned (OpenSpec.ofChange fnExactOtherOfSpec)

/-- ITS FALSE NEIGHBOUR: 'it returns false'. Refute it at one input. -/
def fnExactOtherOfWrong : ChangeSpec := { name := "fnExactOtherOf", fn := fun _ => fun
  | [d] => { results := [.lit (.bool false)], args := [d] }
  | _ => none }
def FnExactOtherOfWrongFalsely : Prop := fnExactOtherOfRow.holds Try.pinned (OpenSpec.ofChange fnExactOtherOfWrong)

/-- 'laws.FnExactBothOf': WHATEVER THE INPUT: true; the input reads as it did. -/
def fnExactBothOfSpec : ChangeSpec := { name := "fnExactBothOf", fn := fun _ => fun
  | [d1, d2] => { results := [.lit (.bool true)], args := [d1, d2] }
  | _ => none }
def fnExactBothOfRow : OpenClaim := { program := "ytphoapmmliiimaa", sum := "d070309821ec167a85eb57b9bb00d90ccd88438c8360edfb1ad59c974852b0a5", func := "loop.example/g01220/laws.FnExactBothOf", spec := "fnExactBothOf", apart := false }
def FnExactBothOfSaid : Prop := fnExactBothOfRow.holds Try.pinned (OpenSpec.ofChange fnExactBothOfSpec)

/-- ITS FALSE NEIGHBOUR: 'it returns false'. Refute it at one input. -/
def fnExactBothOfWrong : ChangeSpec := { name := "fnExactBothOf", fn := fun _ => fun
  | [d1, d2] => { results := [.lit (.bool false)], args := [d1, d2] }
  | _ => none }
def FnExactBothOfWrongFalsely : Prop := fnExactBothOfRow.holds Try.pinned (OpenSpec.ofChange fnExactBothOfWrong)

/-- 'laws.FnExactDifferOf': WHATEVER THE INPUT: true; the input reads as it did. -/
def fnExactDifferOfSpec : ChangeSpec := { name := "fnExactDifferOf", fn := fun _ => fun
  | [d1, d2] => { results := [.lit (.bool true)], args := [d1, d2] }
  | _ => none }
def fnExactDifferOfRow : OpenClaim := { program := "ytphoapmmliiimaa", sum := "d070309821ec167a85eb57b9bb00d90ccd88438c8360edfb1ad59c974852b0a5", func := "loop.example/g01220/laws.FnExactDifferOf", spec := "fnExactDifferOf", apart := false }
def FnExactDifferOfSaid : Prop := fnExactDifferOfRow.holds Try.pinned (OpenSpec.ofChange fnExactDifferOfSpec)

/-- ITS FALSE NEIGHBOUR: 'it returns false'. Refute it at one input. -/
def fnExactDifferOfWrong : ChangeSpec := { name := "fnExactDifferOf", fn := fun _ => fun
  | [d1, d2] => { results := [.lit (.bool false)], args := [d1, d2] }
  | _ => none }
def FnExactDifferOfWrongFalsely : Prop := fnExactDifferOfRow.holds Try.pinned (OpenSpec.ofChange fnExactDifferOfWrong)

/-- 'laws.FnExactEitherOf': WHATEVER THE INPUT: true; the input reads as it did. -/
def fnExactEitherOfSpec : ChangeSpec := { name := "fnExactEitherOf", fn := fun _ => fun
  | [d1, d2] => { results := [.lit (.bool true)], args := [d1, d2] }
  | _ => none }
def fnExactEitherOfRow : OpenClaim := { program := "ytphoapmmliiimaa", sum := "d070309821ec167a85eb57b9bb00d90ccd88438c8360edfb1ad59c974852b0a5", func := "loop.example/g01220/laws.FnExactEitherOf", spec := "fnExactEitherOf", apart := false }
def FnExactEitherOfSaid : Prop := fnExactEitherOfRow.holds Try.pinned (OpenSpec.ofChange fnExactEitherOfSpec)

/-- ITS FALSE NEIGHBOUR: 'it returns false'. Refute it at one input. -/
def fnExactEitherOfWrong : ChangeSpec := { name := "fnExactEitherOf", fn := fun _ => fun
  | [d1, d2] => { results := [.lit (.bool false)], args := [d1, d2] }
  | _ => none }
def FnExactEitherOfWrongFalsely : Prop := fnExactEitherOfRow.holds Try.pinned (OpenSpec.ofChange fnExactEitherOfWrong)

/-- 'laws.FnExactSizeOf': WHATEVER THE INPUT: true; the input reads as it did. -/
def fnExactSizeOfSpec : ChangeSpec := { name := "fnExactSizeOf", fn := fun _ => fun
  | [d] => { results := [.lit (.bool true)], args := [d] }
  | _ => none }
def fnExactSizeOfRow : OpenClaim := { program := "ytphoapmmliiimaa", sum := "d070309821ec167a85eb57b9bb00d90ccd88438c8360edfb1ad59c974852b0a5", func := "loop.example/g01220/laws.FnExactSizeOf", spec := "fnExactSizeOf", apart := false }
def FnExactSizeOfSaid : Prop := fnExactSizeOfRow.holds Try.pinned (OpenSpec.ofChange fnExactSizeOfSpec)

/-- ITS FALSE NEIGHBOUR: 'it returns false'. Refute it at one input. -/
def fnExactSizeOfWrong : ChangeSpec := { name := "fnExactSizeOf", fn := fun _ => fun
  | [d] => { results := [.lit (.bool false)], args := [d] }
  | _ => none }
def FnExactSizeOfWrongFalsely : Prop := fnExactSizeOfRow.holds Try.pinned (OpenSpec.ofChange fnExactSizeOfWrong)

/-- 'laws.FnExactLessSheet': WHATEVER THE INPUT: true; the input reads as it did. -/
def fnExactLessSheetSpec : ChangeSpec := { name := "fnExactLessSheet", fn := fun _ => fun
  | [d1, d2] => { results := [.lit (.bool true)], args := [d1, d2] }
  | _ => none }
def fnExactLessSheetRow : OpenClaim := { program := "ytphoapmmliiimaa", sum := "d070309821ec167a85eb57b9bb00d90ccd88438c8360edfb1ad59c974852b0a5", func := "loop.example/g01220/laws.FnExactLessSheet", spec := "fnExactLessSheet", apart := false }
def FnExactLessSheetSaid : Prop := fnExactLessSheetRow.holds Try.pinned (OpenSpec.ofChange fnExactLessSheetSpec)

/-- ITS FALSE NEIGHBOUR: 'it returns false'. Refute it at one input. -/
def fnExactLessSheetWrong : ChangeSpec := { name := "fnExactLessSheet", fn := fun _ => fun
  | [d1, d2] => { results := [.lit (.bool false)], args := [d1, d2] }
  | _ => none }
def FnExactLessSheetWrongFalsely : Prop := fnExactLessSheetRow.holds Try.pinned (OpenSpec.ofChange fnExactLessSheetWrong)

/-- 'laws.FnExactShiftSheet': WHATEVER THE INPUT: true; the input reads as it did. -/
def fnExactShiftSheetSpec : ChangeSpec := { name := "fnExactShiftSheet", fn := fun _ => fun
  | [d1, d2, d3] => { results := [.lit (.bool true)], args := [d1, d2, d3] }
  | _ => none }
def fnExactShiftSheetRow : OpenClaim := { program := "ytphoapmmliiimaa", sum := "d070309821ec167a85eb57b9bb00d90ccd88438c8360edfb1ad59c974852b0a5", func := "loop.example/g01220/laws.FnExactShiftSheet", spec := "fnExactShiftSheet", unfollowed := true, recurses := true, apart := false }
def FnExactShiftSheetSaid : Prop := fnExactShiftSheetRow.holds Try.pinned (OpenSpec.ofChange fnExactShiftSheetSpec)

/-- ITS FALSE NEIGHBOUR: 'it returns false'. Refute it at one input. -/
def fnExactShiftSheetWrong : ChangeSpec := { name := "fnExactShiftSheet", fn := fun _ => fun
  | [d1, d2, d3] => { results := [.lit (.bool false)], args := [d1, d2, d3] }
  | _ => none }
def FnExactShiftSheetWrongFalsely : Prop := fnExactShiftSheetRow.holds Try.pinned (OpenSpec.ofChange fnExactShiftSheetWrong)

/-- 'laws.FnExactCellsOf': WHATEVER THE INPUT: true; the input reads as it did. -/
def fnExactCellsOfSpec : ChangeSpec := { name := "fnExactCellsOf", fn := fun _ => fun
  | [d] => { results := [.lit (.bool true)], args := [d] }
  | _ => none }
def fnExactCellsOfRow : OpenClaim := { program := "ytphoapmmliiimaa", sum := "d070309821ec167a85eb57b9bb00d90ccd88438c8360edfb1ad59c974852b0a5", func := "loop.example/g01220/laws.FnExactCellsOf", spec := "fnExactCellsOf", apart := false }
def FnExactCellsOfSaid : Prop := fnExactCellsOfRow.holds Try.pinned (OpenSpec.ofChange fnExactCellsOfSpec)

/-- ITS FALSE NEIGHBOUR: 'it returns false'. Refute it at one input. -/
def fnExactCellsOfWrong : ChangeSpec := { name := "fnExactCellsOf", fn := fun _ => fun
  | [d] => { results := [.lit (.bool false)], args := [d] }
  | _ => none }
def FnExactCellsOfWrongFalsely : Prop := fnExactCellsOfRow.holds Try.pinned (OpenSpec.ofChange fnExactCellsOfWrong)

/-- 'laws.FnExactSheetText': WHATEVER THE INPUT: true; the input reads as it did. -/
def fnExactSheetTextSpec : ChangeSpec := { name := "fnExactSheetText", fn := fun _ => fun
  | [d] => { results := [.lit (.bool true)], args := [d] }
  | _ => none }
def fnExactSheetTextRow : OpenClaim := { program := "ytphoapmmliiimaa", sum := "d070309821ec167a85eb57b9bb00d90ccd88438c8360edfb1ad59c974852b0a5", func := "loop.example/g01220/laws.FnExactSheetText", spec := "fnExactSheetText", inPlace := ["internal/abi.NoEscape", "internal/bytealg.MakeNoZero"], apart := false }
def FnExactSheetTextSaid : Prop := fnExactSheetTextRow.holds Try.pinned (OpenSpec.ofChange fnExactSheetTextSpec)

/-- ITS FALSE NEIGHBOUR: 'it returns false'. Refute it at one input. -/
def fnExactSheetTextWrong : ChangeSpec := { name := "fnExactSheetText", fn := fun _ => fun
  | [d] => { results := [.lit (.bool false)], args := [d] }
  | _ => none }
def FnExactSheetTextWrongFalsely : Prop := fnExactSheetTextRow.holds Try.pinned (OpenSpec.ofChange fnExactSheetTextWrong)

/- THE SECOND FORM. 'bulk': how many values and letters a reading holds, each counted each time it is reached (what is shared counts as often as it is met; a slice's spare places count too). A statement '..UptoSaid' is the law's where the arguments, and the package variables that the reading takes, are together of bulk at most 1048576: NARROWER than '..Said'. Prove '..Said' where nothing that the law and all that it calls make is longer than what came in: it says more and counts as full. Else prove '..UptoSaid'. A law counts once. -/
mutual
def uptoBulk {H : Type} : DataW H → Nat
  | .lit (.string bytes) => bytes.length + 1
  | .lit _ => 1
  | .nil => 1
  | .ptr d => uptoBulk d + 1
  | .slice elems spare => uptoBulkAll elems + uptoBulkAll spare + 1
  | .agg parts => uptoBulkAll parts + 1
  | .iface _ d => uptoBulk d + 1
  | .map entries => uptoBulkEntries entries + 1
  | .held _ => 1
def uptoBulkAll {H : Type} : List (DataW H) → Nat
  | [] => 0
  | d :: r => uptoBulk d + uptoBulkAll r
def uptoBulkEntries {H : Type} : List (Lit × DataW H) → Nat
  | [] => 0
  | x :: r => uptoBulkEntry x + uptoBulkEntries r
def uptoBulkEntry {H : Type} : Lit × DataW H → Nat
  | (.string bytes, d) => bytes.length + uptoBulk d + 1
  | (_, d) => uptoBulk d + 1
 end
def uptoSmall : (H : Type) → List (DataW H) → Bool := fun _ ds => decide (uptoBulkAll ds ≤ 1048576)
def OpenSpec.upto (s : _root_.Go.ChangeSpec) : _root_.Go.OpenSpec := { _root_.Go.OpenSpec.ofChange s with cond := some uptoSmall }

/-- 'laws.FnExactIsSheet', WHERE WHAT IT READS IS OF BULK AT MOST 1048576: true; the input reads as it did. -/
def fnExactIsSheetUptoRow : OpenClaim := { program := "ytphoapmmliiimaa", sum := "d070309821ec167a85eb57b9bb00d90ccd88438c8360edfb1ad59c974852b0a5", func := "loop.example/g01220/laws.FnExactIsSheet", spec := "fnExactIsSheet", apart := false, narrowed := true }
def FnExactIsSheetUptoSaid : Prop := fnExactIsSheetUptoRow.holds Try.pinned (OpenSpec.upto fnExactIsSheetSpec)

/-- 'laws.FnExactIsPart', WHERE WHAT IT READS IS OF BULK AT MOST 1048576: true; the input reads as it did. -/
def fnExactIsPartUptoRow : OpenClaim := { program := "ytphoapmmliiimaa", sum := "d070309821ec167a85eb57b9bb00d90ccd88438c8360edfb1ad59c974852b0a5", func := "loop.example/g01220/laws.FnExactIsPart", spec := "fnExactIsPart", apart := false, narrowed := true }
def FnExactIsPartUptoSaid : Prop := fnExactIsPartUptoRow.holds Try.pinned (OpenSpec.upto fnExactIsPartSpec)

/-- 'laws.FnExactOtherOf', WHERE WHAT IT READS IS OF BULK AT MOST 1048576: true; the input reads as it did. -/
def fnExactOtherOfUptoRow : OpenClaim := { program := "ytphoapmmliiimaa", sum := "d070309821ec167a85eb57b9bb00d90ccd88438c8360edfb1ad59c974852b0a5", func := "loop.example/g01220/laws.FnExactOtherOf", spec := "fnExactOtherOf", apart := false, narrowed := true }
def FnExactOtherOfUptoSaid : Prop := fnExactOtherOfUptoRow.holds Try.pinned (OpenSpec.upto fnExactOtherOfSpec)

/-- 'laws.FnExactBothOf', WHERE WHAT IT READS IS OF BULK AT MOST 1048576: true; the input reads as it did. -/
def fnExactBothOfUptoRow : OpenClaim := { program := "ytphoapmmliiimaa", sum := "d070309821ec167a85eb57b9bb00d90ccd88438c8360edfb1ad59c974852b0a5", func := "loop.example/g01220/laws.FnExactBothOf", spec := "fnExactBothOf", apart := false, narrowed := true }
def FnExactBothOfUptoSaid : Prop := fnExactBothOfUptoRow.holds Try.pinned (OpenSpec.upto fnExactBothOfSpec)

/-- 'laws.FnExactDifferOf', WHERE WHAT IT READS IS OF BULK AT MOST 1048576: true; the input reads as it did. -/
def fnExactDifferOfUptoRow : OpenClaim := { program := "ytphoapmmliiimaa", sum := "d070309821ec167a85eb57b9bb00d90ccd88438c8360edfb1ad59c974852b0a5", func := "loop.example/g01220/laws.FnExactDifferOf", spec := "fnExactDifferOf", apart := false, narrowed := true }
def FnExactDifferOfUptoSaid : Prop := fnExactDifferOfUptoRow.holds Try.pinned (OpenSpec.upto fnExactDifferOfSpec)

/-- 'laws.FnExactEitherOf', WHERE WHAT IT READS IS OF BULK AT MOST 1048576: true; the input reads as it did. -/
def fnExactEitherOfUptoRow : OpenClaim := { program := "ytphoapmmliiimaa", sum := "d070309821ec167a85eb57b9bb00d90ccd88438c8360edfb1ad59c974852b0a5", func := "loop.example/g01220/laws.FnExactEitherOf", spec := "fnExactEitherOf", apart := false, narrowed := true }
def FnExactEitherOfUptoSaid : Prop := fnExactEitherOfUptoRow.holds Try.pinned (OpenSpec.upto fnExactEitherOfSpec)

/-- 'laws.FnExactSizeOf', WHERE WHAT IT READS IS OF BULK AT MOST 1048576: true; the input reads as it did. -/
def fnExactSizeOfUptoRow : OpenClaim := { program := "ytphoapmmliiimaa", sum := "d070309821ec167a85eb57b9bb00d90ccd88438c8360edfb1ad59c974852b0a5", func := "loop.example/g01220/laws.FnExactSizeOf", spec := "fnExactSizeOf", apart := false, narrowed := true }
def FnExactSizeOfUptoSaid : Prop := fnExactSizeOfUptoRow.holds Try.pinned (OpenSpec.upto fnExactSizeOfSpec)

/-- 'laws.FnExactLessSheet', WHERE WHAT IT READS IS OF BULK AT MOST 1048576: true; the input reads as it did. -/
def fnExactLessSheetUptoRow : OpenClaim := { program := "ytphoapmmliiimaa", sum := "d070309821ec167a85eb57b9bb00d90ccd88438c8360edfb1ad59c974852b0a5", func := "loop.example/g01220/laws.FnExactLessSheet", spec := "fnExactLessSheet", apart := false, narrowed := true }
def FnExactLessSheetUptoSaid : Prop := fnExactLessSheetUptoRow.holds Try.pinned (OpenSpec.upto fnExactLessSheetSpec)

/-- 'laws.FnExactShiftSheet', WHERE WHAT IT READS IS OF BULK AT MOST 1048576: true; the input reads as it did. -/
def fnExactShiftSheetUptoRow : OpenClaim := { program := "ytphoapmmliiimaa", sum := "d070309821ec167a85eb57b9bb00d90ccd88438c8360edfb1ad59c974852b0a5", func := "loop.example/g01220/laws.FnExactShiftSheet", spec := "fnExactShiftSheet", unfollowed := true, recurses := true, apart := false, narrowed := true }
def FnExactShiftSheetUptoSaid : Prop := fnExactShiftSheetUptoRow.holds Try.pinned (OpenSpec.upto fnExactShiftSheetSpec)

/-- 'laws.FnExactCellsOf', WHERE WHAT IT READS IS OF BULK AT MOST 1048576: true; the input reads as it did. -/
def fnExactCellsOfUptoRow : OpenClaim := { program := "ytphoapmmliiimaa", sum := "d070309821ec167a85eb57b9bb00d90ccd88438c8360edfb1ad59c974852b0a5", func := "loop.example/g01220/laws.FnExactCellsOf", spec := "fnExactCellsOf", apart := false, narrowed := true }
def FnExactCellsOfUptoSaid : Prop := fnExactCellsOfUptoRow.holds Try.pinned (OpenSpec.upto fnExactCellsOfSpec)

/-- 'laws.FnExactSheetText', WHERE WHAT IT READS IS OF BULK AT MOST 1048576: true; the input reads as it did. -/
def fnExactSheetTextUptoRow : OpenClaim := { program := "ytphoapmmliiimaa", sum := "d070309821ec167a85eb57b9bb00d90ccd88438c8360edfb1ad59c974852b0a5", func := "loop.example/g01220/laws.FnExactSheetText", spec := "fnExactSheetText", inPlace := ["internal/abi.NoEscape", "internal/bytealg.MakeNoZero"], apart := false, narrowed := true }
def FnExactSheetTextUptoSaid : Prop := fnExactSheetTextUptoRow.holds Try.pinned (OpenSpec.upto fnExactSheetTextSpec)

end Rows
end Go.Proofs.Ytphoapmmliiimaa
