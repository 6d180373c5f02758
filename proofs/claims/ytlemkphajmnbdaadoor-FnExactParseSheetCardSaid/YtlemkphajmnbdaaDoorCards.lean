/-
  DERIVED. GIVEN WITH THE SEED: THE CARDS: each row of YtlemkphajmnbdaaDoorRows.lean that lists a variable, with what it lists TIED to the program's text (the seventh form; the later family's looks); each row that meets fmt, with fmt's text TOLD by the authors' own Lean function (tested against real Go, not proved from fmt's source: count such statements apart). THE CARD IS WHAT COUNTS. Prove the row's statement (the work); the ties are given (YtlemkphajmnbdaaDoorTie.lean); close each card by the builder's one call (the guide's Derived/Test/ToyasCard.lean, 'card_holds'). Laid BY PROGRAM, IN A SANDBOX (cutbox-door.mjs). By AI agents, Wed Nov 11 2026. No macro, syntax, notation, axiom, sorry.
-/
import Derived.Test.YtlemkphajmnbdaaDoorRows
import GoSem.ClaimSeven
namespace Go.Proofs.YtlemkphajmnbdaaDoor
namespace Rows

/-- THE TIED CARD OF 'laws.FnExactParseSheet'. -/
def fnExactParseSheetCard : Claim7 := { stood := { row := fnExactParseSheetRow, standIns := [], harness := (true, "b58d3450eb3e2d6ae70065995d68b609df10611f8ba3533676b71ae40fd4e70e"), looks := false }, kinds := [], alts := [], laidByText := true, laidKinds := [.data, .pinned], laidTests := true, laidLooks := .later }
def FnExactParseSheetCardSaid : Prop := Claim7.holds Tryd.pinned (.plain (OpenSpec.ofChange fnExactParseSheetSpec)) fnExactParseSheetCard

/-- THE SECOND FORM's CARD OF 'laws.FnExactParseSheet'. -/
def fnExactParseSheetUptoCard : Claim7 := { stood := { row := fnExactParseSheetUptoRow, standIns := [], harness := (true, "b58d3450eb3e2d6ae70065995d68b609df10611f8ba3533676b71ae40fd4e70e"), looks := false }, kinds := [], alts := [], laidByText := true, laidKinds := [.data, .pinned], laidTests := true, laidLooks := .later }
def FnExactParseSheetUptoCardSaid : Prop := Claim7.holds Tryd.pinned (.plain (OpenSpec.upto fnExactParseSheetSpec)) fnExactParseSheetUptoCard
end Rows
end Go.Proofs.YtlemkphajmnbdaaDoor
