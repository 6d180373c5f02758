/-
  DERIVED. GIVEN WITH THE SEED: THE CARDS: each row of YtgjgefbcfcomcaaGreatDoorRows.lean that lists a variable, with what it lists TIED to the program's text (the seventh form; the later family's looks); each row that meets fmt, with fmt's text TOLD by the authors' own Lean function (tested against real Go, not proved from fmt's source: count such statements apart). THE CARD IS WHAT COUNTS. Prove the row's statement (the work); the ties are given (YtgjgefbcfcomcaaGreatDoorTie.lean); close each card by the builder's one call (the guide's Derived/Test/ToyasCard.lean, 'card_holds'). Laid BY PROGRAM, IN A SANDBOX (cutbox-door.mjs). By AI agents, Wed Nov 11 2026. No macro, syntax, notation, axiom, sorry.
-/
import Derived.Test.YtgjgefbcfcomcaaGreatDoorRows
import GoSem.ClaimSeven
namespace Go.Proofs.YtgjgefbcfcomcaaGreatDoor
namespace Rows

/-- THE TIED CARD OF 'laws.FnKernels'. -/
def fnKernelsCard : Claim7 := { stood := { row := fnKernelsRow, standIns := [], harness := (true, "c1c57c2d091314ecf7a3daca2d804a4a605741e548b4ecc0ca8d48f8640ba818"), looks := false }, kinds := [], alts := [], laidByText := true, laidKinds := [.data], laidTests := true, laidLooks := .later }
def FnKernelsCardSaid : Prop := Claim7.holds Tryz.pinned (.plain (OpenSpec.ofChange fnKernelsSpec)) fnKernelsCard

/-- THE SECOND FORM's CARD OF 'laws.FnKernels'. -/
def fnKernelsUptoCard : Claim7 := { stood := { row := fnKernelsUptoRow, standIns := [], harness := (true, "c1c57c2d091314ecf7a3daca2d804a4a605741e548b4ecc0ca8d48f8640ba818"), looks := false }, kinds := [], alts := [], laidByText := true, laidKinds := [.data], laidTests := true, laidLooks := .later }
def FnKernelsUptoCardSaid : Prop := Claim7.holds Tryz.pinned (.plain (OpenSpec.upto fnKernelsSpec)) fnKernelsUptoCard
end Rows
end Go.Proofs.YtgjgefbcfcomcaaGreatDoor
