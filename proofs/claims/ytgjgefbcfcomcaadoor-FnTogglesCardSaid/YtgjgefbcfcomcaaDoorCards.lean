/-
  DERIVED. GIVEN WITH THE SEED: THE CARDS: each row of YtgjgefbcfcomcaaDoorRows.lean that lists a variable, with what it lists TIED to the program's text (the seventh form; the later family's looks); each row that meets fmt, with fmt's text TOLD by the authors' own Lean function (tested against real Go, not proved from fmt's source: count such statements apart). THE CARD IS WHAT COUNTS. Prove the row's statement (the work); the ties are given (YtgjgefbcfcomcaaDoorTie.lean); close each card by the builder's one call (the guide's Derived/Test/ToyasCard.lean, 'card_holds'). Laid BY PROGRAM, IN A SANDBOX (cutbox-door.mjs). By AI agents, Wed Nov 11 2026. No macro, syntax, notation, axiom, sorry.
-/
import Derived.Test.YtgjgefbcfcomcaaDoorRows
import GoSem.ClaimSeven
namespace Go.Proofs.YtgjgefbcfcomcaaDoor
namespace Rows

/-- THE TIED CARD OF 'laws.FnExactCanToggle'. -/
def fnExactCanToggleCard : Claim7 := { stood := { row := fnExactCanToggleRow, standIns := [], harness := (true, "70bc670d0d1819f45370af4dd8885af1765ec3753b72952b93e9665f42aef15a"), looks := false }, kinds := [], alts := [], laidByText := true, laidKinds := [.data], laidTests := true, laidLooks := .later }
def FnExactCanToggleCardSaid : Prop := Claim7.holds Tryd.pinned (.plain (OpenSpec.ofChange fnExactCanToggleSpec)) fnExactCanToggleCard

/-- THE TIED CARD OF 'laws.FnExactStampOrder'. -/
def fnExactStampOrderCard : Claim7 := { stood := { row := fnExactStampOrderRow, standIns := [], harness := (true, "70bc670d0d1819f45370af4dd8885af1765ec3753b72952b93e9665f42aef15a"), looks := false }, kinds := [], alts := [], laidByText := true, laidKinds := [.data], laidTests := true, laidLooks := .later }
def FnExactStampOrderCardSaid : Prop := Claim7.holds Tryd.pinned (.plain (OpenSpec.ofChange fnExactStampOrderSpec)) fnExactStampOrderCard

/-- THE TIED CARD OF 'laws.FnExactIsUndoable'. -/
def fnExactIsUndoableCard : Claim7 := { stood := { row := fnExactIsUndoableRow, standIns := [], harness := (true, "70bc670d0d1819f45370af4dd8885af1765ec3753b72952b93e9665f42aef15a"), looks := false }, kinds := [], alts := [], laidByText := true, laidKinds := [.data], laidTests := true, laidLooks := .later }
def FnExactIsUndoableCardSaid : Prop := Claim7.holds Tryd.pinned (.plain (OpenSpec.ofChange fnExactIsUndoableSpec)) fnExactIsUndoableCard

/-- THE TIED CARD OF 'laws.FnExactRankOf'. -/
def fnExactRankOfCard : Claim7 := { stood := { row := fnExactRankOfRow, standIns := [], harness := (true, "70bc670d0d1819f45370af4dd8885af1765ec3753b72952b93e9665f42aef15a"), looks := false }, kinds := [], alts := [], laidByText := true, laidKinds := [.data], laidTests := true, laidLooks := .later }
def FnExactRankOfCardSaid : Prop := Claim7.holds Tryd.pinned (.plain (OpenSpec.ofChange fnExactRankOfSpec)) fnExactRankOfCard

/-- THE TIED CARD OF 'laws.FnExactQuietStamps'. -/
def fnExactQuietStampsCard : Claim7 := { stood := { row := fnExactQuietStampsRow, standIns := [], harness := (true, "70bc670d0d1819f45370af4dd8885af1765ec3753b72952b93e9665f42aef15a"), looks := false }, kinds := [], alts := [], laidByText := true, laidKinds := [.data], laidTests := true, laidLooks := .later }
def FnExactQuietStampsCardSaid : Prop := Claim7.holds Tryd.pinned (.plain (OpenSpec.ofChange fnExactQuietStampsSpec)) fnExactQuietStampsCard

/-- THE TIED CARD OF 'laws.FnExactUndoStamp'. -/
def fnExactUndoStampCard : Claim7 := { stood := { row := fnExactUndoStampRow, standIns := [], harness := (true, "70bc670d0d1819f45370af4dd8885af1765ec3753b72952b93e9665f42aef15a"), looks := false }, kinds := [], alts := [], laidByText := true, laidKinds := [.data], laidTests := true, laidLooks := .later }
def FnExactUndoStampCardSaid : Prop := Claim7.holds Tryd.pinned (.plain (OpenSpec.ofChange fnExactUndoStampSpec)) fnExactUndoStampCard

/-- THE TIED CARD OF 'laws.FnExactFewestPresses'. -/
def fnExactFewestPressesCard : Claim7 := { stood := { row := fnExactFewestPressesRow, standIns := [], harness := (true, "70bc670d0d1819f45370af4dd8885af1765ec3753b72952b93e9665f42aef15a"), looks := false }, kinds := [], alts := [], laidByText := true, laidKinds := [.data], laidTests := true, laidLooks := .later }
def FnExactFewestPressesCardSaid : Prop := Claim7.holds Tryd.pinned (.plain (OpenSpec.ofChange fnExactFewestPressesSpec)) fnExactFewestPressesCard

/-- THE TIED CARD OF 'laws.FnExactLeastPresses'. -/
def fnExactLeastPressesCard : Claim7 := { stood := { row := fnExactLeastPressesRow, standIns := [], harness := (true, "70bc670d0d1819f45370af4dd8885af1765ec3753b72952b93e9665f42aef15a"), looks := false }, kinds := [], alts := [], laidByText := true, laidKinds := [.data], laidTests := true, laidLooks := .later }
def FnExactLeastPressesCardSaid : Prop := Claim7.holds Tryd.pinned (.plain (OpenSpec.ofChange fnExactLeastPressesSpec)) fnExactLeastPressesCard

/-- THE TIED CARD OF 'laws.FnExactKernelOf'. -/
def fnExactKernelOfCard : Claim7 := { stood := { row := fnExactKernelOfRow, standIns := [], harness := (true, "70bc670d0d1819f45370af4dd8885af1765ec3753b72952b93e9665f42aef15a"), looks := false }, kinds := [], alts := [], laidByText := true, laidKinds := [.data], laidTests := true, laidLooks := .later }
def FnExactKernelOfCardSaid : Prop := Claim7.holds Tryd.pinned (.plain (OpenSpec.ofChange fnExactKernelOfSpec)) fnExactKernelOfCard

/-- THE TIED CARD OF 'laws.FnToggles'. -/
def fnTogglesCard : Claim7 := { stood := { row := fnTogglesRow, standIns := [], harness := (true, "70bc670d0d1819f45370af4dd8885af1765ec3753b72952b93e9665f42aef15a"), looks := false }, kinds := [], alts := [], laidByText := true, laidKinds := [.data], laidTests := true, laidLooks := .later }
def FnTogglesCardSaid : Prop := Claim7.holds Tryd.pinned (.plain (OpenSpec.ofChange fnTogglesSpec)) fnTogglesCard

/-- THE SECOND FORM's CARD OF 'laws.FnExactCanToggle'. -/
def fnExactCanToggleUptoCard : Claim7 := { stood := { row := fnExactCanToggleUptoRow, standIns := [], harness := (true, "70bc670d0d1819f45370af4dd8885af1765ec3753b72952b93e9665f42aef15a"), looks := false }, kinds := [], alts := [], laidByText := true, laidKinds := [.data], laidTests := true, laidLooks := .later }
def FnExactCanToggleUptoCardSaid : Prop := Claim7.holds Tryd.pinned (.plain (OpenSpec.upto fnExactCanToggleSpec)) fnExactCanToggleUptoCard

/-- THE SECOND FORM's CARD OF 'laws.FnExactStampOrder'. -/
def fnExactStampOrderUptoCard : Claim7 := { stood := { row := fnExactStampOrderUptoRow, standIns := [], harness := (true, "70bc670d0d1819f45370af4dd8885af1765ec3753b72952b93e9665f42aef15a"), looks := false }, kinds := [], alts := [], laidByText := true, laidKinds := [.data], laidTests := true, laidLooks := .later }
def FnExactStampOrderUptoCardSaid : Prop := Claim7.holds Tryd.pinned (.plain (OpenSpec.upto fnExactStampOrderSpec)) fnExactStampOrderUptoCard

/-- THE SECOND FORM's CARD OF 'laws.FnExactIsUndoable'. -/
def fnExactIsUndoableUptoCard : Claim7 := { stood := { row := fnExactIsUndoableUptoRow, standIns := [], harness := (true, "70bc670d0d1819f45370af4dd8885af1765ec3753b72952b93e9665f42aef15a"), looks := false }, kinds := [], alts := [], laidByText := true, laidKinds := [.data], laidTests := true, laidLooks := .later }
def FnExactIsUndoableUptoCardSaid : Prop := Claim7.holds Tryd.pinned (.plain (OpenSpec.upto fnExactIsUndoableSpec)) fnExactIsUndoableUptoCard

/-- THE SECOND FORM's CARD OF 'laws.FnExactRankOf'. -/
def fnExactRankOfUptoCard : Claim7 := { stood := { row := fnExactRankOfUptoRow, standIns := [], harness := (true, "70bc670d0d1819f45370af4dd8885af1765ec3753b72952b93e9665f42aef15a"), looks := false }, kinds := [], alts := [], laidByText := true, laidKinds := [.data], laidTests := true, laidLooks := .later }
def FnExactRankOfUptoCardSaid : Prop := Claim7.holds Tryd.pinned (.plain (OpenSpec.upto fnExactRankOfSpec)) fnExactRankOfUptoCard

/-- THE SECOND FORM's CARD OF 'laws.FnExactQuietStamps'. -/
def fnExactQuietStampsUptoCard : Claim7 := { stood := { row := fnExactQuietStampsUptoRow, standIns := [], harness := (true, "70bc670d0d1819f45370af4dd8885af1765ec3753b72952b93e9665f42aef15a"), looks := false }, kinds := [], alts := [], laidByText := true, laidKinds := [.data], laidTests := true, laidLooks := .later }
def FnExactQuietStampsUptoCardSaid : Prop := Claim7.holds Tryd.pinned (.plain (OpenSpec.upto fnExactQuietStampsSpec)) fnExactQuietStampsUptoCard

/-- THE SECOND FORM's CARD OF 'laws.FnExactUndoStamp'. -/
def fnExactUndoStampUptoCard : Claim7 := { stood := { row := fnExactUndoStampUptoRow, standIns := [], harness := (true, "70bc670d0d1819f45370af4dd8885af1765ec3753b72952b93e9665f42aef15a"), looks := false }, kinds := [], alts := [], laidByText := true, laidKinds := [.data], laidTests := true, laidLooks := .later }
def FnExactUndoStampUptoCardSaid : Prop := Claim7.holds Tryd.pinned (.plain (OpenSpec.upto fnExactUndoStampSpec)) fnExactUndoStampUptoCard

/-- THE SECOND FORM's CARD OF 'laws.FnExactFewestPresses'. -/
def fnExactFewestPressesUptoCard : Claim7 := { stood := { row := fnExactFewestPressesUptoRow, standIns := [], harness := (true, "70bc670d0d1819f45370af4dd8885af1765ec3753b72952b93e9665f42aef15a"), looks := false }, kinds := [], alts := [], laidByText := true, laidKinds := [.data], laidTests := true, laidLooks := .later }
def FnExactFewestPressesUptoCardSaid : Prop := Claim7.holds Tryd.pinned (.plain (OpenSpec.upto fnExactFewestPressesSpec)) fnExactFewestPressesUptoCard

/-- THE SECOND FORM's CARD OF 'laws.FnExactLeastPresses'. -/
def fnExactLeastPressesUptoCard : Claim7 := { stood := { row := fnExactLeastPressesUptoRow, standIns := [], harness := (true, "70bc670d0d1819f45370af4dd8885af1765ec3753b72952b93e9665f42aef15a"), looks := false }, kinds := [], alts := [], laidByText := true, laidKinds := [.data], laidTests := true, laidLooks := .later }
def FnExactLeastPressesUptoCardSaid : Prop := Claim7.holds Tryd.pinned (.plain (OpenSpec.upto fnExactLeastPressesSpec)) fnExactLeastPressesUptoCard

/-- THE SECOND FORM's CARD OF 'laws.FnExactKernelOf'. -/
def fnExactKernelOfUptoCard : Claim7 := { stood := { row := fnExactKernelOfUptoRow, standIns := [], harness := (true, "70bc670d0d1819f45370af4dd8885af1765ec3753b72952b93e9665f42aef15a"), looks := false }, kinds := [], alts := [], laidByText := true, laidKinds := [.data], laidTests := true, laidLooks := .later }
def FnExactKernelOfUptoCardSaid : Prop := Claim7.holds Tryd.pinned (.plain (OpenSpec.upto fnExactKernelOfSpec)) fnExactKernelOfUptoCard

/-- THE SECOND FORM's CARD OF 'laws.FnToggles'. -/
def fnTogglesUptoCard : Claim7 := { stood := { row := fnTogglesUptoRow, standIns := [], harness := (true, "70bc670d0d1819f45370af4dd8885af1765ec3753b72952b93e9665f42aef15a"), looks := false }, kinds := [], alts := [], laidByText := true, laidKinds := [.data], laidTests := true, laidLooks := .later }
def FnTogglesUptoCardSaid : Prop := Claim7.holds Tryd.pinned (.plain (OpenSpec.upto fnTogglesSpec)) fnTogglesUptoCard
end Rows
end Go.Proofs.YtgjgefbcfcomcaaDoor
