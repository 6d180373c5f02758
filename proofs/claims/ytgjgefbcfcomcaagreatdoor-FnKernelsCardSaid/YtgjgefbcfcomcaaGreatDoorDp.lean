/-
  What the listed table gives: the library's table of the lowest bits lies in memory; the door's own run lays it. No conditions.
-/
import Derived.Test.YtgjgefbcfcomcaaGreatDoorRows
import Derived.Test.YtgjgefbcfcomcaaGreatDoorJC
import Derived.ProofKit
import Derived.LaidMore
import Derived.OpenShut
import Derived.Stop.Joined
import Derived.Lib.LaidTab
namespace Go.Proofs.YtgjgefbcfcomcaaGreatDoor
open Go.ChangeShapes Go.WideShapes Go.ChangeAt Go.WideMaps Go.WideElems Go.RowKit
set_option linter.unusedVariables false

def laid1 : List (String × DataW Unit) := [("math/bits.deBruijn64tab", Rows.laid_math_bits_deBruijn64tab)]
def tzInts : List Int := Lib.deBruijn64tab.map fun n : Nat => (n : Int)
theorem tz_data : (Rows.laid_math_bits_deBruijn64tab : DataW Unit) = Lib.tabData .u8 tzInts := by rfl
theorem gP : Tryz.prog.globalNamed "math/bits.deBruijn64tab" = some 0 := by kernel_rfl
theorem tP : (Tryz.prog.globals[0]?).map (·.type) = some 123 := by kernel_rfl
set_option maxRecDepth 100000 in
/-- The door's own heap meets the condition. -/
theorem door_met (os : Os) (args : Array Value) : laidMetH Tryz.prog laid1 ((World.doorLaid Tryz.prog 4000 os).forCall (fun _ _ => 0) ⟨#[], args, []⟩).memory :=
  laidMetH_of_parts3 (fuel := 8) (laidMet_of_run' 8 (by kernel_rfl) (by kernel_rfl)) (by kernel_rfl) (by kernel_rfl)
/-- what the condition gives -/
theorem of_laid {W : World} (h : laidMetH Tryz.prog laid1 W) : TabZ W := by
  rw [MakeChecks.laidMetH_plain _ _ _ (by kernel_rfl)] at h
  obtain ⟨ps, ⟨g0, t0, cs0, f0, p0, q0, hg0, ht0, hv0, hd0, _, _⟩, _, _⟩ := h
  obtain rfl := Option.some.inj (gP.symm.trans hg0)
  obtain rfl := Option.some.inj (tP.symm.trans ht0)
  rw [tz_data] at hd0
  have hcs := Lib.cells_of_tab Tryz.underlying123 Tryz.underlying5 (by kernel_rfl) (by kernel_rfl) hd0
  intro j hj
  unfold World.var? at hv0
  rw [hg0] at hv0
  simp only [Option.bind_some] at hv0
  have hz : cs0[j]? = some (.int .u8 (Lib.deBruijn64tab.getD j 0 : Nat)) := by
    rw [← Array.getElem?_toList, hcs]
    unfold tzInts
    rw [List.map_map, List.getElem?_map, List.getD_eq_getElem?_getD, List.getElem?_eq_getElem hj]
    rfl
  unfold World.cell?
  rw [show (⟨0, j, none⟩ : Addr).block = 0 from rfl]
  split at hv0
  · rename_i cs t r hcell
    injection hv0 with hv0
    subst hv0
    rw [hcell]
    simp [hz]
  · cases hv0
end Go.Proofs.YtgjgefbcfcomcaaGreatDoor
