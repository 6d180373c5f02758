/-
  Contracts of IsPart, OtherOf, ShiftSheet, of the program and of the reference. No conditions.
-/
import Derived.Test.YtlemkphajmnbdaaDoorCg
import Derived.Deep.RegionHeld3
namespace Go.Proofs.YtlemkphajmnbdaaDoor
open Go.RowKit
set_option linter.unusedSimpArgs false
set_option linter.unusedVariables false

theorem mi_u64 (X Y : Nat) (hX : Vs X) (hY : Vs Y) : bits .andNot .u64 (X : Int) (Y : Int) = ((mi X Y : Nat) : Int) := by
  have h1 := hX.lt
  have h2 := hY.lt
  rw [u64_andNot_nat X Y (by omega) (by omega)]
  congr 1
  unfold mi oth
  apply Nat.eq_of_testBit_eq
  intro j
  rw [Nat.testBit_and, Nat.testBit_and]
  by_cases hj : j < 36
  · congr 1
    rw [show 18446744073709551615 - Y = 2 ^ 64 - (Y + 1) from by omega, show 68719476735 - Y = 2 ^ 36 - (Y + 1) from by omega, Nat.testBit_two_pow_sub_succ (by omega), Nat.testBit_two_pow_sub_succ (by omega)]
    simp [hj, (by omega : j < 64)]
  · rw [bit_high hX j (by omega)]; simp
theorem mi_vs (X Y : Nat) (hX : Vs X) : Vs (mi X Y) := hX.and _
theorem testBit_mi (X Y j : Nat) (hY : Vs Y) (hj : j < 36) : (mi X Y).testBit j = (X.testBit j && !Y.testBit j) := by
  unfold mi oth
  rw [Nat.testBit_and, show 68719476735 - Y = 2 ^ 36 - (Y + 1) from by omega, Nat.testBit_two_pow_sub_succ hY.lt]
  simp [hj]
theorem mi_zero (X Y : Nat) (hX : Vs X) (hY : Vs Y) : (((mi X Y : Nat) : Int) = 0) = (X &&& Y = X) := by
  rw [eq_iff_iff]
  constructor
  · intro h
    have h0 : mi X Y = 0 := by omega
    apply eq_of_cells (hX.and Y) hX
    intro j hj
    have h1 := testBit_mi X Y j hY hj
    rw [h0, Nat.zero_testBit] at h1
    rw [Nat.testBit_and]
    cases e : X.testBit j <;> cases e2 : Y.testBit j <;> simp_all
  · intro h
    have h0 : mi X Y = 0 := by
      apply eq_of_cells (mi_vs X Y hX) (by unfold Vs; omega)
      intro j hj
      rw [testBit_mi X Y j hY hj, Nat.zero_testBit]
      have h1 : (X &&& Y).testBit j = X.testBit j := by rw [h]
      rw [Nat.testBit_and] at h1
      cases e : X.testBit j <;> cases e2 : Y.testBit j <;> simp_all
    rw [h0]; rfl
theorem mi_beq (X Y : Nat) (hX : Vs X) (hY : Vs Y) : (((mi X Y : Nat) : Int) == 0) = decide (X &&& Y = X) := by
  rw [Bool.eq_iff_iff, beq_iff_eq, decide_eq_true_eq, mi_zero X Y hX hY]
theorem oth_u64 (X : Nat) (hX : Vs X) : bits .andNot .u64 68719476735 (X : Int) = ((oth X : Nat) : Int) := by
  have h1 := hX.lt
  have h := mi_u64 68719476735 X (by unfold Vs; omega) hX
  rw [show ((68719476735 : Nat) : Int) = 68719476735 from rfl] at h
  rw [h]
  congr 1
  apply eq_of_cells (mi_vs _ _ (by unfold Vs; omega)) (oth_vs X)
  intro j hj
  rw [testBit_mi _ _ _ hX hj]
  unfold oth
  rw [show 68719476735 - X = 2 ^ 36 - (X + 1) from by omega, Nat.testBit_two_pow_sub_succ hX.lt, show 68719476735 = 2 ^ 36 - 1 from rfl, Nat.testBit_two_pow_sub_one]

end Go.Proofs.YtlemkphajmnbdaaDoor
