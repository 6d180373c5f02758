/-
  Contracts of IsPart, OtherOf, ShiftSheet, of the program and of the reference. No conditions.
-/
import Derived.Test.YtphnkkblgbfncaaCg
import Derived.Deep.RegionHeld3
namespace Go.Proofs.Ytphnkkblgbfncaa
open Go.RowKit
set_option linter.unusedSimpArgs false
set_option linter.unusedVariables false

theorem mi_u64 (X Y : Nat) (hX : Vs X) (hY : Vs Y) : bits .andNot .u64 (X : Int) (Y : Int) = ((mi X Y : Nat) : Int) := by
  have h1 := hX.lt
  have h2 := hY.lt
  rw [u64_andNot_nat X Y (by omega) (by omega)]
  congr 1
  unfold mi oth
  apply Nat.eq_of_testBit_eq
  intro j
  rw [Nat.testBit_and, Nat.testBit_and]
  by_cases hj : j < 36
  · congr 1
    rw [show 18446744073709551615 - Y = 2 ^ 64 - (Y + 1) from by omega, show 68719476735 - Y = 2 ^ 36 - (Y + 1) from by omega, Nat.testBit_two_pow_sub_succ (by omega), Nat.testBit_two_pow_sub_succ (by omega)]
    simp [hj, (by omega : j < 64)]
  · rw [bit_high hX j (by omega)]; simp
theorem mi_vs (X Y : Nat) (hX : Vs X) : Vs (mi X Y) := hX.and _
theorem testBit_mi (X Y j : Nat) (hY : Vs Y) (hj : j < 36) : (mi X Y).testBit j = (X.testBit j && !Y.testBit j) := by
  unfold mi oth
  rw [Nat.testBit_and, show 68719476735 - Y = 2 ^ 36 - (Y + 1) from by omega, Nat.testBit_two_pow_sub_succ hY.lt]
  simp [hj]
theorem mi_zero (X Y : Nat) (hX : Vs X) (hY : Vs Y) : (((mi X Y : Nat) : Int) = 0) = (X &&& Y = X) := by
  rw [eq_iff_iff]
  constructor
  · intro h
    have h0 : mi X Y = 0 := by omega
    apply eq_of_cells (hX.and Y) hX
    intro j hj
    have h1 := testBit_mi X Y j hY hj
    rw [h0, Nat.zero_testBit] at h1
    rw [Nat.testBit_and]
    cases e : X.testBit j <;> cases e2 : Y.testBit j <;> simp_all
  · intro h
    have h0 : mi X Y = 0 := by
      apply eq_of_cells (mi_vs X Y hX) (by unfold Vs; omega)
      intro j hj
      rw [testBit_mi X Y j hY hj, Nat.zero_testBit]
      have h1 : (X &&& Y).testBit j = X.testBit j := by rw [h]
      rw [Nat.testBit_and] at h1
      cases e : X.testBit j <;> cases e2 : Y.testBit j <;> simp_all
    rw [h0]; rfl
theorem mi_beq (X Y : Nat) (hX : Vs X) (hY : Vs Y) : (((mi X Y : Nat) : Int) == 0) = decide (X &&& Y = X) := by
  rw [Bool.eq_iff_iff, beq_iff_eq, decide_eq_true_eq, mi_zero X Y hX hY]
theorem oth_u64 (X : Nat) (hX : Vs X) : bits .andNot .u64 68719476735 (X : Int) = ((oth X : Nat) : Int) := by
  have h1 := hX.lt
  have h := mi_u64 68719476735 X (by unfold Vs; omega) hX
  rw [show ((68719476735 : Nat) : Int) = 68719476735 from rfl] at h
  rw [h]
  congr 1
  apply eq_of_cells (mi_vs _ _ (by unfold Vs; omega)) (oth_vs X)
  intro j hj
  rw [testBit_mi _ _ _ hX hj]
  unfold oth
  rw [show 68719476735 - X = 2 ^ 36 - (X + 1) from by omega, Nat.testBit_two_pow_sub_succ hX.lt, show 68719476735 = 2 ^ 36 - 1 from rfl, Nat.testBit_two_pow_sub_one]

set_option maxRecDepth 100000 in
theorem l2Part_any (X Y : Nat) (hX : Vs X) (hY : Vs Y) (w : World) : Calls Try.prog 70 #[(.agg #[.int .i64 (row X 0), .int .i64 (row X 1), .int .i64 (row X 2), .int .i64 (row X 3), .int .i64 (row X 4), .int .i64 (row X 5)]), (.agg #[.int .i64 (row Y 0), .int .i64 (row Y 1), .int .i64 (row Y 2), .int .i64 (row Y 3), .int .i64 (row Y 4), .int .i64 (row Y 5)])] w fun e w' => e = .returned (.bool (decide (X &&& Y = X))) ∧ Below w.heap.size w w' := by
  have hr := Lib.hid (propext (rows_iff (X &&& Y) X (hX.and Y) hX))
  go_enter Try.func70, Try.ntmps70
  go_wp2
  go_region_held3 (fun w' => w'.cell? ⟨w.heap.size, 0, none⟩ = some (.int .i64 (row X 0)) ∧ w'.cell? ⟨w.heap.size, 1, none⟩ = some (.int .i64 (row X 1)) ∧ w'.cell? ⟨w.heap.size, 2, none⟩ = some (.int .i64 (row X 2)) ∧ w'.cell? ⟨w.heap.size, 3, none⟩ = some (.int .i64 (row X 3)) ∧ w'.cell? ⟨w.heap.size, 4, none⟩ = some (.int .i64 (row X 4)) ∧ w'.cell? ⟨w.heap.size, 5, none⟩ = some (.int .i64 (row X 5)) ∧ w'.cell? ⟨w.heap.size + 1, 0, none⟩ = some (.int .i64 (row Y 0)) ∧ w'.cell? ⟨w.heap.size + 1, 1, none⟩ = some (.int .i64 (row Y 1)) ∧ w'.cell? ⟨w.heap.size + 1, 2, none⟩ = some (.int .i64 (row Y 2)) ∧ w'.cell? ⟨w.heap.size + 1, 3, none⟩ = some (.int .i64 (row Y 3)) ∧ w'.cell? ⟨w.heap.size + 1, 4, none⟩ = some (.int .i64 (row Y 4)) ∧ w'.cell? ⟨w.heap.size + 1, 5, none⟩ = some (.int .i64 (row Y 5))) (simp [*, World.cell?_alloc_some, World.cell?_setCell_far, Nat.ne_of_gt]) (first | (go_at_call 54; (with_reducible refine (l2And_any _ _ _).mono ?_); rintro e w1 ⟨rfl, hb⟩; obtain ⟨hc, hf, hT, hz⟩ := bfacts hb; (try simp only [World.size_alloc, World.size_setCell, World.size_drew, size_drewN] at hc hf hT hz); (try (have hzA := Nat.lt_of_succ_le hz)); (try (have hl0 : w.heap.size ≤ w1.heap.size := by omega)); (try (have hz0 : w.heap.size < w1.heap.size := by omega)); (try (have hz1 : w.heap.size + 1 < w1.heap.size := by omega)); (try (have hz2 : w.heap.size + 1 + 1 < w1.heap.size := by omega)); (try (have hz3 : w.heap.size + 1 + 1 + 1 < w1.heap.size := by omega)); (try (have hz4 : w.heap.size + 1 + 1 + 1 + 1 < w1.heap.size := by omega))))
  all_goals
    go_wp2
    go_ret
    exact ⟨by simp [← hr.out], (by repeat (first | with_reducible exact Below.refl _ _ | with_reducible assumption | with_reducible refine Below.drew ?_ | with_reducible refine below_drewN ?_ _ | with_reducible refine Below.alloc ?_ ?_ _ | with_reducible refine Below.setCell ?_ ?_ _ | with_reducible refine Below.trans ?_ (Below.mono (by assumption) ?_) | omega | (simp <;> omega)))⟩

end Go.Proofs.Ytphnkkblgbfncaa
