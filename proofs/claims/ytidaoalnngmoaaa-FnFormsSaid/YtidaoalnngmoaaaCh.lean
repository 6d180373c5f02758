/-
  Contracts of IsPart, OtherOf, ShiftSheet, of the program and of the reference. No conditions.
-/
import Derived.Test.YtidaoalnngmoaaaCg
import Derived.Deep.RegionHeld3
namespace Go.Proofs.Ytidaoalnngmoaaa
open Go.RowKit
set_option linter.unusedSimpArgs false
set_option linter.unusedVariables false

theorem mi_u64 (X Y : Nat) (hX : Vs X) (hY : Vs Y) : bits .andNot .u64 (X : Int) (Y : Int) = ((mi X Y : Nat) : Int) := by
  have h1 := hX.lt
  have h2 := hY.lt
  rw [u64_andNot_nat X Y (by omega) (by omega)]
  congr 1
  unfold mi oth
  apply Nat.eq_of_testBit_eq
  intro j
  rw [Nat.testBit_and, Nat.testBit_and]
  by_cases hj : j < 36
  · congr 1
    rw [show 18446744073709551615 - Y = 2 ^ 64 - (Y + 1) from by omega, show 68719476735 - Y = 2 ^ 36 - (Y + 1) from by omega, Nat.testBit_two_pow_sub_succ (by omega), Nat.testBit_two_pow_sub_succ (by omega)]
    simp [hj, (by omega : j < 64)]
  · rw [bit_high hX j (by omega)]; simp
theorem mi_vs (X Y : Nat) (hX : Vs X) : Vs (mi X Y) := hX.and _
theorem testBit_mi (X Y j : Nat) (hY : Vs Y) (hj : j < 36) : (mi X Y).testBit j = (X.testBit j && !Y.testBit j) := by
  unfold mi oth
  rw [Nat.testBit_and, show 68719476735 - Y = 2 ^ 36 - (Y + 1) from by omega, Nat.testBit_two_pow_sub_succ hY.lt]
  simp [hj]
theorem mi_zero (X Y : Nat) (hX : Vs X) (hY : Vs Y) : (((mi X Y : Nat) : Int) = 0) = (X &&& Y = X) := by
  rw [eq_iff_iff]
  constructor
  · intro h
    have h0 : mi X Y = 0 := by omega
    apply eq_of_cells (hX.and Y) hX
    intro j hj
    have h1 := testBit_mi X Y j hY hj
    rw [h0, Nat.zero_testBit] at h1
    rw [Nat.testBit_and]
    cases e : X.testBit j <;> cases e2 : Y.testBit j <;> simp_all
  · intro h
    have h0 : mi X Y = 0 := by
      apply eq_of_cells (mi_vs X Y hX) (by unfold Vs; omega)
      intro j hj
      rw [testBit_mi X Y j hY hj, Nat.zero_testBit]
      have h1 : (X &&& Y).testBit j = X.testBit j := by rw [h]
      rw [Nat.testBit_and] at h1
      cases e : X.testBit j <;> cases e2 : Y.testBit j <;> simp_all
    rw [h0]; rfl
theorem mi_beq (X Y : Nat) (hX : Vs X) (hY : Vs Y) : (((mi X Y : Nat) : Int) == 0) = decide (X &&& Y = X) := by
  rw [Bool.eq_iff_iff, beq_iff_eq, decide_eq_true_eq, mi_zero X Y hX hY]
theorem oth_u64 (X : Nat) (hX : Vs X) : bits .andNot .u64 68719476735 (X : Int) = ((oth X : Nat) : Int) := by
  have h1 := hX.lt
  have h := mi_u64 68719476735 X (by unfold Vs; omega) hX
  rw [show ((68719476735 : Nat) : Int) = 68719476735 from rfl] at h
  rw [h]
  congr 1
  apply eq_of_cells (mi_vs _ _ (by unfold Vs; omega)) (oth_vs X)
  intro j hj
  rw [testBit_mi _ _ _ hX hj]
  unfold oth
  rw [show 68719476735 - X = 2 ^ 36 - (X + 1) from by omega, Nat.testBit_two_pow_sub_succ hX.lt, show 68719476735 = 2 ^ 36 - 1 from rfl, Nat.testBit_two_pow_sub_one]

set_option maxRecDepth 100000 in
theorem implShiftSheet_ok (X : Nat) (dx dy : Int) (hX : Vs X) (w : World) : Calls Try.prog 59 #[(.agg #[.int .i64 (row X 0), .int .i64 (row X 1), .int .i64 (row X 2), .int .i64 (row X 3), .int .i64 (row X 4), .int .i64 (row X 5)]), .int .i64 dx, .int .i64 dy] w fun e w' => e = .returned (.tuple #[(.agg #[.int .i64 (row (shiftN X (dx % 6).toNat (dy % 6).toNat) 0), .int .i64 (row (shiftN X (dx % 6).toNat (dy % 6).toNat) 1), .int .i64 (row (shiftN X (dx % 6).toNat (dy % 6).toNat) 2), .int .i64 (row (shiftN X (dx % 6).toNat (dy % 6).toNat) 3), .int .i64 (row (shiftN X (dx % 6).toNat (dy % 6).toNat) 4), .int .i64 (row (shiftN X (dx % 6).toNat (dy % 6).toNat) 5)]), .bool true]) ∧ Below w.heap.size w w' := by
  have hv := shiftN_vs X (dx % 6).toNat (dy % 6).toNat
  go_enter Try.func59, Try.ntmps59
  go_wp2_with (first | (go_at_call 79; (with_reducible refine (setOf_ok _ (by assumption) _).mono ?_); rintro e w1 ⟨rfl, hb⟩; obtain ⟨hc, hf, hT, hz⟩ := bfacts hb; (try simp only [World.size_alloc, World.size_setCell, World.size_drew, size_drewN] at hc hf hT hz); (try (have hzA := Nat.lt_of_succ_le hz)); (try (have hl0 : w.heap.size ≤ w1.heap.size := by omega)); (try (have hz0 : w.heap.size < w1.heap.size := by omega)); (try (have hz1 : w.heap.size + 1 < w1.heap.size := by omega)); (try (have hz2 : w.heap.size + 1 + 1 < w1.heap.size := by omega)); (try (have hz3 : w.heap.size + 1 + 1 + 1 < w1.heap.size := by omega)); (try (have hz4 : w.heap.size + 1 + 1 + 1 + 1 < w1.heap.size := by omega))) | (go_at_call 104; (with_reducible refine (shifted_any _ _ _ (by assumption) _).mono ?_); rintro e w1 ⟨rfl, hb⟩; obtain ⟨hc, hf, hT, hz⟩ := bfacts hb; (try simp only [World.size_alloc, World.size_setCell, World.size_drew, size_drewN] at hc hf hT hz); (try (have hzA := Nat.lt_of_succ_le hz)); (try (have hl0 : w.heap.size ≤ w1.heap.size := by omega)); (try (have hz0 : w.heap.size < w1.heap.size := by omega)); (try (have hz1 : w.heap.size + 1 < w1.heap.size := by omega)); (try (have hz2 : w.heap.size + 1 + 1 < w1.heap.size := by omega)); (try (have hz3 : w.heap.size + 1 + 1 + 1 < w1.heap.size := by omega)); (try (have hz4 : w.heap.size + 1 + 1 + 1 + 1 < w1.heap.size := by omega))) | (go_at_call 81; (with_reducible refine (sheet_any _ (by assumption) _).mono ?_); rintro e w1 ⟨rfl, hb⟩; obtain ⟨hc, hf, hT, hz⟩ := bfacts hb; (try simp only [World.size_alloc, World.size_setCell, World.size_drew, size_drewN] at hc hf hT hz); (try (have hzA := Nat.lt_of_succ_le hz)); (try (have hl0 : w.heap.size ≤ w1.heap.size := by omega)); (try (have hz0 : w.heap.size < w1.heap.size := by omega)); (try (have hz1 : w.heap.size + 1 < w1.heap.size := by omega)); (try (have hz2 : w.heap.size + 1 + 1 < w1.heap.size := by omega)); (try (have hz3 : w.heap.size + 1 + 1 + 1 < w1.heap.size := by omega)); (try (have hz4 : w.heap.size + 1 + 1 + 1 + 1 < w1.heap.size := by omega))))
  exact bodyPost_ret (v := .tuple #[(.agg #[.int .i64 (row (shiftN X (dx % 6).toNat (dy % 6).toNat) 0), .int .i64 (row (shiftN X (dx % 6).toNat (dy % 6).toNat) 1), .int .i64 (row (shiftN X (dx % 6).toNat (dy % 6).toNat) 2), .int .i64 (row (shiftN X (dx % 6).toNat (dy % 6).toNat) 3), .int .i64 (row (shiftN X (dx % 6).toNat (dy % 6).toNat) 4), .int .i64 (row (shiftN X (dx % 6).toNat (dy % 6).toNat) 5)]), .bool true]) (by simp [results, Try.results59, go_sem, *]) rfl ⟨rfl, (by repeat (first | with_reducible exact Below.refl _ _ | with_reducible assumption | with_reducible refine Below.drew ?_ | with_reducible refine below_drewN ?_ _ | with_reducible refine Below.alloc ?_ ?_ _ | with_reducible refine Below.setCell ?_ ?_ _ | with_reducible refine Below.trans ?_ (Below.mono (by assumption) ?_) | omega | (simp <;> omega)))⟩
set_option maxRecDepth 100000 in
theorem implShiftSheet_no (a0 a1 a2 a3 a4 a5 dx dy : Int) (hn : ¬ Ok6 a0 a1 a2 a3 a4 a5) (w : World) : Calls Try.prog 59 #[(.agg #[.int .i64 a0, .int .i64 a1, .int .i64 a2, .int .i64 a3, .int .i64 a4, .int .i64 a5]), .int .i64 dx, .int .i64 dy] w fun e w' => e = .returned (.tuple #[.agg #[.int .i64 0, .int .i64 0, .int .i64 0, .int .i64 0, .int .i64 0, .int .i64 0], .bool false]) ∧ Below w.heap.size w w' := by
  go_enter Try.func59, Try.ntmps59
  go_wp2_with (go_at_call 79; (with_reducible refine (setOf_no _ _ _ _ _ _ (by assumption) _).mono ?_); rintro e w1 ⟨rfl, hb⟩; obtain ⟨hc, hf, hT, hz⟩ := bfacts hb; (try simp only [World.size_alloc, World.size_setCell, World.size_drew, size_drewN] at hc hf hT hz); (try (have hzA := Nat.lt_of_succ_le hz)); (try (have hl0 : w.heap.size ≤ w1.heap.size := by omega)); (try (have hz0 : w.heap.size < w1.heap.size := by omega)); (try (have hz1 : w.heap.size + 1 < w1.heap.size := by omega)); (try (have hz2 : w.heap.size + 1 + 1 < w1.heap.size := by omega)); (try (have hz3 : w.heap.size + 1 + 1 + 1 < w1.heap.size := by omega)); (try (have hz4 : w.heap.size + 1 + 1 + 1 + 1 < w1.heap.size := by omega)))
  exact bodyPost_ret (v := .tuple #[.agg #[.int .i64 0, .int .i64 0, .int .i64 0, .int .i64 0, .int .i64 0, .int .i64 0], .bool false]) (by simp [results, Try.results59, go_sem, *]) rfl ⟨rfl, (by repeat (first | with_reducible exact Below.refl _ _ | with_reducible assumption | with_reducible refine Below.drew ?_ | with_reducible refine below_drewN ?_ _ | with_reducible refine Below.alloc ?_ ?_ _ | with_reducible refine Below.setCell ?_ ?_ _ | with_reducible refine Below.trans ?_ (Below.mono (by assumption) ?_) | omega | (simp <;> omega)))⟩
end Go.Proofs.Ytidaoalnngmoaaa
