/-
  Contracts of the reference's l2Get and l2Shift. No conditions.
-/
import Derived.Test.YtidaoalnngmoaaaCf
namespace Go.Proofs.Ytidaoalnngmoaaa
open Go.RowKit
set_option linter.unusedSimpArgs false
set_option linter.unusedVariables false

theorem bit_i64 (X x y : Nat) : (bits .and .i64 (row X y / 2 ^ x) 1 == 1) = (decide (x < 6) && X.testBit (6 * y + x)) := by
  have h0 : X / 64 ^ y % 64 / 2 ^ x ≤ X / 64 ^ y % 64 := Nat.div_le_self _ _
  have h2 : X / 64 ^ y % 64 < 64 := Nat.mod_lt _ (by omega)
  rw [← testBit_row]
  have e : ((X / 64 ^ y % 64 / 2 ^ x : Nat) : Int) = row X y / 2 ^ x := by rw [Int.natCast_ediv]; unfold row; simp
  rw [← e]
  generalize X / 64 ^ y % 64 = z at *
  rw [Nat.testBit_eq_decide_div_mod_eq]
  generalize z / 2 ^ x = u at *
  have h1 := and_i64 u 1 (by omega) (by omega)
  rw [nat_mask1, show ((1 : Nat) : Int) = 1 from rfl] at h1
  rw [h1, Bool.eq_iff_iff]
  simp; omega

set_option maxRecDepth 100000 in
theorem l2Get_any (X x y : Nat) (hx : x < 6) (hy : y < 6) (w : World) :
    Calls Try.prog 126 #[(.agg #[.int .i64 (row X 0), .int .i64 (row X 1), .int .i64 (row X 2), .int .i64 (row X 3), .int .i64 (row X 4), .int .i64 (row X 5)]), .int .i64 (x : Int), .int .i64 (y : Int)] w fun e w' => e = .returned (.bool (X.testBit (6 * y + x))) ∧ Below w.heap.size w w' := by
  have hr := Lib.hid (bit_i64 X x)
  have hx1 : (x : Int) < 6 := by omega
  have loX0 := row_lo X 0
  have loX1 := row_lo X 1
  have loX2 := row_lo X 2
  have loX3 := row_lo X 3
  have loX4 := row_lo X 4
  have loX5 := row_lo X 5
  have hiX0 := row_hi X 0
  have hiX1 := row_hi X 1
  have hiX2 := row_hi X 2
  have hiX3 := row_hi X 3
  have hiX4 := row_hi X 4
  have hiX5 := row_hi X 5
  rcases (by omega : y = 0 ∨ y = 1 ∨ y = 2 ∨ y = 3 ∨ y = 4 ∨ y = 5) with rfl | rfl | rfl | rfl | rfl | rfl
  all_goals
    go_enter Try.func126, Try.ntmps126
    go_wp2
    go_ret
    exact ⟨by simp [hr.out, hx], (by repeat (first | with_reducible exact Below.refl _ _ | with_reducible assumption | with_reducible refine Below.drew ?_ | with_reducible refine below_drewN ?_ _ | with_reducible refine Below.alloc ?_ ?_ _ | with_reducible refine Below.setCell ?_ ?_ _ | with_reducible refine Below.trans ?_ (Below.mono (by assumption) ?_) | omega | (simp <;> omega)))⟩

/-- the row that a shift makes -/
theorem shift_row (X x y i j : Nat) (hx : x < 6) (hy : y < 6) (hi : i < 6) (hj : j = (i + y) % 6) :
    bits .or .i64 (bits .and .i64 (wrap64 (row X i * 2 ^ x)) 63) (row X i / 2 ^ (6 - x)) = row (shiftN X x y) j := by
  have h2 : X / 64 ^ i % 64 < 64 := Nat.mod_lt _ (by omega)
  have hp : 2 ^ x ≤ 2 ^ 5 := Nat.pow_le_pow_right (by omega) (by omega)
  have hm : X / 64 ^ i % 64 * 2 ^ x ≤ 63 * 2 ^ 5 := Nat.mul_le_mul (by omega) hp
  have hd : X / 64 ^ i % 64 / 2 ^ (6 - x) ≤ X / 64 ^ i % 64 := Nat.div_le_self _ _
  have e1 : row X i * 2 ^ x = ((X / 64 ^ i % 64 * 2 ^ x : Nat) : Int) := by unfold row; simp
  have e2 : row X i / 2 ^ (6 - x) = ((X / 64 ^ i % 64 / 2 ^ (6 - x) : Nat) : Int) := by rw [Int.natCast_ediv]; unfold row; simp
  rw [e1, e2]
  unfold row
  have key : (X / 64 ^ i % 64 * 2 ^ x) % 64 ||| (X / 64 ^ i % 64 / 2 ^ (6 - x)) = shiftN X x y / 64 ^ j % 64 := by
    apply Nat.eq_of_testBit_eq
    intro b
    rw [testBit_row, Nat.testBit_or, show (64 : Nat) = 2 ^ 6 from rfl, Nat.testBit_mod_two_pow, Nat.testBit_mul_two_pow, Nat.testBit_div_two_pow, ← show (64 : Nat) = 2 ^ 6 from rfl, testBit_row, testBit_row]
    unfold shiftN
    rw [testBit_mk]
    clear e1 e2 hm hd h2 hp
    have h7 : (j + (6 - y)) % 6 = i := by omega
    have h8 : j < 6 := by omega
    clear hj
    by_cases hb : b < 6
    · have hc : 6 * j + b < 36 := by omega
      have h5 : (6 * j + b) / 6 = j := by omega
      have h6 : (6 * j + b) % 6 = b := by omega
      rw [h5, h6, h7]
      by_cases hxb : x ≤ b
      · have e3 : (b + (6 - x)) % 6 = b - x := by omega
        have e4 : ¬ (b + (6 - x) < 6) := by omega
        have e5 : b - x < 6 := by omega
        simp [hb, hc, hxb, e3, e4, e5]
      · have e4 : b + (6 - x) < 6 := by omega
        have e3 : (b + (6 - x)) % 6 = b + (6 - x) := by omega
        simp [hb, hc, hxb, e3, e4]
    · have e4 : ¬ (b + (6 - x) < 6) := by omega
      simp [hb, e4]
  generalize X / 64 ^ i % 64 * 2 ^ x = u at *
  generalize X / 64 ^ i % 64 / 2 ^ (6 - x) = v at *
  rw [← key]
  have h3 := and_i64 u 63 (by omega) (by omega)
  rw [nat_mask6] at h3
  have h4 := or_i64 (u % 64) v (by omega) (by omega)
  rw [← h4, ← h3, IntWalk.wrap64_in _ ⟨by omega, by omega⟩]
  rfl

set_option maxRecDepth 100000 in
theorem l2Shift_at0 (X x : Nat) (hx : x < 6) (dx dy : Int) (ex : dx % 6 = (x : Int)) (ey : dy % 6 = 0) (w : World) :
    Calls Try.prog 116 #[(.agg #[.int .i64 (row X 0), .int .i64 (row X 1), .int .i64 (row X 2), .int .i64 (row X 3), .int .i64 (row X 4), .int .i64 (row X 5)]), .int .i64 dx, .int .i64 dy] w fun e w' => e = .returned (.agg #[.int .i64 (row (shiftN X x 0) 0), .int .i64 (row (shiftN X x 0) 1), .int .i64 (row (shiftN X x 0) 2), .int .i64 (row (shiftN X x 0) 3), .int .i64 (row (shiftN X x 0) 4), .int .i64 (row (shiftN X x 0) 5)]) ∧ Below w.heap.size w w' := by
  have r0 := shift_row X x 0 0 0 hx (by omega) (by omega) (by omega)
  have r1 := shift_row X x 0 1 1 hx (by omega) (by omega) (by omega)
  have r2 := shift_row X x 0 2 2 hx (by omega) (by omega) (by omega)
  have r3 := shift_row X x 0 3 3 hx (by omega) (by omega) (by omega)
  have r4 := shift_row X x 0 4 4 hx (by omega) (by omega) (by omega)
  have r5 := shift_row X x 0 5 5 hx (by omega) (by omega) (by omega)
  have hx1 : (x : Int) < 6 := by omega
  clear hx
  have loX0 := row_lo X 0
  have loX1 := row_lo X 1
  have loX2 := row_lo X 2
  have loX3 := row_lo X 3
  have loX4 := row_lo X 4
  have loX5 := row_lo X 5
  have hiX0 := row_hi X 0
  have hiX1 := row_hi X 1
  have hiX2 := row_hi X 2
  have hiX3 := row_hi X 3
  have hiX4 := row_hi X 4
  have hiX5 := row_hi X 5
  go_enter Try.func116, Try.ntmps116
  go_wp2_with (go_at_call 85; (with_reducible refine (l2Mod_any _ _).mono ?_); rintro e w1 ⟨rfl, rfl⟩)
  refine wp_loop_rounds 7 ?_
  rw [rounds_succ]
  go_wp2
  go_region
  go_wp2
  rw [rounds_succ]
  go_wp2
  go_region
  go_wp2
  rw [rounds_succ]
  go_wp2
  go_region
  go_wp2
  rw [rounds_succ]
  go_wp2
  go_region
  go_wp2
  rw [rounds_succ]
  go_wp2
  go_region
  go_wp2
  rw [rounds_succ]
  go_wp2
  go_region
  go_wp2
  rw [rounds_succ]
  go_wp2
  exact bodyPost_ret (v := (.agg #[.int .i64 (row (shiftN X x 0) 0), .int .i64 (row (shiftN X x 0) 1), .int .i64 (row (shiftN X x 0) 2), .int .i64 (row (shiftN X x 0) 3), .int .i64 (row (shiftN X x 0) 4), .int .i64 (row (shiftN X x 0) 5)])) (by simp [results, Try.results116, go_sem]) rfl ⟨rfl, (by repeat (first | with_reducible exact Below.refl _ _ | with_reducible assumption | with_reducible refine Below.drew ?_ | with_reducible refine below_drewN ?_ _ | with_reducible refine Below.alloc ?_ ?_ _ | with_reducible refine Below.setCell ?_ ?_ _ | with_reducible refine Below.trans ?_ (Below.mono (by assumption) ?_) | omega | (simp <;> omega)))⟩

set_option maxRecDepth 100000 in
theorem l2Shift_at1 (X x : Nat) (hx : x < 6) (dx dy : Int) (ex : dx % 6 = (x : Int)) (ey : dy % 6 = 1) (w : World) :
    Calls Try.prog 116 #[(.agg #[.int .i64 (row X 0), .int .i64 (row X 1), .int .i64 (row X 2), .int .i64 (row X 3), .int .i64 (row X 4), .int .i64 (row X 5)]), .int .i64 dx, .int .i64 dy] w fun e w' => e = .returned (.agg #[.int .i64 (row (shiftN X x 1) 0), .int .i64 (row (shiftN X x 1) 1), .int .i64 (row (shiftN X x 1) 2), .int .i64 (row (shiftN X x 1) 3), .int .i64 (row (shiftN X x 1) 4), .int .i64 (row (shiftN X x 1) 5)]) ∧ Below w.heap.size w w' := by
  have r0 := shift_row X x 1 0 1 hx (by omega) (by omega) (by omega)
  have r1 := shift_row X x 1 1 2 hx (by omega) (by omega) (by omega)
  have r2 := shift_row X x 1 2 3 hx (by omega) (by omega) (by omega)
  have r3 := shift_row X x 1 3 4 hx (by omega) (by omega) (by omega)
  have r4 := shift_row X x 1 4 5 hx (by omega) (by omega) (by omega)
  have r5 := shift_row X x 1 5 0 hx (by omega) (by omega) (by omega)
  have hx1 : (x : Int) < 6 := by omega
  clear hx
  have loX0 := row_lo X 0
  have loX1 := row_lo X 1
  have loX2 := row_lo X 2
  have loX3 := row_lo X 3
  have loX4 := row_lo X 4
  have loX5 := row_lo X 5
  have hiX0 := row_hi X 0
  have hiX1 := row_hi X 1
  have hiX2 := row_hi X 2
  have hiX3 := row_hi X 3
  have hiX4 := row_hi X 4
  have hiX5 := row_hi X 5
  go_enter Try.func116, Try.ntmps116
  go_wp2_with (go_at_call 85; (with_reducible refine (l2Mod_any _ _).mono ?_); rintro e w1 ⟨rfl, rfl⟩)
  refine wp_loop_rounds 7 ?_
  rw [rounds_succ]
  go_wp2
  go_region
  go_wp2
  rw [rounds_succ]
  go_wp2
  go_region
  go_wp2
  rw [rounds_succ]
  go_wp2
  go_region
  go_wp2
  rw [rounds_succ]
  go_wp2
  go_region
  go_wp2
  rw [rounds_succ]
  go_wp2
  go_region
  go_wp2
  rw [rounds_succ]
  go_wp2
  go_region
  go_wp2
  rw [rounds_succ]
  go_wp2
  exact bodyPost_ret (v := (.agg #[.int .i64 (row (shiftN X x 1) 0), .int .i64 (row (shiftN X x 1) 1), .int .i64 (row (shiftN X x 1) 2), .int .i64 (row (shiftN X x 1) 3), .int .i64 (row (shiftN X x 1) 4), .int .i64 (row (shiftN X x 1) 5)])) (by simp [results, Try.results116, go_sem]) rfl ⟨rfl, (by repeat (first | with_reducible exact Below.refl _ _ | with_reducible assumption | with_reducible refine Below.drew ?_ | with_reducible refine below_drewN ?_ _ | with_reducible refine Below.alloc ?_ ?_ _ | with_reducible refine Below.setCell ?_ ?_ _ | with_reducible refine Below.trans ?_ (Below.mono (by assumption) ?_) | omega | (simp <;> omega)))⟩

set_option maxRecDepth 100000 in
theorem l2Shift_at2 (X x : Nat) (hx : x < 6) (dx dy : Int) (ex : dx % 6 = (x : Int)) (ey : dy % 6 = 2) (w : World) :
    Calls Try.prog 116 #[(.agg #[.int .i64 (row X 0), .int .i64 (row X 1), .int .i64 (row X 2), .int .i64 (row X 3), .int .i64 (row X 4), .int .i64 (row X 5)]), .int .i64 dx, .int .i64 dy] w fun e w' => e = .returned (.agg #[.int .i64 (row (shiftN X x 2) 0), .int .i64 (row (shiftN X x 2) 1), .int .i64 (row (shiftN X x 2) 2), .int .i64 (row (shiftN X x 2) 3), .int .i64 (row (shiftN X x 2) 4), .int .i64 (row (shiftN X x 2) 5)]) ∧ Below w.heap.size w w' := by
  have r0 := shift_row X x 2 0 2 hx (by omega) (by omega) (by omega)
  have r1 := shift_row X x 2 1 3 hx (by omega) (by omega) (by omega)
  have r2 := shift_row X x 2 2 4 hx (by omega) (by omega) (by omega)
  have r3 := shift_row X x 2 3 5 hx (by omega) (by omega) (by omega)
  have r4 := shift_row X x 2 4 0 hx (by omega) (by omega) (by omega)
  have r5 := shift_row X x 2 5 1 hx (by omega) (by omega) (by omega)
  have hx1 : (x : Int) < 6 := by omega
  clear hx
  have loX0 := row_lo X 0
  have loX1 := row_lo X 1
  have loX2 := row_lo X 2
  have loX3 := row_lo X 3
  have loX4 := row_lo X 4
  have loX5 := row_lo X 5
  have hiX0 := row_hi X 0
  have hiX1 := row_hi X 1
  have hiX2 := row_hi X 2
  have hiX3 := row_hi X 3
  have hiX4 := row_hi X 4
  have hiX5 := row_hi X 5
  go_enter Try.func116, Try.ntmps116
  go_wp2_with (go_at_call 85; (with_reducible refine (l2Mod_any _ _).mono ?_); rintro e w1 ⟨rfl, rfl⟩)
  refine wp_loop_rounds 7 ?_
  rw [rounds_succ]
  go_wp2
  go_region
  go_wp2
  rw [rounds_succ]
  go_wp2
  go_region
  go_wp2
  rw [rounds_succ]
  go_wp2
  go_region
  go_wp2
  rw [rounds_succ]
  go_wp2
  go_region
  go_wp2
  rw [rounds_succ]
  go_wp2
  go_region
  go_wp2
  rw [rounds_succ]
  go_wp2
  go_region
  go_wp2
  rw [rounds_succ]
  go_wp2
  exact bodyPost_ret (v := (.agg #[.int .i64 (row (shiftN X x 2) 0), .int .i64 (row (shiftN X x 2) 1), .int .i64 (row (shiftN X x 2) 2), .int .i64 (row (shiftN X x 2) 3), .int .i64 (row (shiftN X x 2) 4), .int .i64 (row (shiftN X x 2) 5)])) (by simp [results, Try.results116, go_sem]) rfl ⟨rfl, (by repeat (first | with_reducible exact Below.refl _ _ | with_reducible assumption | with_reducible refine Below.drew ?_ | with_reducible refine below_drewN ?_ _ | with_reducible refine Below.alloc ?_ ?_ _ | with_reducible refine Below.setCell ?_ ?_ _ | with_reducible refine Below.trans ?_ (Below.mono (by assumption) ?_) | omega | (simp <;> omega)))⟩

set_option maxRecDepth 100000 in
theorem l2Shift_at3 (X x : Nat) (hx : x < 6) (dx dy : Int) (ex : dx % 6 = (x : Int)) (ey : dy % 6 = 3) (w : World) :
    Calls Try.prog 116 #[(.agg #[.int .i64 (row X 0), .int .i64 (row X 1), .int .i64 (row X 2), .int .i64 (row X 3), .int .i64 (row X 4), .int .i64 (row X 5)]), .int .i64 dx, .int .i64 dy] w fun e w' => e = .returned (.agg #[.int .i64 (row (shiftN X x 3) 0), .int .i64 (row (shiftN X x 3) 1), .int .i64 (row (shiftN X x 3) 2), .int .i64 (row (shiftN X x 3) 3), .int .i64 (row (shiftN X x 3) 4), .int .i64 (row (shiftN X x 3) 5)]) ∧ Below w.heap.size w w' := by
  have r0 := shift_row X x 3 0 3 hx (by omega) (by omega) (by omega)
  have r1 := shift_row X x 3 1 4 hx (by omega) (by omega) (by omega)
  have r2 := shift_row X x 3 2 5 hx (by omega) (by omega) (by omega)
  have r3 := shift_row X x 3 3 0 hx (by omega) (by omega) (by omega)
  have r4 := shift_row X x 3 4 1 hx (by omega) (by omega) (by omega)
  have r5 := shift_row X x 3 5 2 hx (by omega) (by omega) (by omega)
  have hx1 : (x : Int) < 6 := by omega
  clear hx
  have loX0 := row_lo X 0
  have loX1 := row_lo X 1
  have loX2 := row_lo X 2
  have loX3 := row_lo X 3
  have loX4 := row_lo X 4
  have loX5 := row_lo X 5
  have hiX0 := row_hi X 0
  have hiX1 := row_hi X 1
  have hiX2 := row_hi X 2
  have hiX3 := row_hi X 3
  have hiX4 := row_hi X 4
  have hiX5 := row_hi X 5
  go_enter Try.func116, Try.ntmps116
  go_wp2_with (go_at_call 85; (with_reducible refine (l2Mod_any _ _).mono ?_); rintro e w1 ⟨rfl, rfl⟩)
  refine wp_loop_rounds 7 ?_
  rw [rounds_succ]
  go_wp2
  go_region
  go_wp2
  rw [rounds_succ]
  go_wp2
  go_region
  go_wp2
  rw [rounds_succ]
  go_wp2
  go_region
  go_wp2
  rw [rounds_succ]
  go_wp2
  go_region
  go_wp2
  rw [rounds_succ]
  go_wp2
  go_region
  go_wp2
  rw [rounds_succ]
  go_wp2
  go_region
  go_wp2
  rw [rounds_succ]
  go_wp2
  exact bodyPost_ret (v := (.agg #[.int .i64 (row (shiftN X x 3) 0), .int .i64 (row (shiftN X x 3) 1), .int .i64 (row (shiftN X x 3) 2), .int .i64 (row (shiftN X x 3) 3), .int .i64 (row (shiftN X x 3) 4), .int .i64 (row (shiftN X x 3) 5)])) (by simp [results, Try.results116, go_sem]) rfl ⟨rfl, (by repeat (first | with_reducible exact Below.refl _ _ | with_reducible assumption | with_reducible refine Below.drew ?_ | with_reducible refine below_drewN ?_ _ | with_reducible refine Below.alloc ?_ ?_ _ | with_reducible refine Below.setCell ?_ ?_ _ | with_reducible refine Below.trans ?_ (Below.mono (by assumption) ?_) | omega | (simp <;> omega)))⟩

set_option maxRecDepth 100000 in
theorem l2Shift_at4 (X x : Nat) (hx : x < 6) (dx dy : Int) (ex : dx % 6 = (x : Int)) (ey : dy % 6 = 4) (w : World) :
    Calls Try.prog 116 #[(.agg #[.int .i64 (row X 0), .int .i64 (row X 1), .int .i64 (row X 2), .int .i64 (row X 3), .int .i64 (row X 4), .int .i64 (row X 5)]), .int .i64 dx, .int .i64 dy] w fun e w' => e = .returned (.agg #[.int .i64 (row (shiftN X x 4) 0), .int .i64 (row (shiftN X x 4) 1), .int .i64 (row (shiftN X x 4) 2), .int .i64 (row (shiftN X x 4) 3), .int .i64 (row (shiftN X x 4) 4), .int .i64 (row (shiftN X x 4) 5)]) ∧ Below w.heap.size w w' := by
  have r0 := shift_row X x 4 0 4 hx (by omega) (by omega) (by omega)
  have r1 := shift_row X x 4 1 5 hx (by omega) (by omega) (by omega)
  have r2 := shift_row X x 4 2 0 hx (by omega) (by omega) (by omega)
  have r3 := shift_row X x 4 3 1 hx (by omega) (by omega) (by omega)
  have r4 := shift_row X x 4 4 2 hx (by omega) (by omega) (by omega)
  have r5 := shift_row X x 4 5 3 hx (by omega) (by omega) (by omega)
  have hx1 : (x : Int) < 6 := by omega
  clear hx
  have loX0 := row_lo X 0
  have loX1 := row_lo X 1
  have loX2 := row_lo X 2
  have loX3 := row_lo X 3
  have loX4 := row_lo X 4
  have loX5 := row_lo X 5
  have hiX0 := row_hi X 0
  have hiX1 := row_hi X 1
  have hiX2 := row_hi X 2
  have hiX3 := row_hi X 3
  have hiX4 := row_hi X 4
  have hiX5 := row_hi X 5
  go_enter Try.func116, Try.ntmps116
  go_wp2_with (go_at_call 85; (with_reducible refine (l2Mod_any _ _).mono ?_); rintro e w1 ⟨rfl, rfl⟩)
  refine wp_loop_rounds 7 ?_
  rw [rounds_succ]
  go_wp2
  go_region
  go_wp2
  rw [rounds_succ]
  go_wp2
  go_region
  go_wp2
  rw [rounds_succ]
  go_wp2
  go_region
  go_wp2
  rw [rounds_succ]
  go_wp2
  go_region
  go_wp2
  rw [rounds_succ]
  go_wp2
  go_region
  go_wp2
  rw [rounds_succ]
  go_wp2
  go_region
  go_wp2
  rw [rounds_succ]
  go_wp2
  exact bodyPost_ret (v := (.agg #[.int .i64 (row (shiftN X x 4) 0), .int .i64 (row (shiftN X x 4) 1), .int .i64 (row (shiftN X x 4) 2), .int .i64 (row (shiftN X x 4) 3), .int .i64 (row (shiftN X x 4) 4), .int .i64 (row (shiftN X x 4) 5)])) (by simp [results, Try.results116, go_sem]) rfl ⟨rfl, (by repeat (first | with_reducible exact Below.refl _ _ | with_reducible assumption | with_reducible refine Below.drew ?_ | with_reducible refine below_drewN ?_ _ | with_reducible refine Below.alloc ?_ ?_ _ | with_reducible refine Below.setCell ?_ ?_ _ | with_reducible refine Below.trans ?_ (Below.mono (by assumption) ?_) | omega | (simp <;> omega)))⟩

set_option maxRecDepth 100000 in
theorem l2Shift_at5 (X x : Nat) (hx : x < 6) (dx dy : Int) (ex : dx % 6 = (x : Int)) (ey : dy % 6 = 5) (w : World) :
    Calls Try.prog 116 #[(.agg #[.int .i64 (row X 0), .int .i64 (row X 1), .int .i64 (row X 2), .int .i64 (row X 3), .int .i64 (row X 4), .int .i64 (row X 5)]), .int .i64 dx, .int .i64 dy] w fun e w' => e = .returned (.agg #[.int .i64 (row (shiftN X x 5) 0), .int .i64 (row (shiftN X x 5) 1), .int .i64 (row (shiftN X x 5) 2), .int .i64 (row (shiftN X x 5) 3), .int .i64 (row (shiftN X x 5) 4), .int .i64 (row (shiftN X x 5) 5)]) ∧ Below w.heap.size w w' := by
  have r0 := shift_row X x 5 0 5 hx (by omega) (by omega) (by omega)
  have r1 := shift_row X x 5 1 0 hx (by omega) (by omega) (by omega)
  have r2 := shift_row X x 5 2 1 hx (by omega) (by omega) (by omega)
  have r3 := shift_row X x 5 3 2 hx (by omega) (by omega) (by omega)
  have r4 := shift_row X x 5 4 3 hx (by omega) (by omega) (by omega)
  have r5 := shift_row X x 5 5 4 hx (by omega) (by omega) (by omega)
  have hx1 : (x : Int) < 6 := by omega
  clear hx
  have loX0 := row_lo X 0
  have loX1 := row_lo X 1
  have loX2 := row_lo X 2
  have loX3 := row_lo X 3
  have loX4 := row_lo X 4
  have loX5 := row_lo X 5
  have hiX0 := row_hi X 0
  have hiX1 := row_hi X 1
  have hiX2 := row_hi X 2
  have hiX3 := row_hi X 3
  have hiX4 := row_hi X 4
  have hiX5 := row_hi X 5
  go_enter Try.func116, Try.ntmps116
  go_wp2_with (go_at_call 85; (with_reducible refine (l2Mod_any _ _).mono ?_); rintro e w1 ⟨rfl, rfl⟩)
  refine wp_loop_rounds 7 ?_
  rw [rounds_succ]
  go_wp2
  go_region
  go_wp2
  rw [rounds_succ]
  go_wp2
  go_region
  go_wp2
  rw [rounds_succ]
  go_wp2
  go_region
  go_wp2
  rw [rounds_succ]
  go_wp2
  go_region
  go_wp2
  rw [rounds_succ]
  go_wp2
  go_region
  go_wp2
  rw [rounds_succ]
  go_wp2
  go_region
  go_wp2
  rw [rounds_succ]
  go_wp2
  exact bodyPost_ret (v := (.agg #[.int .i64 (row (shiftN X x 5) 0), .int .i64 (row (shiftN X x 5) 1), .int .i64 (row (shiftN X x 5) 2), .int .i64 (row (shiftN X x 5) 3), .int .i64 (row (shiftN X x 5) 4), .int .i64 (row (shiftN X x 5) 5)])) (by simp [results, Try.results116, go_sem]) rfl ⟨rfl, (by repeat (first | with_reducible exact Below.refl _ _ | with_reducible assumption | with_reducible refine Below.drew ?_ | with_reducible refine below_drewN ?_ _ | with_reducible refine Below.alloc ?_ ?_ _ | with_reducible refine Below.setCell ?_ ?_ _ | with_reducible refine Below.trans ?_ (Below.mono (by assumption) ?_) | omega | (simp <;> omega)))⟩

theorem l2Shift_any (X : Nat) (dx dy : Int) (w : World) :
    Calls Try.prog 116 #[(.agg #[.int .i64 (row X 0), .int .i64 (row X 1), .int .i64 (row X 2), .int .i64 (row X 3), .int .i64 (row X 4), .int .i64 (row X 5)]), .int .i64 dx, .int .i64 dy] w fun e w' => e = .returned (.agg #[.int .i64 (row (shiftN X (dx % 6).toNat (dy % 6).toNat) 0), .int .i64 (row (shiftN X (dx % 6).toNat (dy % 6).toNat) 1), .int .i64 (row (shiftN X (dx % 6).toNat (dy % 6).toNat) 2), .int .i64 (row (shiftN X (dx % 6).toNat (dy % 6).toNat) 3), .int .i64 (row (shiftN X (dx % 6).toNat (dy % 6).toNat) 4), .int .i64 (row (shiftN X (dx % 6).toNat (dy % 6).toNat) 5)]) ∧ Below w.heap.size w w' := by
  obtain ⟨x, ex⟩ : ∃ x : Nat, dx % 6 = (x : Int) := ⟨(dx % 6).toNat, by omega⟩
  obtain ⟨y, ey⟩ : ∃ y : Nat, dy % 6 = (y : Int) := ⟨(dy % 6).toNat, by omega⟩
  have hx : x < 6 := by omega
  rw [ex, ey]
  simp only [Int.toNat_natCast]
  rcases (by omega : y = 0 ∨ y = 1 ∨ y = 2 ∨ y = 3 ∨ y = 4 ∨ y = 5) with rfl | rfl | rfl | rfl | rfl | rfl
  · exact l2Shift_at0 X x hx dx dy ex ey w
  · exact l2Shift_at1 X x hx dx dy ex ey w
  · exact l2Shift_at2 X x hx dx dy ex ey w
  · exact l2Shift_at3 X x hx dx dy ex ey w
  · exact l2Shift_at4 X x hx dx dy ex ey w
  · exact l2Shift_at5 X x hx dx dy ex ey w
end Go.Proofs.Ytidaoalnngmoaaa
