/-
  Contracts of the reference's l2Get and l2Shift. No conditions.
-/
import Derived.Test.YtlemkphajmnbdaaDoorCf
namespace Go.Proofs.YtlemkphajmnbdaaDoor
open Go.RowKit
set_option linter.unusedSimpArgs false
set_option linter.unusedVariables false

theorem bit_i64 (X x y : Nat) : (bits .and .i64 (row X y / 2 ^ x) 1 == 1) = (decide (x < 6) && X.testBit (6 * y + x)) := by
  have h0 : X / 64 ^ y % 64 / 2 ^ x ≤ X / 64 ^ y % 64 := Nat.div_le_self _ _
  have h2 : X / 64 ^ y % 64 < 64 := Nat.mod_lt _ (by omega)
  rw [← testBit_row]
  have e : ((X / 64 ^ y % 64 / 2 ^ x : Nat) : Int) = row X y / 2 ^ x := by rw [Int.natCast_ediv]; unfold row; simp
  rw [← e]
  generalize X / 64 ^ y % 64 = z at *
  rw [Nat.testBit_eq_decide_div_mod_eq]
  generalize z / 2 ^ x = u at *
  have h1 := and_i64 u 1 (by omega) (by omega)
  rw [nat_mask1, show ((1 : Nat) : Int) = 1 from rfl] at h1
  rw [h1, Bool.eq_iff_iff]
  simp; omega

/-- the row that a shift makes -/
theorem shift_row (X x y i j : Nat) (hx : x < 6) (hy : y < 6) (hi : i < 6) (hj : j = (i + y) % 6) :
    bits .or .i64 (bits .and .i64 (wrap64 (row X i * 2 ^ x)) 63) (row X i / 2 ^ (6 - x)) = row (shiftN X x y) j := by
  have h2 : X / 64 ^ i % 64 < 64 := Nat.mod_lt _ (by omega)
  have hp : 2 ^ x ≤ 2 ^ 5 := Nat.pow_le_pow_right (by omega) (by omega)
  have hm : X / 64 ^ i % 64 * 2 ^ x ≤ 63 * 2 ^ 5 := Nat.mul_le_mul (by omega) hp
  have hd : X / 64 ^ i % 64 / 2 ^ (6 - x) ≤ X / 64 ^ i % 64 := Nat.div_le_self _ _
  have e1 : row X i * 2 ^ x = ((X / 64 ^ i % 64 * 2 ^ x : Nat) : Int) := by unfold row; simp
  have e2 : row X i / 2 ^ (6 - x) = ((X / 64 ^ i % 64 / 2 ^ (6 - x) : Nat) : Int) := by rw [Int.natCast_ediv]; unfold row; simp
  rw [e1, e2]
  unfold row
  have key : (X / 64 ^ i % 64 * 2 ^ x) % 64 ||| (X / 64 ^ i % 64 / 2 ^ (6 - x)) = shiftN X x y / 64 ^ j % 64 := by
    apply Nat.eq_of_testBit_eq
    intro b
    rw [testBit_row, Nat.testBit_or, show (64 : Nat) = 2 ^ 6 from rfl, Nat.testBit_mod_two_pow, Nat.testBit_mul_two_pow, Nat.testBit_div_two_pow, ← show (64 : Nat) = 2 ^ 6 from rfl, testBit_row, testBit_row]
    unfold shiftN
    rw [testBit_mk]
    clear e1 e2 hm hd h2 hp
    have h7 : (j + (6 - y)) % 6 = i := by omega
    have h8 : j < 6 := by omega
    clear hj
    by_cases hb : b < 6
    · have hc : 6 * j + b < 36 := by omega
      have h5 : (6 * j + b) / 6 = j := by omega
      have h6 : (6 * j + b) % 6 = b := by omega
      rw [h5, h6, h7]
      by_cases hxb : x ≤ b
      · have e3 : (b + (6 - x)) % 6 = b - x := by omega
        have e4 : ¬ (b + (6 - x) < 6) := by omega
        have e5 : b - x < 6 := by omega
        simp [hb, hc, hxb, e3, e4, e5]
      · have e4 : b + (6 - x) < 6 := by omega
        have e3 : (b + (6 - x)) % 6 = b + (6 - x) := by omega
        simp [hb, hc, hxb, e3, e4]
    · have e4 : ¬ (b + (6 - x) < 6) := by omega
      simp [hb, e4]
  generalize X / 64 ^ i % 64 * 2 ^ x = u at *
  generalize X / 64 ^ i % 64 / 2 ^ (6 - x) = v at *
  rw [← key]
  have h3 := and_i64 u 63 (by omega) (by omega)
  rw [nat_mask6] at h3
  have h4 := or_i64 (u % 64) v (by omega) (by omega)
  rw [← h4, ← h3, IntWalk.wrap64_in _ ⟨by omega, by omega⟩]
  rfl

end Go.Proofs.YtlemkphajmnbdaaDoor
