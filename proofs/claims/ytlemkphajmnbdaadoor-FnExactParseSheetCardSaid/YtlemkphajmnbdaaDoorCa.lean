/-
  Contracts of the small functions on sheets that most claims of this seat use. No conditions.
-/
import Derived.Test.YtlemkphajmnbdaaDoorBase
import Derived.Test.YtlemkphajmnbdaaDoorMath
import Derived.BigQuiet
import Derived.Deep.QuietTactic
namespace Go.Proofs.YtlemkphajmnbdaaDoor
open Go.RowKit
set_option linter.unusedSimpArgs false
set_option linter.unusedVariables false

@[go_sem] theorem idx0 (a0 a1 a2 a3 a4 a5 : Int) (w : World) : (Instr.index 22 (.agg #[.int .i64 a0, .int .i64 a1, .int .i64 a2, .int .i64 a3, .int .i64 a4, .int .i64 a5]) (.int .i64 0)).run Tryd.prog w = .ok (.int .i64 a0) w := by kernel_rfl
@[go_sem] theorem idx1 (a0 a1 a2 a3 a4 a5 : Int) (w : World) : (Instr.index 22 (.agg #[.int .i64 a0, .int .i64 a1, .int .i64 a2, .int .i64 a3, .int .i64 a4, .int .i64 a5]) (.int .i64 1)).run Tryd.prog w = .ok (.int .i64 a1) w := by kernel_rfl
@[go_sem] theorem idx2 (a0 a1 a2 a3 a4 a5 : Int) (w : World) : (Instr.index 22 (.agg #[.int .i64 a0, .int .i64 a1, .int .i64 a2, .int .i64 a3, .int .i64 a4, .int .i64 a5]) (.int .i64 2)).run Tryd.prog w = .ok (.int .i64 a2) w := by kernel_rfl
@[go_sem] theorem idx3 (a0 a1 a2 a3 a4 a5 : Int) (w : World) : (Instr.index 22 (.agg #[.int .i64 a0, .int .i64 a1, .int .i64 a2, .int .i64 a3, .int .i64 a4, .int .i64 a5]) (.int .i64 3)).run Tryd.prog w = .ok (.int .i64 a3) w := by kernel_rfl
@[go_sem] theorem idx4 (a0 a1 a2 a3 a4 a5 : Int) (w : World) : (Instr.index 22 (.agg #[.int .i64 a0, .int .i64 a1, .int .i64 a2, .int .i64 a3, .int .i64 a4, .int .i64 a5]) (.int .i64 4)).run Tryd.prog w = .ok (.int .i64 a4) w := by kernel_rfl
@[go_sem] theorem idx5 (a0 a1 a2 a3 a4 a5 : Int) (w : World) : (Instr.index 22 (.agg #[.int .i64 a0, .int .i64 a1, .int .i64 a2, .int .i64 a3, .int .i64 a4, .int .i64 a5]) (.int .i64 5)).run Tryd.prog w = .ok (.int .i64 a5) w := by kernel_rfl

theorem or_u64 (a b : Nat) (ha : a < 2 ^ 64) (hb : b < 2 ^ 64) : bits .or .u64 (a : Int) (b : Int) = ((a ||| b : Nat) : Int) := u64_or_nat a b ha hb

theorem or_add (a b i : Nat) (ha : a < 2 ^ i) : a ||| (b * 2 ^ i) = a + b * 2 ^ i := by
  rw [Nat.or_comm, Nat.add_comm]
  exact nat_join i _ _ (by simp) ha

theorem or_row (a b i : Nat) (ha : a < 2 ^ i) (hb : b < 64) (hi : i ≤ 30) : bits .or .u64 (a : Int) ((b : Int) * 2 ^ i) = ((a + b * 2 ^ i : Nat) : Int) := by
  have h2 : 2 ^ i ≤ 2 ^ 30 := Nat.pow_le_pow_right (by omega) hi
  have hm : b * 2 ^ i ≤ 63 * 2 ^ 30 := Nat.mul_le_mul (by omega) h2
  have := or_u64 a (b * 2 ^ i) (by omega) (by omega)
  rw [or_add a b i ha] at this
  rw [← this]
  simp

theorem pack_or (X : Nat) (hX : X < 2 ^ 36) :
    bits .or .u64 (bits .or .u64 (bits .or .u64 (bits .or .u64 (bits .or .u64 (bits .or .u64 0 (row X 0)) (row X 1 * 64)) (row X 2 * 4096)) (row X 3 * 262144)) (row X 4 * 16777216)) (row X 5 * 1073741824) = (X : Int) := by
  unfold row
  have e0 := or_row 0 (X / 64 ^ 0 % 64) 0 (by omega) (by omega) (by omega)
  have e1 := or_row (X % 64) (X / 64 ^ 1 % 64) 6 (by omega) (by omega) (by omega)
  have e2 := or_row (X % 4096) (X / 64 ^ 2 % 64) 12 (by omega) (by omega) (by omega)
  have e3 := or_row (X % 262144) (X / 64 ^ 3 % 64) 18 (by omega) (by omega) (by omega)
  have e4 := or_row (X % 16777216) (X / 64 ^ 4 % 64) 24 (by omega) (by omega) (by omega)
  have e5 := or_row (X % 1073741824) (X / 64 ^ 5 % 64) 30 (by omega) (by omega) (by omega)
  have s0 : 0 + X / 64 ^ 0 % 64 * 2 ^ 0 = X % 64 := by omega
  have s1 : X % 64 + X / 64 ^ 1 % 64 * 2 ^ 6 = X % 4096 := by omega
  have s2 : X % 4096 + X / 64 ^ 2 % 64 * 2 ^ 12 = X % 262144 := by omega
  have s3 : X % 262144 + X / 64 ^ 3 % 64 * 2 ^ 18 = X % 16777216 := by omega
  have s4 : X % 16777216 + X / 64 ^ 4 % 64 * 2 ^ 24 = X % 1073741824 := by omega
  have s5 : X % 1073741824 + X / 64 ^ 5 % 64 * 2 ^ 30 = X := by omega
  rw [s0] at e0; rw [s1] at e1; rw [s2] at e2; rw [s3] at e3; rw [s4] at e4; rw [s5] at e5
  simp only [Int.pow_zero, Int.mul_one, Int.natCast_zero] at e0
  rw [e0]
  rw [show (64 : Int) = 2 ^ 6 from rfl, show (4096 : Int) = 2 ^ 12 from rfl, show (262144 : Int) = 2 ^ 18 from rfl, show (16777216 : Int) = 2 ^ 24 from rfl, show (1073741824 : Int) = 2 ^ 30 from rfl]
  rw [e1, e2, e3, e4, e5]

/-- a sheet of six numbers is valid -/
def Ok6 (a0 a1 a2 a3 a4 a5 : Int) : Prop := (0 ≤ a0 ∧ a0 ≤ 63) ∧ (0 ≤ a1 ∧ a1 ≤ 63) ∧ (0 ≤ a2 ∧ a2 ≤ 63) ∧ (0 ≤ a3 ∧ a3 ≤ 63) ∧ (0 ≤ a4 ∧ a4 ≤ 63) ∧ (0 ≤ a5 ∧ a5 ≤ 63)

end Go.Proofs.YtlemkphajmnbdaaDoor
