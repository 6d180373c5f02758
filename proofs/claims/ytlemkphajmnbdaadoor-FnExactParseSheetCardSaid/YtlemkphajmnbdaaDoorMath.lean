/-
  Plain facts on sheets as numbers: a sheet is a number below 2^36, its row y are the six bits from 6*y on. No conditions.
-/
namespace Go.Proofs.YtlemkphajmnbdaaDoor

/-- a number of a sheet -/
def Vs (X : Nat) : Prop := X < 2 ^ 36
theorem Vs.lt {X : Nat} (h : Vs X) : X < 2 ^ 36 := h

/-- row y of a sheet -/
def row (X y : Nat) : Int := ((X / 64 ^ y % 64 : Nat) : Int)

theorem row_lo (X y : Nat) : 0 ≤ row X y := Int.natCast_nonneg _
theorem row_hi (X y : Nat) : row X y ≤ 63 := by unfold row; omega

theorem set_of_rows (a0 a1 a2 a3 a4 a5 : Int) (h0 : 0 ≤ a0 ∧ a0 ≤ 63) (h1 : 0 ≤ a1 ∧ a1 ≤ 63) (h2 : 0 ≤ a2 ∧ a2 ≤ 63) (h3 : 0 ≤ a3 ∧ a3 ≤ 63) (h4 : 0 ≤ a4 ∧ a4 ≤ 63) (h5 : 0 ≤ a5 ∧ a5 ≤ 63) :
    ∃ X : Nat, Vs X ∧ a0 = row X 0 ∧ a1 = row X 1 ∧ a2 = row X 2 ∧ a3 = row X 3 ∧ a4 = row X 4 ∧ a5 = row X 5 := by
  obtain ⟨n0, rfl⟩ := Int.eq_ofNat_of_zero_le h0.1
  obtain ⟨n1, rfl⟩ := Int.eq_ofNat_of_zero_le h1.1
  obtain ⟨n2, rfl⟩ := Int.eq_ofNat_of_zero_le h2.1
  obtain ⟨n3, rfl⟩ := Int.eq_ofNat_of_zero_le h3.1
  obtain ⟨n4, rfl⟩ := Int.eq_ofNat_of_zero_le h4.1
  obtain ⟨n5, rfl⟩ := Int.eq_ofNat_of_zero_le h5.1
  refine ⟨n0 + 64 * n1 + 4096 * n2 + 262144 * n3 + 16777216 * n4 + 1073741824 * n5, by unfold Vs; omega, ?_, ?_, ?_, ?_, ?_, ?_⟩ <;> simp only [row, Nat.reducePow] <;> omega

theorem pow64 (y : Nat) : 64 ^ y = 2 ^ (6 * y) := by rw [Nat.pow_mul]

theorem testBit_row (X y x : Nat) : (X / 64 ^ y % 64).testBit x = (decide (x < 6) && X.testBit (6 * y + x)) := by
  rw [pow64, show (64 : Nat) = 2 ^ 6 from rfl, Nat.testBit_mod_two_pow, Nat.testBit_div_two_pow, Nat.add_comm x]

/-- the other color everywhere -/
def oth (X : Nat) : Nat := 68719476735 - X

theorem and_rows (X Y y : Nat) : (X &&& Y) / 64 ^ y % 64 = (X / 64 ^ y % 64) &&& (Y / 64 ^ y % 64) := by
  apply Nat.eq_of_testBit_eq; intro x
  rw [Nat.testBit_and, testBit_row, testBit_row, testBit_row, Nat.testBit_and]
  cases decide (x < 6) <;> simp
theorem or_rows (X Y y : Nat) : (X ||| Y) / 64 ^ y % 64 = (X / 64 ^ y % 64) ||| (Y / 64 ^ y % 64) := by
  apply Nat.eq_of_testBit_eq; intro x
  rw [Nat.testBit_or, testBit_row, testBit_row, testBit_row, Nat.testBit_or]
  cases decide (x < 6) <;> simp
theorem xor_rows (X Y y : Nat) : (X ^^^ Y) / 64 ^ y % 64 = (X / 64 ^ y % 64) ^^^ (Y / 64 ^ y % 64) := by
  apply Nat.eq_of_testBit_eq; intro x
  rw [Nat.testBit_xor, testBit_row, testBit_row, testBit_row, Nat.testBit_xor]
  cases decide (x < 6) <;> simp

theorem oth_row0 (X : Nat) (h : X < 2 ^ 36) : 63 - row X 0 = row (oth X) 0 := by unfold row oth; omega
theorem oth_row1 (X : Nat) (h : X < 2 ^ 36) : 63 - row X 1 = row (oth X) 1 := by unfold row oth; omega
theorem oth_row2 (X : Nat) (h : X < 2 ^ 36) : 63 - row X 2 = row (oth X) 2 := by unfold row oth; omega
theorem oth_row3 (X : Nat) (h : X < 2 ^ 36) : 63 - row X 3 = row (oth X) 3 := by unfold row oth; omega
theorem oth_row4 (X : Nat) (h : X < 2 ^ 36) : 63 - row X 4 = row (oth X) 4 := by unfold row oth; omega
theorem oth_row5 (X : Nat) (h : X < 2 ^ 36) : 63 - row X 5 = row (oth X) 5 := by unfold row oth; omega

theorem oth_vs (X : Nat) : Vs (oth X) := by unfold Vs oth; omega
theorem Vs.and {X : Nat} (h : Vs X) (Y : Nat) : Vs (X &&& Y) := Nat.lt_of_le_of_lt Nat.and_le_left h
theorem Vs.or {X Y : Nat} (h : Vs X) (k : Vs Y) : Vs (X ||| Y) := Nat.or_lt_two_pow h k
theorem Vs.xor {X Y : Nat} (h : Vs X) (k : Vs Y) : Vs (X ^^^ Y) := Nat.xor_lt_two_pow h k

/-- two sheets with the same rows are one -/
theorem eq_of_rows (X Y : Nat) (hX : Vs X) (hY : Vs Y) (h0 : row X 0 = row Y 0) (h1 : row X 1 = row Y 1) (h2 : row X 2 = row Y 2) (h3 : row X 3 = row Y 3) (h4 : row X 4 = row Y 4) (h5 : row X 5 = row Y 5) : X = Y := by
  unfold Vs row at *; omega
theorem rows_iff (X Y : Nat) (hX : Vs X) (hY : Vs Y) : (row X 0 = row Y 0 ∧ row X 1 = row Y 1 ∧ row X 2 = row Y 2 ∧ row X 3 = row Y 3 ∧ row X 4 = row Y 4 ∧ row X 5 = row Y 5) ↔ X = Y :=
  ⟨fun ⟨h0, h1, h2, h3, h4, h5⟩ => eq_of_rows X Y hX hY h0 h1 h2 h3 h4 h5, fun h => by subst h; exact ⟨rfl, rfl, rfl, rfl, rfl, rfl⟩⟩
end Go.Proofs.YtlemkphajmnbdaaDoor
