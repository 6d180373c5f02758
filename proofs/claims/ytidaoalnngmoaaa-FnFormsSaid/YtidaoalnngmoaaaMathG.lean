/-
  The order of sheets as an order of numbers. No conditions.
-/
import Derived.Test.YtidaoalnngmoaaaCi
import Derived.Test.YtidaoalnngmoaaaMathF
namespace Go.Proofs.Ytidaoalnngmoaaa

/-- the number that orders sheets: the first row is the highest one -/
def rkN (X : Nat) : Nat := ((((X % 64 * 64 + X / 64 % 64) * 64 + X / 4096 % 64) * 64 + X / 262144 % 64) * 64 + X / 16777216 % 64) * 64 + X / 1073741824 % 64
theorem lessB_core (a0 a1 a2 a3 a4 a5 b0 b1 b2 b3 b4 b5 : Nat) (ha : a1 < 64 ∧ a2 < 64 ∧ a3 < 64 ∧ a4 < 64 ∧ a5 < 64) (hb : b1 < 64 ∧ b2 < 64 ∧ b3 < 64 ∧ b4 < 64 ∧ b5 < 64) :
    (if ((a0 : Int) != (b0 : Int)) = true then decide ((a0 : Int) < (b0 : Int)) else (if ((a1 : Int) != (b1 : Int)) = true then decide ((a1 : Int) < (b1 : Int)) else (if ((a2 : Int) != (b2 : Int)) = true then decide ((a2 : Int) < (b2 : Int)) else (if ((a3 : Int) != (b3 : Int)) = true then decide ((a3 : Int) < (b3 : Int)) else (if ((a4 : Int) != (b4 : Int)) = true then decide ((a4 : Int) < (b4 : Int)) else (if ((a5 : Int) != (b5 : Int)) = true then decide ((a5 : Int) < (b5 : Int)) else false))))))
    = decide (((((a0 * 64 + a1) * 64 + a2) * 64 + a3) * 64 + a4) * 64 + a5 < ((((b0 * 64 + b1) * 64 + b2) * 64 + b3) * 64 + b4) * 64 + b5) := by
  by_cases h0 : a0 = b0
  · subst h0
    by_cases h1 : a1 = b1
    · subst h1
      by_cases h2 : a2 = b2
      · subst h2
        by_cases h3 : a3 = b3
        · subst h3
          by_cases h4 : a4 = b4
          · subst h4
            by_cases h5 : a5 = b5
            · subst h5
              simp
            · rw [if_neg (by simp), if_neg (by simp), if_neg (by simp), if_neg (by simp), if_neg (by simp), if_pos (by simp; omega), decide_eq_decide]
              omega
          · rw [if_neg (by simp), if_neg (by simp), if_neg (by simp), if_neg (by simp), if_pos (by simp; omega), decide_eq_decide]
            omega
        · rw [if_neg (by simp), if_neg (by simp), if_neg (by simp), if_pos (by simp; omega), decide_eq_decide]
          omega
      · rw [if_neg (by simp), if_neg (by simp), if_pos (by simp; omega), decide_eq_decide]
        omega
    · rw [if_neg (by simp), if_pos (by simp; omega), decide_eq_decide]
      omega
  · rw [if_pos (by simp; omega), decide_eq_decide]
    omega
theorem lessB_rk (X Y : Nat) : lessB X Y = decide (rkN X < rkN Y) := by
  unfold lessB rkN row
  rw [lessB_core _ _ _ _ _ _ _ _ _ _ _ _ ⟨by omega, by omega, by omega, by omega, by omega⟩ ⟨by omega, by omega, by omega, by omega, by omega⟩]
  simp only [Nat.reducePow, Nat.div_one]
theorem digits_eq (a0 a1 a2 a3 a4 a5 b0 b1 b2 b3 b4 b5 : Nat) (ha : a1 < 64 ∧ a2 < 64 ∧ a3 < 64 ∧ a4 < 64 ∧ a5 < 64) (hb : b1 < 64 ∧ b2 < 64 ∧ b3 < 64 ∧ b4 < 64 ∧ b5 < 64)
    (h : ((((a0 * 64 + a1) * 64 + a2) * 64 + a3) * 64 + a4) * 64 + a5 = ((((b0 * 64 + b1) * 64 + b2) * 64 + b3) * 64 + b4) * 64 + b5) : a0 = b0 ∧ a1 = b1 ∧ a2 = b2 ∧ a3 = b3 ∧ a4 = b4 ∧ a5 = b5 := by
  have h5 : a5 = b5 := by omega
  have h4 : a4 = b4 := by omega
  have h3 : a3 = b3 := by omega
  have h2 : a2 = b2 := by omega
  have h1 : a1 = b1 := by omega
  exact ⟨by omega, h1, h2, h3, h4, h5⟩
theorem rkN_inj (X Y : Nat) (hX : Vs X) (hY : Vs Y) (h : rkN X = rkN Y) : X = Y := by
  unfold rkN at h
  obtain ⟨h0, h1, h2, h3, h4, h5⟩ := digits_eq _ _ _ _ _ _ _ _ _ _ _ _ ⟨by omega, by omega, by omega, by omega, by omega⟩ ⟨by omega, by omega, by omega, by omega, by omega⟩ h
  apply eq_of_rows X Y hX hY <;> (unfold row; simp only [Nat.reducePow, Nat.div_one]; omega)
theorem shiftN_zero (X : Nat) (hX : Vs X) : shiftN X 0 0 = X := by
  apply eq_of_cells (shiftN_vs _ _ _) hX
  intro j hj
  unfold shiftN
  rw [testBit_mk, decide_eq_true hj, Bool.true_and]
  congr 1
  omega
end Go.Proofs.Ytidaoalnngmoaaa
