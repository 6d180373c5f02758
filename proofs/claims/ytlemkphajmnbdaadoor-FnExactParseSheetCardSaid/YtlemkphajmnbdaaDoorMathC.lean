/-
  Plain facts on sheets as numbers: flipped, reflected, spread, shrunk. No conditions.
-/
import Derived.Test.YtlemkphajmnbdaaDoorMathB
namespace Go.Proofs.YtlemkphajmnbdaaDoor

theorem flip_vs {X : Nat} (h : Vs X) (k : Nat) (hk : k < 36) : Vs (X ^^^ 2 ^ k) :=
  Nat.xor_lt_two_pow h (Nat.pow_lt_pow_right (by omega) hk)
theorem row_flip_same (X y x : Nat) (hx : x < 6) : (X ^^^ 2 ^ (6 * y + x)) / 64 ^ y % 64 = (X / 64 ^ y % 64) ^^^ 2 ^ x := by
  apply Nat.eq_of_testBit_eq; intro b
  rw [Nat.testBit_xor, testBit_row, testBit_row, Nat.testBit_xor, Nat.testBit_two_pow, Nat.testBit_two_pow]
  by_cases hb : b < 6
  · simp [hb]
  · have : ¬ x = b := by omega
    simp [hb, this]
theorem row_flip_other (X y x i : Nat) (hx : x < 6) (hi : i ≠ y) : row (X ^^^ 2 ^ (6 * y + x)) i = row X i := by
  unfold row
  congr 1
  apply Nat.eq_of_testBit_eq; intro b
  rw [testBit_row, testBit_row, Nat.testBit_xor, Nat.testBit_two_pow]
  by_cases hb : b < 6
  · have : ¬ 6 * y + x = 6 * i + b := by omega
    simp [hb, this]
  · simp [hb]
theorem xor_of_clear (Z k : Nat) (h : Z.testBit k = false) : Z ^^^ 2 ^ k = Z ||| 2 ^ k := by
  apply Nat.eq_of_testBit_eq; intro j
  rw [Nat.testBit_xor, Nat.testBit_or, Nat.testBit_two_pow]
  by_cases e : k = j
  · subst e; simp [h]
  · simp [e]
theorem mkN_vs (p : Nat → Bool) (n : Nat) (h : n ≤ 36) : Vs (mkN p n) := lt_of_bits _ _ fun j hj => by rw [testBit_mkN, decide_eq_false (by omega)]; rfl
theorem mkN_flip (p : Nat → Bool) (k : Nat) (h : p k = true) : mkN p k ^^^ 2 ^ k = mkN p (k + 1) := by
  rw [xor_of_clear _ _ (by rw [testBit_mkN]; simp), mkN, if_pos h]
theorem mkN_skip (p : Nat → Bool) (k : Nat) (h : p k = false) : mkN p (k + 1) = mkN p k := by
  rw [mkN, if_neg (by rw [h]; decide)]

/-- a stamp as it is pressed at a cell -/
def pressN (X k : Nat) : Nat := shiftN X (k % 6) (k / 6)
theorem pressN_vs (X k : Nat) : Vs (pressN X k) := shiftN_vs X (k % 6) (k / 6)
/-- the cells of a list, pressed by X one after another, all inked -/
def orL (X : Nat) : List Nat → Nat → Nat
  | [], o => o
  | c :: L, o => orL X L (o ||| pressN X c)
/-- the first n cells of a list pressed -/
def orT (X : Nat) (L : List Nat) : Nat → Nat
  | 0 => 0
  | n + 1 => orT X L n ||| pressN X (L.getD n 0)
theorem orT_vs (X : Nat) (L : List Nat) (n : Nat) : Vs (orT X L n) := by
  induction n with
  | zero => unfold orT Vs; omega
  | succ n ih => exact ih.or (pressN_vs _ _)
/-- X spread by Y -/
def spreadS (X Y : Nat) : Nat := orT X (cellsL Y) (cellsL Y).length
theorem spreadS_vs (X Y : Nat) : Vs (spreadS X Y) := orT_vs _ _ _
/-- X shrunk by Y -/
def shrinkP (X Y k : Nat) : Bool := decide (pressN Y k &&& X = pressN Y k)
def shrinkS (X Y : Nat) : Nat := mkN (shrinkP X Y) 36
theorem shrinkS_vs (X Y : Nat) : Vs (shrinkS X Y) := mkN_vs _ _ (by omega)
/-- where the reflection brings a cell -/
def reTo (k : Nat) : Nat := 6 * ((6 - k / 6) % 6) + (6 - k % 6) % 6
def reflS (X : Nat) : Nat := mk fun j => X.testBit (reTo j)
theorem reflS_vs (X : Nat) : Vs (reflS X) := by unfold reflS; exact mk_vs _
theorem movN_refl (X : Nat) : movN X reTo 36 = reflS X := by
  apply movN_inv
  · intro k hk; unfold reTo; omega
  · intro k hk; unfold reTo; omega
  · intro k hk; unfold reTo; omega
  · intro k hk; unfold reTo; omega
end Go.Proofs.YtlemkphajmnbdaaDoor
