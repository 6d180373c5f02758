/-
  Plain facts on the sheet that a text of rows tells. No conditions.
-/
import Derived.Test.YtlemkphajmnbdaaDoorPs
import Derived.Test.YtlemkphajmnbdaaDoorMathC
namespace Go.Proofs.YtlemkphajmnbdaaDoor
set_option linter.unusedVariables false

/-- is the sign of cell c a black one -/
def pB (l : List UInt8) (c : Nat) : Bool := decide (l[7 * (c / 6) + c % 6]? = some 35)
/-- the sheet of the first n signs -/
def psN (l : List UInt8) : Nat → Nat
  | 0 => 0
  | n + 1 => if n % 7 < 6 ∧ l[n]? = some 35 then psN l n ||| 2 ^ (6 * (n / 7) + n % 7) else psN l n
theorem testBit_psN (l : List UInt8) : ∀ n j, (psN l n).testBit j = (decide (7 * (j / 6) + j % 6 < n) && pB l j)
  | 0, j => by simp [psN]
  | n + 1, j => by
      have ih := testBit_psN l n j
      unfold psN
      by_cases e : 7 * (j / 6) + j % 6 = n
      · have hn : n % 7 < 6 := by omega
        have hj : 6 * (n / 7) + n % 7 = j := by omega
        have h1 : decide (7 * (j / 6) + j % 6 < n) = false := decide_eq_false (by omega)
        have h2 : decide (7 * (j / 6) + j % 6 < n + 1) = true := decide_eq_true (by omega)
        rw [h2, Bool.true_and]
        rw [h1, Bool.false_and] at ih
        unfold pB
        rw [e]
        by_cases c : l[n]? = some 35
        · rw [if_pos ⟨hn, c⟩, Nat.testBit_or, Nat.testBit_two_pow, hj, ih]
          simp [c]
        · rw [if_neg (fun h => c h.2), ih]
          simp [c]
      · have h1 : decide (7 * (j / 6) + j % 6 < n + 1) = decide (7 * (j / 6) + j % 6 < n) := by
          by_cases c : 7 * (j / 6) + j % 6 < n
          · rw [decide_eq_true c, decide_eq_true (by omega)]
          · rw [decide_eq_false c, decide_eq_false (by omega)]
        rw [h1, ← ih]
        split
        · rename_i h
          have hj : ¬ 6 * (n / 7) + n % 7 = j := fun k => e (by omega)
          rw [Nat.testBit_or, Nat.testBit_two_pow]
          simp [hj]
        · rfl
theorem psN_41 (l : List UInt8) : psN l 41 = mk (pB l) := by
  apply Nat.eq_of_testBit_eq
  intro j
  rw [testBit_psN, testBit_mk]
  congr 1
  by_cases c : j < 36
  · rw [decide_eq_true c, decide_eq_true (by omega)]
  · rw [decide_eq_false c, decide_eq_false (by omega)]
theorem psN_flip (l : List UInt8) (n : Nat) (h : n % 7 < 6) (h2 : l[n]? = some 35) : psN l n ^^^ 2 ^ (6 * (n / 7) + n % 7) = psN l (n + 1) := by
  have hc : (psN l n).testBit (6 * (n / 7) + n % 7) = false := by
    rw [testBit_psN, decide_eq_false (by omega)]
    rfl
  rw [xor_of_clear _ _ hc, psN, if_pos ⟨h, h2⟩]
theorem psN_skip (l : List UInt8) (n : Nat) (h : ¬ l[n]? = some 35) : psN l (n + 1) = psN l n := by
  rw [psN, if_neg (fun k => h k.2)]
theorem psN_vs (l : List UInt8) (n : Nat) (hn : n ≤ 41) : Vs (psN l n) := lt_of_bits _ _ fun j hj => by
  rw [testBit_psN, decide_eq_false (by omega)]
  rfl
end Go.Proofs.YtlemkphajmnbdaaDoor
