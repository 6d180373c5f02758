/-
  Contracts of the program's has, rest and shifted and of the reference's l2Mod and l2Get. No conditions.
-/
import Derived.Test.YtlemkphajmnbdaaDoorCe
import Derived.Test.YtlemkphajmnbdaaDoorMathB
namespace Go.Proofs.YtlemkphajmnbdaaDoor
open Go.RowKit
set_option linter.unusedSimpArgs false
set_option linter.unusedVariables false

theorem bit_u64 (X k : Nat) (hX : X < 2 ^ 36) : (bits .and .u64 ((X : Int) / 2 ^ k) 1 == 1) = X.testBit k := by
  have h1 := u64_and_nat (X / 2 ^ k) 1 (by have : X / 2 ^ k ≤ X := Nat.div_le_self _ _; omega) (by omega)
  rw [nat_mask1] at h1
  have e : ((X / 2 ^ k : Nat) : Int) = (X : Int) / 2 ^ k := by rw [Int.natCast_ediv]; simp
  rw [← e]
  rw [show ((1 : Nat) : Int) = 1 from rfl] at h1
  rw [h1, Nat.testBit_eq_decide_div_mod_eq]
  rw [Bool.eq_iff_iff]; simp; omega

theorem rest_num (n : Int) : (wrap64 (n.tmod 6 + 6)).tmod 6 = n % 6 := by
  have h3 := Int.tmod_eq_emod (a := n) (b := 6)
  have h4 : -6 ≤ n.tmod 6 ∧ n.tmod 6 < 6 ∧ (n.tmod 6 + 6) % 6 = n % 6 := by
    rw [h3]; split <;> omega
  rw [IntWalk.wrap64_in _ ⟨by omega, by omega⟩, Int.tmod_eq_emod_of_nonneg (by omega)]
  exact h4.2.2

/-- a loop's relation of the program's moved: k cells are done -/
def MovRel (X : Nat) (f : Nat → Nat) (w : World) (o i : Value) (wr : World) : Prop :=
  ∃ k : Nat, k ≤ 36 ∧ i = .int .i64 (k : Int) ∧ o = .int .u64 ((movN X f k : Nat) : Int) ∧ Below w.heap.size w wr

theorem mov_close (X : Nat) (f : Nat → Nat) (k e : Nat) (h : X.testBit k = true) (hf : ∀ k, k < 36 → f k < 36) (hk : k < 36) (he : e = f k) :
    bits .or .u64 ((movN X f k : Nat) : Int) (IntKind.u64.wrap (2 ^ e)) = ((movN X f (k + 1) : Nat) : Int) := by
  subst he
  have h1 := movN_lt X f hf k (by omega)
  have h2 : 2 ^ f k < 2 ^ 36 := Nat.pow_lt_pow_right (by omega) (hf k hk)
  have h3 := or_u64 (movN X f k) (2 ^ f k) (by omega) (by omega)
  have h4 : IntKind.u64.wrap (2 ^ f k) = ((2 ^ f k : Nat) : Int) := by
    rw [show (2 : Int) ^ f k = ((2 ^ f k : Nat) : Int) from by simp]
    simp only [IntKind.wrap, IntKind.bits, IntKind.signed]
    simp only [Bool.false_and, Bool.false_eq_true, if_false]
    generalize 2 ^ f k = z at h2
    exact Int.emod_eq_of_lt (by omega) (by omega)
  rw [movN, if_pos h, ← h3, h4]

end Go.Proofs.YtlemkphajmnbdaaDoor
