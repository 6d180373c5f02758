/-
  Plain facts on turns: they are a group of eight, a marked sheet tells them apart. No conditions.
-/
import Derived.Test.YtidaoalnngmoaaaMathD
namespace Go.Proofs.Ytidaoalnngmoaaa

/-- the turn m behind the turn k; the turn that leads back -/
def tbN (k m : Nat) : Nat := 4 * ((k / 4 + m / 4) % 2) + (if k < 4 then (k % 4 + m % 4) % 4 else (k % 4 + 4 - m % 4) % 4)
def bkN (k : Nat) : Nat := if k < 4 then (4 - k) % 4 else k
theorem tbN_lt (k m : Nat) : tbN k m < 8 := by unfold tbN; split <;> omega
theorem bkN_lt (k : Nat) (h : k < 8) : bkN k < 8 := by unfold bkN; split <;> omega
theorem trTo_comp : ∀ k, k < 8 → ∀ m, m < 8 → ∀ c, c < 36 → trTo m (trTo k c) = trTo (tbN k m) c := by decide +kernel
theorem tbN_zero : ∀ k, k < 8 → ∀ m, m < 8 → (tbN k m = 0 ↔ m = bkN k) := by decide +kernel
theorem tbN_back (k : Nat) (h : k < 8) : tbN k (bkN k) = 0 := (tbN_zero k h _ (bkN_lt k h)).2 rfl
theorem movN_congr (X : Nat) (f g : Nat → Nat) (h : ∀ k, k < 36 → f k = g k) : ∀ n, n ≤ 36 → movN X f n = movN X g n
  | 0, _ => rfl
  | n + 1, hn => by
      rw [movN, movN, movN_congr X f g h n (by omega), h n (by omega)]
theorem turnS_comp (k m X : Nat) (hk : k < 8) (hm : m < 8) : turnS m (turnS k X) = turnS (tbN k m) X := by
  unfold turnS
  rw [movN_comp X (trTo k) (trTo m) (fun c hc => trTo_lt k c hc) (fun c hc => trTo_lt m c hc)]
  exact movN_congr X _ _ (fun c hc => trTo_comp k hk m hm c hc) 36 (Nat.le_refl _)
theorem turnS_zero (X : Nat) (hX : Vs X) : turnS 0 X = X := by
  rw [← turnS_lo 0 X (by omega)]
  exact qSh_zero X hX
theorem marked_inj : ∀ i, i < 8 → ∀ j, j < 8 → turnS i 75 = turnS j 75 → i = j := by decide +kernel
theorem odd_inj : ∀ i, i < 8 → ∀ j, j < 8 → turnS i 70 = turnS j 70 → i = j := by decide +kernel
theorem vs75 : Vs 75 := by unfold Vs; omega
theorem vs70 : Vs 70 := by unfold Vs; omega
/-- a sheet behind a motion -/
def moveS (t x y X : Nat) : Nat := shiftN (turnS t X) x y
theorem moveS_vs (t x y X : Nat) : Vs (moveS t x y X) := shiftN_vs _ _ _
end Go.Proofs.Ytidaoalnngmoaaa
