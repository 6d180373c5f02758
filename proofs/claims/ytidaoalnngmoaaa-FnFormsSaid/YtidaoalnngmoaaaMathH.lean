/-
  Plain facts on first places, first turns and first forms. No conditions.
-/
import Derived.Test.YtidaoalnngmoaaaMathG
import Derived.Test.YtidaoalnngmoaaaMathE
namespace Go.Proofs.Ytidaoalnngmoaaa

theorem amN_congr (r s : Nat → Nat) : ∀ n, (∀ i, i < n → r i = s i) → amN r n = amN s n
  | 0, _ => rfl
  | n + 1, h => by
      have ih := amN_congr r s n (fun i hi => h i (by omega))
      unfold amN
      rw [ih, h n (by omega)]
      by_cases e : 0 < n
      · rw [h (amN s n) (by have := amN_lt s n e; omega)]
      · have e : n = 0 := by omega
        subst e
        simp [amN, h 0 (by omega)]
theorem amN_pos (r : Nat → Nat) (k : Nat) (h : r k < r (amN r k)) : amN r (k + 1) = k := by rw [amN, if_pos h]
theorem amN_neg (r : Nat → Nat) (k : Nat) (h : ¬ r k < r (amN r k)) : amN r (k + 1) = amN r k := by rw [amN, if_neg h]
theorem block_step (r : Nat → Nat) (m k : Nat) (hm : 0 < m) (hk : 0 < k) :
    amN r (m * (k + 1)) = if r (m * k + amN (fun i => r (m * k + i)) m) < r (amN r (m * k)) then m * k + amN (fun i => r (m * k + i)) m else amN r (m * k) := by
  have h := blN_eq r m hm (k + 1) (by omega)
  rw [← h, blN, blN_eq r m hm k hk]

/-- the place n of a sheet, in the order of the reference; the motion n of it -/
def plN (X n : Nat) : Nat := shiftN X (n / 6) (n % 6)
def mvN (X n : Nat) : Nat := moveS (n / 36) (n % 36 / 6) (n % 6) X
theorem plN_vs (X n : Nat) : Vs (plN X n) := shiftN_vs _ _ _
theorem mvN_vs (X n : Nat) : Vs (mvN X n) := moveS_vs _ _ _ _
theorem plN_zero (X : Nat) (hX : Vs X) : plN X 0 = X := shiftN_zero X hX
theorem mvN_block (X k i : Nat) (h : i < 36) : mvN X (36 * k + i) = plN (turnS k X) i := by
  unfold mvN plN moveS
  rw [show (36 * k + i) / 36 = k by omega, show (36 * k + i) % 36 / 6 = i / 6 by omega, show (36 * k + i) % 6 = i % 6 by omega]
/-- the first place, the first turn, the first form: their numbers, and the sheets -/
def plA (X : Nat) : Nat := amN (fun i => rkN (plN X i)) 36
def plS (X : Nat) : Nat := plN X (plA X)
def ftA (X : Nat) : Nat := amN (fun i => rkN (turnS i X)) 8
def ftS (X : Nat) : Nat := turnS (ftA X) X
def ffA (X : Nat) : Nat := amN (fun i => rkN (mvN X i)) 288
def ffS (X : Nat) : Nat := mvN X (ffA X)
theorem plA_lt (X : Nat) : plA X < 36 := amN_lt _ 36 (by omega)
theorem ftA_lt (X : Nat) : ftA X < 8 := amN_lt _ 8 (by omega)
theorem ffA_lt (X : Nat) : ffA X < 288 := amN_lt _ 288 (by omega)
theorem plS_vs (X : Nat) : Vs (plS X) := plN_vs _ _
theorem ftS_vs (X : Nat) : Vs (ftS X) := turnS_vs _ _
theorem ffS_vs (X : Nat) : Vs (ffS X) := mvN_vs _ _
/-- the program's order of places: columns first -/
theorem press_place (X : Nat) : pressN X (amN (fun i => rkN (pressN X i)) 36) = plS X := by
  apply rkN_inj _ _ (pressN_vs _ _) (plS_vs X)
  apply amN_same (fun i => rkN (pressN X i)) (fun i => rkN (plN X i)) 36 (by omega) (fun i => 6 * (i % 6) + i / 6) (fun i => 6 * (i % 6) + i / 6)
  · intro i hi
    refine ⟨by omega, ?_⟩
    unfold pressN plN
    rw [show (6 * (i % 6) + i / 6) % 6 = i / 6 by omega, show (6 * (i % 6) + i / 6) / 6 = i % 6 by omega]
  · intro i hi
    refine ⟨by omega, ?_⟩
    unfold pressN plN
    rw [show (6 * (i % 6) + i / 6) % 6 = i / 6 by omega, show (6 * (i % 6) + i / 6) / 6 = i % 6 by omega]
/-- one turn more in the search for the first form -/
theorem form_start (X : Nat) (hX : Vs X) : amN (fun i => rkN (mvN X i)) (36 * 1) = plA X := by
  unfold plA
  apply amN_congr
  intro i hi
  have := mvN_block X 0 i (by omega)
  rw [turnS_zero X hX, show 36 * 0 + i = i by omega] at this
  simp only [this]
theorem form_block (X k : Nat) : amN (fun i => rkN (mvN X (36 * k + i))) 36 = plA (turnS k X) := by
  unfold plA
  apply amN_congr
  intro i hi
  simp only [mvN_block X k i hi]
theorem form_pos (X k : Nat) (hk : 0 < k) (h : rkN (plS (turnS k X)) < rkN (mvN X (amN (fun i => rkN (mvN X i)) (36 * k)))) :
    amN (fun i => rkN (mvN X i)) (36 * (k + 1)) = 36 * k + plA (turnS k X) := by
  rw [block_step _ 36 k (by omega) hk, form_block, if_pos]
  rw [mvN_block X k _ (plA_lt _)]
  exact h
theorem form_neg (X k : Nat) (hk : 0 < k) (h : ¬ rkN (plS (turnS k X)) < rkN (mvN X (amN (fun i => rkN (mvN X i)) (36 * k)))) :
    amN (fun i => rkN (mvN X i)) (36 * (k + 1)) = amN (fun i => rkN (mvN X i)) (36 * k) := by
  rw [block_step _ 36 k (by omega) hk, form_block, if_neg]
  rw [mvN_block X k _ (plA_lt _)]
  exact h
end Go.Proofs.Ytidaoalnngmoaaa
