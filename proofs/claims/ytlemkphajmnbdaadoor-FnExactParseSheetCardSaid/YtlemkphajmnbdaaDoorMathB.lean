/-
  Plain facts on sheets as numbers: sheets made cell by cell, moved, shifted. No conditions.
-/
import Derived.Test.YtlemkphajmnbdaaDoorMath
namespace Go.Proofs.YtlemkphajmnbdaaDoor

/-- the sheet of the cells below n of which p is so -/
def mkN (p : Nat → Bool) : Nat → Nat
  | 0 => 0
  | n + 1 => if p n = true then mkN p n ||| 2 ^ n else mkN p n

theorem testBit_mkN (p : Nat → Bool) (n j : Nat) : (mkN p n).testBit j = (decide (j < n) && p j) := by
  induction n with
  | zero => simp [mkN]
  | succ n ih =>
    unfold mkN
    split
    · rename_i h
      rw [Nat.testBit_or, ih, Nat.testBit_two_pow]
      by_cases e : n = j
      · subst e; simp [h]
      · by_cases l : j < n
        · simp [l, Nat.lt_succ_of_lt l, e]
        · have l' : ¬ j < n + 1 := by omega
          simp [l, l', e]
    · rename_i h
      rw [ih]
      by_cases e : n = j
      · subst e; simp [h]
      · by_cases l : j < n
        · simp [l, Nat.lt_succ_of_lt l]
        · have l' : ¬ j < n + 1 := by omega
          simp [l, l']

/-- the sheet of the cells of which p is so -/
def mk (p : Nat → Bool) : Nat := mkN p 36
theorem testBit_mk (p : Nat → Bool) (j : Nat) : (mk p).testBit j = (decide (j < 36) && p j) := testBit_mkN p 36 j

theorem lt_of_bits (X n : Nat) (h : ∀ j, n ≤ j → X.testBit j = false) : X < 2 ^ n := by
  apply Nat.lt_pow_two_of_testBit
  intro i hi
  exact h i hi
theorem bit_high {X : Nat} (h : Vs X) (j : Nat) (hj : 36 ≤ j) : X.testBit j = false :=
  Nat.testBit_lt_two_pow (Nat.lt_of_lt_of_le h (Nat.pow_le_pow_right (by omega) hj))
theorem mk_vs (p : Nat → Bool) : Vs (mk p) := lt_of_bits _ _ fun j hj => by rw [testBit_mk, decide_eq_false (by omega)]; rfl

/-- two sheets with the same cells are one -/
theorem eq_of_cells {X Y : Nat} (hX : Vs X) (hY : Vs Y) (h : ∀ j, j < 36 → X.testBit j = Y.testBit j) : X = Y := by
  apply Nat.eq_of_testBit_eq
  intro j
  by_cases l : j < 36
  · exact h j l
  · rw [bit_high hX j (by omega), bit_high hY j (by omega)]
theorem mk_congr {p q : Nat → Bool} (h : ∀ j, j < 36 → p j = q j) : mk p = mk q :=
  eq_of_cells (mk_vs p) (mk_vs q) fun j hj => by rw [testBit_mk, testBit_mk, h j hj]
theorem mk_self {X : Nat} (h : Vs X) : mk X.testBit = X := eq_of_cells (mk_vs _) h fun j hj => by rw [testBit_mk]; simp [hj]

/-- what the program's moved computes: the cells below n of X, each sent where f tells -/
def movN (X : Nat) (f : Nat → Nat) : Nat → Nat
  | 0 => 0
  | n + 1 => if X.testBit n = true then movN X f n ||| 2 ^ f n else movN X f n

theorem testBit_movN (X : Nat) (f : Nat → Nat) (n j : Nat) : (movN X f n).testBit j = true ↔ ∃ k, k < n ∧ X.testBit k = true ∧ f k = j := by
  induction n with
  | zero => simp [movN]
  | succ n ih =>
    unfold movN
    split
    · rename_i h
      rw [Nat.testBit_or, Bool.or_eq_true, ih, Nat.testBit_two_pow, decide_eq_true_eq]
      constructor
      · rintro (⟨k, h1, h2, h3⟩ | h1)
        · exact ⟨k, by omega, h2, h3⟩
        · exact ⟨n, by omega, h, h1⟩
      · rintro ⟨k, h1, h2, h3⟩
        by_cases e : k = n
        · subst e; exact .inr h3
        · exact .inl ⟨k, by omega, h2, h3⟩
    · rename_i h
      rw [ih]
      constructor
      · rintro ⟨k, h1, h2, h3⟩
        exact ⟨k, by omega, h2, h3⟩
      · rintro ⟨k, h1, h2, h3⟩
        by_cases e : k = n
        · subst e; exact absurd h2 h
        · exact ⟨k, by omega, h2, h3⟩

theorem movN_lt (X : Nat) (f : Nat → Nat) (hf : ∀ k, k < 36 → f k < 36) (n : Nat) (hn : n ≤ 36) : movN X f n < 2 ^ 36 := by
  apply lt_of_bits
  intro j hj
  cases e : (movN X f n).testBit j with
  | false => rfl
  | true =>
    obtain ⟨k, h1, _, h3⟩ := (testBit_movN X f n j).1 e
    have := hf k (by omega)
    omega

/-- where f has an inverse g on the cells, the moved sheet has at j the cell g j -/
theorem movN_inv {X : Nat} (f g : Nat → Nat) (hf : ∀ k, k < 36 → f k < 36) (hg : ∀ j, j < 36 → g j < 36) (hfg : ∀ j, j < 36 → f (g j) = j) (hgf : ∀ k, k < 36 → g (f k) = k) :
    movN X f 36 = mk fun j => X.testBit (g j) := by
  apply eq_of_cells (movN_lt X f hf 36 (Nat.le_refl _)) (mk_vs _)
  intro j hj
  rw [testBit_mk, decide_eq_true hj, Bool.true_and, Bool.eq_iff_iff, testBit_movN]
  constructor
  · rintro ⟨k, h1, h2, rfl⟩
    rw [hgf k h1]; exact h2
  · intro h
    exact ⟨g j, hg j hj, h, hfg j hj⟩

/-- a sheet shifted by x columns and y rows -/
def shiftN (X x y : Nat) : Nat := mk fun j => X.testBit (6 * ((j / 6 + (6 - y)) % 6) + (j % 6 + (6 - x)) % 6)
theorem shiftN_vs (X x y : Nat) : Vs (shiftN X x y) := mk_vs _
/-- where a shift brings a cell -/
def shTo (x y k : Nat) : Nat := 6 * ((k / 6 + y) % 6) + (k % 6 + x) % 6
theorem movN_shift (X x y : Nat) (hx : x < 6) (hy : y < 6) : movN X (shTo x y) 36 = shiftN X x y := by
  apply movN_inv
  · intro k hk; unfold shTo; omega
  · intro j hj; omega
  · intro j hj; unfold shTo; omega
  · intro k hk; unfold shTo; omega

/-- what of X is not in Y -/
def mi (X Y : Nat) : Nat := X &&& oth Y

/-- the black cells below k, rising -/
def cellsN (X : Nat) : Nat → List Nat
  | 0 => []
  | k + 1 => if X.testBit k = true then cellsN X k ++ [k] else cellsN X k
theorem cellsN_le (X k : Nat) : (cellsN X k).length ≤ k := by
  induction k with
  | zero => simp [cellsN]
  | succ k ih =>
    unfold cellsN
    split
    · simp; omega
    · omega
theorem cellsN_lt (X k : Nat) : ∀ c ∈ cellsN X k, c < k := by
  induction k with
  | zero => simp [cellsN]
  | succ k ih =>
    unfold cellsN
    split
    · intro c hc
      rcases List.mem_append.1 hc with h | h
      · have := ih c h; omega
      · simp at h; omega
    · intro c hc; have := ih c hc; omega
theorem mem_cellsN (X k c : Nat) : c ∈ cellsN X k ↔ c < k ∧ X.testBit c = true := by
  induction k with
  | zero => simp [cellsN]
  | succ k ih =>
    unfold cellsN
    split
    · rename_i h
      rw [List.mem_append, ih, List.mem_singleton]
      constructor
      · rintro (⟨h1, h2⟩ | rfl)
        · exact ⟨by omega, h2⟩
        · exact ⟨by omega, h⟩
      · rintro ⟨h1, h2⟩
        by_cases e : c = k
        · exact .inr e
        · exact .inl ⟨by omega, h2⟩
    · rename_i h
      rw [ih]
      constructor
      · rintro ⟨h1, h2⟩; exact ⟨by omega, h2⟩
      · rintro ⟨h1, h2⟩
        by_cases e : c = k
        · subst e; exact absurd h2 h
        · exact ⟨by omega, h2⟩
/-- all black cells -/
def cellsL (X : Nat) : List Nat := cellsN X 36
end Go.Proofs.YtlemkphajmnbdaaDoor
