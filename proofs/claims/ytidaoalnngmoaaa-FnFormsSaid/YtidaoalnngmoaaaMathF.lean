/-
  Plain facts on the order of sheets and on the first one of several. No conditions.
-/
namespace Go.Proofs.Ytidaoalnngmoaaa

/-- the best of r 0 .. r (n - 1) by a number, the first one of these: its index -/
def amN (r : Nat → Nat) : Nat → Nat
  | 0 => 0
  | n + 1 => if r n < r (amN r n) then n else amN r n
theorem amN_one (r : Nat → Nat) : amN r 1 = 0 := by simp [amN]
theorem amN_lt (r : Nat → Nat) : ∀ n, 0 < n → amN r n < n
  | 0, h => by omega
  | n + 1, _ => by
      unfold amN
      split
      · omega
      · by_cases h : 0 < n
        · have := amN_lt r n h; omega
        · have e : n = 0 := by omega
          subst e; simp [amN]
theorem amN_le (r : Nat → Nat) : ∀ n i, i < n → r (amN r n) ≤ r i
  | 0, i, h => by omega
  | n + 1, i, h => by
      unfold amN
      by_cases e : i = n
      · subst e
        split
        · omega
        · omega
      · have h1 := amN_le r n i (by omega)
        split
        · omega
        · exact h1
theorem amN_first (r : Nat → Nat) : ∀ n i, i < amN r n → r (amN r n) < r i
  | 0, i, h => by simp [amN] at h
  | n + 1, i, h => by
      unfold amN at h ⊢
      split at h
      · rename_i hlt
        rw [if_pos hlt]
        have := amN_le r n i h
        omega
      · rename_i hlt
        rw [if_neg hlt]
        exact amN_first r n i h
/-- the first best is one -/
theorem amN_uniq (r : Nat → Nat) (n a : Nat) (ha : a < n) (h1 : ∀ i, i < n → r a ≤ r i) (h2 : ∀ i, i < a → r a < r i) : amN r n = a := by
  have b1 := amN_lt r n (by omega)
  have b2 := amN_le r n a ha
  have b3 := h1 _ b1
  by_cases c : a < amN r n
  · have := amN_first r n a c; omega
  · by_cases d : amN r n < a
    · have := h2 _ d; omega
    · omega
/-- two ways through the same things meet the same best -/
theorem amN_same (r s : Nat → Nat) (n : Nat) (hn : 0 < n) (p q : Nat → Nat) (hp : ∀ i, i < n → p i < n ∧ r (p i) = s i) (hq : ∀ i, i < n → q i < n ∧ s (q i) = r i) : r (amN r n) = s (amN s n) := by
  have b1 := amN_lt r n hn
  have b2 := amN_lt s n hn
  have b3 := amN_le r n _ (hp _ b2).1
  have b4 := amN_le s n _ (hq _ b1).1
  rw [(hp _ b2).2] at b3
  rw [(hq _ b1).2] at b4
  omega
/-- blocks of m: the best block's best -/
def blN (r : Nat → Nat) (m : Nat) : Nat → Nat
  | 0 => 0
  | k + 1 => if r (m * k + amN (fun i => r (m * k + i)) m) < r (blN r m k) then m * k + amN (fun i => r (m * k + i)) m else blN r m k
theorem blN_eq (r : Nat → Nat) (m : Nat) (hm : 0 < m) : ∀ k, 0 < k → blN r m k = amN r (m * k)
  | 0, h => by omega
  | k + 1, _ => by
      have a1 := amN_lt (fun i => r (m * k + i)) m hm
      have a2 := amN_le (fun i => r (m * k + i)) m
      have a3 := amN_first (fun i => r (m * k + i)) m
      try dsimp only at a2 a3
      have e1 : m * (k + 1) = m * k + m := Nat.mul_succ m k
      symm
      by_cases h : 0 < k
      · have ih := blN_eq r m hm k h
        have hmk : 0 < m * k := Nat.mul_pos hm h
        have b1 := amN_lt r (m * k) hmk
        have b2 := amN_le r (m * k)
        have b3 := amN_first r (m * k)
        unfold blN
        rw [ih]
        generalize amN (fun i => r (m * k + i)) m = a at *
        generalize amN r (m * k) = b at *
        split
        · rename_i hlt
          apply amN_uniq r
          · omega
          · intro i hi
            by_cases c : i < m * k
            · have := b2 i c; omega
            · have := a2 (i - m * k) (by omega)
              rw [show m * k + (i - m * k) = i by omega] at this
              exact this
          · intro i hi
            by_cases c : i < m * k
            · have := b2 i c; omega
            · have := a3 (i - m * k) (by omega)
              rw [show m * k + (i - m * k) = i by omega] at this
              exact this
        · rename_i hlt
          apply amN_uniq r
          · omega
          · intro i hi
            by_cases c : i < m * k
            · exact b2 i c
            · have := a2 (i - m * k) (by omega)
              rw [show m * k + (i - m * k) = i by omega] at this
              omega
          · exact b3
      · have e : k = 0 := by omega
        subst e
        unfold blN
        simp only [Nat.mul_zero, Nat.zero_add, blN] at *
        split
        · apply amN_uniq r
          · omega
          · intro i hi; exact a2 i (by omega)
          · intro i hi; exact a3 i hi
        · rename_i hlt
          apply amN_uniq r
          · omega
          · intro i hi
            have h1 := a2 i (by omega)
            have h0 := a2 0 hm
            omega
          · intro i hi; omega
end Go.Proofs.Ytidaoalnngmoaaa
