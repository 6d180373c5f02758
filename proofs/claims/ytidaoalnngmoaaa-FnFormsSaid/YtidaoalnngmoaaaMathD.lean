/-
  Plain facts on turns of the board. No conditions.
-/
import Derived.Test.YtidaoalnngmoaaaMathC
namespace Go.Proofs.Ytidaoalnngmoaaa

/-- n quarters of a cell, as coordinates -/
def qI : Nat → Int × Int → Int × Int
  | 0, p => p
  | n + 1, p => (5 - (qI n p).2, (qI n p).1)
/-- a turn of a cell, as coordinates -/
def tI (t : Nat) (p : Int × Int) : Int × Int := if 4 ≤ t then (5 - (qI (t % 4) p).1, (qI (t % 4) p).2) else qI (t % 4) p
theorem qI_bd (x y : Int) (hx : 0 ≤ x ∧ x < 6) (hy : 0 ≤ y ∧ y < 6) : ∀ n, (0 ≤ (qI n (x, y)).1 ∧ (qI n (x, y)).1 < 6) ∧ (0 ≤ (qI n (x, y)).2 ∧ (qI n (x, y)).2 < 6)
  | 0 => ⟨hx, hy⟩
  | n + 1 => by
      have h := qI_bd x y hx hy n
      simp only [qI]
      omega
theorem tI_bd (x y : Int) (hx : 0 ≤ x ∧ x < 6) (hy : 0 ≤ y ∧ y < 6) (t : Nat) : (0 ≤ (tI t (x, y)).1 ∧ (tI t (x, y)).1 < 6) ∧ (0 ≤ (tI t (x, y)).2 ∧ (tI t (x, y)).2 < 6) := by
  have h := qI_bd x y hx hy (t % 4)
  unfold tI
  split
  · show (0 ≤ 5 - (qI (t % 4) (x, y)).1 ∧ 5 - (qI (t % 4) (x, y)).1 < 6) ∧ _
    omega
  · exact h
/-- a quarter, the mirror, a turn of a cell, as a number -/
def qTo (c : Nat) : Nat := 6 * (c % 6) + (5 - c / 6)
def miTo (c : Nat) : Nat := 6 * (c / 6) + (5 - c % 6)
def qIt : Nat → Nat → Nat
  | 0, c => c
  | n + 1, c => qTo (qIt n c)
def trTo (t c : Nat) : Nat := if 4 ≤ t then miTo (qIt (t % 4) c) else qIt (t % 4) c
theorem qTo_lt (c : Nat) (h : c < 36) : qTo c < 36 := by unfold qTo; omega
theorem miTo_lt (c : Nat) (h : c < 36) : miTo c < 36 := by unfold miTo; omega
theorem qIt_lt (c : Nat) (h : c < 36) : ∀ n, qIt n c < 36
  | 0 => h
  | n + 1 => qTo_lt _ (qIt_lt c h n)
theorem trTo_lt (t c : Nat) (h : c < 36) : trTo t c < 36 := by
  unfold trTo; split
  · exact miTo_lt _ (qIt_lt c h _)
  · exact qIt_lt c h _
theorem qTo_inj (i j : Nat) (hi : i < 36) (hj : j < 36) (h : qTo i = qTo j) : i = j := by unfold qTo at h; omega
theorem miTo_inj (i j : Nat) (hi : i < 36) (hj : j < 36) (h : miTo i = miTo j) : i = j := by unfold miTo at h; omega
theorem tI_cell : ∀ t, t < 8 → ∀ c, c < 36 → tI t (((c : Nat) : Int) % 6, ((c : Nat) : Int) / 6) = (((trTo t c : Nat) : Int) % 6, ((trTo t c : Nat) : Int) / 6) := by decide +kernel

theorem movN_vs (X : Nat) (f : Nat → Nat) (hf : ∀ k, k < 36 → f k < 36) : Vs (movN X f 36) := movN_lt X f hf 36 (Nat.le_refl _)
theorem movN_comp (X : Nat) (f g : Nat → Nat) (hf : ∀ k, k < 36 → f k < 36) (hg : ∀ k, k < 36 → g k < 36) : movN (movN X f 36) g 36 = movN X (fun k => g (f k)) 36 := by
  apply eq_of_cells (movN_vs _ g hg) (movN_vs X _ (fun k hk => hg _ (hf k hk)))
  intro j hj
  rw [Bool.eq_iff_iff, testBit_movN, testBit_movN]
  constructor
  · rintro ⟨k, hk, hb, rfl⟩
    obtain ⟨i, hi, hbi, rfl⟩ := (testBit_movN X f 36 k).1 hb
    exact ⟨i, hi, hbi, rfl⟩
  · rintro ⟨i, hi, hbi, rfl⟩
    exact ⟨f i, hf i hi, (testBit_movN X f 36 _).2 ⟨i, hi, hbi, rfl⟩, rfl⟩
theorem movN_id (X : Nat) (hX : Vs X) : movN X (fun k => k) 36 = X := by
  apply eq_of_cells (movN_vs X _ (fun k hk => hk)) hX
  intro j hj
  rw [Bool.eq_iff_iff, testBit_movN]
  constructor
  · rintro ⟨k, _, hb, rfl⟩; exact hb
  · intro h; exact ⟨j, hj, h, rfl⟩
/-- n quarters of a sheet, a turn of a sheet -/
def qSh (X : Nat) (n : Nat) : Nat := movN X (qIt n) 36
def turnS (t X : Nat) : Nat := movN X (trTo t) 36
theorem qSh_vs (X n : Nat) : Vs (qSh X n) := movN_vs X _ (fun k hk => qIt_lt k hk n)
theorem turnS_vs (t X : Nat) : Vs (turnS t X) := movN_vs X _ (fun k hk => trTo_lt t k hk)
theorem qSh_zero (X : Nat) (hX : Vs X) : qSh X 0 = X := movN_id X hX
theorem qSh_succ (X n : Nat) : movN (qSh X n) qTo 36 = qSh X (n + 1) := movN_comp X (qIt n) qTo (fun k hk => qIt_lt k hk n) qTo_lt
theorem turnS_hi (t X : Nat) (h : 4 ≤ t) : movN (qSh X (t % 4)) miTo 36 = turnS t X := by
  unfold qSh
  rw [movN_comp X (qIt (t % 4)) miTo (fun k hk => qIt_lt k hk _) miTo_lt]
  unfold turnS
  congr 1
  funext k
  unfold trTo
  rw [if_pos h]
theorem turnS_lo (t X : Nat) (h : ¬ 4 ≤ t) : qSh X (t % 4) = turnS t X := by
  unfold qSh turnS
  congr 1
  funext k
  unfold trTo
  rw [if_neg h]
/-- a growing image, one cell more: what the flip makes of it -/
theorem movN_flip (X : Nat) (f : Nat → Nat) (hinj : ∀ i j, i < 36 → j < 36 → f i = f j → i = j) (k : Nat) (hk : k < 36) (h : X.testBit k = true) :
    movN X f k ^^^ 2 ^ f k = movN X f (k + 1) := by
  rw [movN, if_pos h]
  apply xor_of_clear
  rw [Bool.eq_false_iff]
  intro hb
  obtain ⟨j, hj, _, he⟩ := (testBit_movN X f k (f k)).1 hb
  have := hinj j k (by omega) hk he
  omega
theorem movN_skip (X : Nat) (f : Nat → Nat) (k : Nat) (h : X.testBit k = false) : movN X f (k + 1) = movN X f k := by
  rw [movN, if_neg (by rw [h]; decide)]
end Go.Proofs.Ytidaoalnngmoaaa
