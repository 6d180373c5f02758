/-
  Plain facts on prints of presses: they are sums of black cells by two, and stamp and presses can be exchanged. No conditions.
-/
import Derived.Test.YtgjgefbcfcomcaaDoorMathC
namespace Go.Proofs.YtgjgefbcfcomcaaDoor

/-- the first n cells of a list pressed, toggling -/
def xrT (X : Nat) (L : List Nat) : Nat → Nat
  | 0 => 0
  | n + 1 => xrT X L n ^^^ pressN X (L.getD n 0)
theorem xrT_vs (X : Nat) (L : List Nat) (n : Nat) : Vs (xrT X L n) := by
  induction n with
  | zero => unfold xrT Vs; omega
  | succ n ih => exact ih.xor (pressN_vs _ _)
/-- the print of the presses Y by the stamp X -/
def printS (X Y : Nat) : Nat := xrT X (cellsL Y) (cellsL Y).length
theorem printS_vs (X Y : Nat) : Vs (printS X Y) := xrT_vs _ _ _
theorem xrT_append (X : Nat) (L M : List Nat) : ∀ n, n ≤ L.length → xrT X (L ++ M) n = xrT X L n
  | 0, _ => rfl
  | n + 1, h => by
      rw [xrT, xrT, xrT_append X L M n (by omega), List.getD_eq_getElem?_getD, List.getD_eq_getElem?_getD, List.getElem?_append_left (by omega)]
/-- sums by two -/
def xf (f : Nat → Bool) : Nat → Bool
  | 0 => false
  | n + 1 => xor (xf f n) (f n)
/-- the cell j less the cell c -/
def sbN (j c : Nat) : Nat := 6 * ((j / 6 + (6 - c / 6)) % 6) + (j % 6 + (6 - c % 6)) % 6
theorem press_bit (X c j : Nat) (hj : j < 36) : (pressN X c).testBit j = X.testBit (sbN j c) := by
  unfold pressN shiftN
  rw [testBit_mk, decide_eq_true hj, Bool.true_and]
  rfl
theorem xr_bit (X Y j : Nat) (hj : j < 36) : ∀ n, (xrT X (cellsN Y n) (cellsN Y n).length).testBit j = xf (fun c => Y.testBit c && X.testBit (sbN j c)) n
  | 0 => by simp [cellsN, xrT, xf]
  | n + 1 => by
      have ih := xr_bit X Y j hj n
      rw [xf, ← ih]
      by_cases h : Y.testBit n = true
      · have e : cellsN Y (n + 1) = cellsN Y n ++ [n] := by rw [cellsN, if_pos h]
        rw [e, List.length_append, h, Bool.true_and]
        show (xrT X (cellsN Y n ++ [n]) ((cellsN Y n).length + 1)).testBit j = _
        rw [xrT, Nat.testBit_xor, xrT_append X _ _ _ (Nat.le_refl _)]
        congr 1
        rw [List.getD_eq_getElem?_getD, List.getElem?_append_right (Nat.le_refl _), Nat.sub_self]
        exact press_bit X n j hj
      · have e : cellsN Y (n + 1) = cellsN Y n := by rw [cellsN, if_neg h]
        simp only [Bool.not_eq_true] at h
        rw [e, h, Bool.false_and, Bool.xor_false]
theorem print_bit (X Y j : Nat) (hj : j < 36) : (printS X Y).testBit j = xf (fun c => Y.testBit c && X.testBit (sbN j c)) 36 := xr_bit X Y j hj 36
theorem xf_count (f : Nat → Bool) : ∀ n, xf f n = decide ((List.range n).countP f % 2 = 1)
  | 0 => rfl
  | n + 1 => by
      rw [xf, xf_count f n, List.range_succ, List.countP_append, List.countP_singleton]
      cases f n
      · simp
      · simp only [if_true]
        by_cases h : (List.range n).countP f % 2 = 1
        · have h2 : ¬ ((List.range n).countP f + 1) % 2 = 1 := by omega
          simp [h, h2]
        · have h2 : ((List.range n).countP f + 1) % 2 = 1 := by omega
          simp [h, h2]
theorem xf_perm (f : Nat → Bool) (p : Nat → Nat) (n : Nat) (h : ((List.range n).map p).Perm (List.range n)) : xf f n = xf (fun c => f (p c)) n := by
  rw [xf_count, xf_count, ← h.countP_eq f, List.countP_map]
  rfl
theorem xf_congr (f g : Nat → Bool) : ∀ n, (∀ c, c < n → f c = g c) → xf f n = xf g n
  | 0, _ => rfl
  | n + 1, h => by rw [xf, xf, xf_congr f g n (fun c hc => h c (by omega)), h n (by omega)]
theorem xf_xor (f g : Nat → Bool) : ∀ n, xf (fun c => xor (f c) (g c)) n = xor (xf f n) (xf g n)
  | 0 => rfl
  | n + 1 => by
      rw [xf, xf, xf, xf_xor f g n]
      cases xf f n <;> cases xf g n <;> cases f n <;> cases g n <;> rfl
theorem sb_perm : ∀ j, j < 36 → ((List.range 36).map (sbN j)).isPerm (List.range 36) = true := by decide +kernel
theorem sb_sb : ∀ j, j < 36 → ∀ c, c < 36 → sbN j (sbN j c) = c := by decide +kernel
theorem sb_lt (j c : Nat) : sbN j c < 36 := by unfold sbN; omega
theorem print_comm (X Y : Nat) : printS X Y = printS Y X := by
  apply eq_of_cells (printS_vs X Y) (printS_vs Y X)
  intro j hj
  rw [print_bit X Y j hj, print_bit Y X j hj, xf_perm _ (sbN j) 36 (List.isPerm_iff.1 (sb_perm j hj))]
  apply xf_congr
  intro c hc
  rw [sb_sb j hj c hc, Bool.and_comm]
/-- powers of a stamp -/
def pwN (X : Nat) : Nat → Nat
  | 0 => 1
  | n + 1 => printS X (pwN X n)
theorem pwN_vs (X : Nat) : ∀ n, Vs (pwN X n)
  | 0 => by unfold pwN Vs; omega
  | n + 1 => printS_vs _ _
end Go.Proofs.YtgjgefbcfcomcaaDoor
