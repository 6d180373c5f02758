/-
  Contracts of ShrinkLeft, of the program and of the reference. No conditions.
-/
import Derived.Test.YtphnkkblgbfncaaCp
namespace Go.Proofs.Ytphnkkblgbfncaa
open Go.RowKit
set_option linter.unusedSimpArgs false
set_option linter.unusedVariables false

/-- X shrunk by Y as long as something is left: fuel, count so far -/
def leftR (Y : Nat) : Nat → Nat → Nat → Nat × Nat
  | 0, n, X => (n, X)
  | f + 1, n, X => if X = 0 ∨ shrinkS X Y = 0 then (n, X) else leftR Y f (n + 1) (shrinkS X Y)
theorem left_stop (Y k A : Nat) (h : A = 0 ∨ shrinkS A Y = 0) : leftR Y (12 - k) k A = (k, A) := by
  cases e : 12 - k with
  | zero => rfl
  | succ m => rw [leftR, if_pos h]
theorem left_step (Y k A : Nat) (hk : k < 12) (h0 : ¬ A = 0) (h1 : ¬ shrinkS A Y = 0) : leftR Y (12 - k) k A = leftR Y (12 - (k + 1)) (k + 1) (shrinkS A Y) := by
  rw [show 12 - k = (12 - (k + 1)) + 1 from by omega, leftR, if_neg (by intro h; exact h.elim h0 h1)]
theorem leftR_vs (Y : Nat) : ∀ f n X, Vs X → Vs (leftR Y f n X).2
  | 0, _, _, h => h
  | f + 1, n, X, h => by
      rw [leftR]
      by_cases e : X = 0 ∨ shrinkS X Y = 0
      · rw [if_pos e]; exact h
      · rw [if_neg e]; exact leftR_vs Y f _ _ (shrinkS_vs _ _)
theorem rows_zero (A : Nat) (hA : Vs A) : (row (A) 0 = 0 ∧ row (A) 1 = 0 ∧ row (A) 2 = 0 ∧ row (A) 3 = 0 ∧ row (A) 4 = 0 ∧ row (A) 5 = 0) ↔ A = 0 := by
  have h := rows_iff A 0 hA (by unfold Vs; omega)
  simp only [zero_rows] at h
  exact h
def SlRel (X Y : Nat) (w : World) (i p : Value) (wr : World) : Prop :=
  ∃ k A B : Nat, k ≤ 12 ∧ i = .int .i64 (k : Int) ∧ p = .pointer (some ⟨B, 0, none⟩) ∧ w.heap.size + 1 + 1 < B ∧ Vs A ∧ Below w.heap.size w wr ∧ HoldsA wr 25 (w.heap.size) (row A 0) (row A 1) (row A 2) (row A 3) (row A 4) (row A 5) ∧ HoldsA wr 25 (w.heap.size + 1) (row Y 0) (row Y 1) (row Y 2) (row Y 3) (row Y 4) (row Y 5) ∧ HoldsA wr 25 (w.heap.size + 1 + 1) 0 0 0 0 0 0 ∧
    HoldsA wr 25 (B) (row (shrinkS A Y) 0) (row (shrinkS A Y) 1) (row (shrinkS A Y) 2) (row (shrinkS A Y) 3) (row (shrinkS A Y) 4) (row (shrinkS A Y) 5) ∧ leftR Y (12 - k) k A = leftR Y 12 0 X

set_option maxRecDepth 100000 in
set_option maxHeartbeats 1600000 in
theorem specShrinkLeft_ok (X Y : Nat) (hX : Vs X) (hY : Vs Y) (w : World) : Calls Try.prog 30 #[(.agg #[.int .i64 (row X 0), .int .i64 (row X 1), .int .i64 (row X 2), .int .i64 (row X 3), .int .i64 (row X 4), .int .i64 (row X 5)]), (.agg #[.int .i64 (row Y 0), .int .i64 (row Y 1), .int .i64 (row Y 2), .int .i64 (row Y 3), .int .i64 (row Y 4), .int .i64 (row Y 5)])] w fun e w' => e = .returned (.tuple #[.int .i64 (((leftR Y 12 0 X).1 : Nat) : Int), (.agg #[.int .i64 (row ((leftR Y 12 0 X).2) 0), .int .i64 (row ((leftR Y 12 0 X).2) 1), .int .i64 (row ((leftR Y 12 0 X).2) 2), .int .i64 (row ((leftR Y 12 0 X).2) 3), .int .i64 (row ((leftR Y 12 0 X).2) 4), .int .i64 (row ((leftR Y 12 0 X).2) 5)]), .bool true]) ∧ Below w.heap.size w w' := by
  go_enter Try.func30, Try.ntmps30
  go_wp2_with (first | (go_at_call 38; (with_reducible refine (l2Sheet_ok _ _).mono ?_); rintro e w1 ⟨rfl, hb⟩; obtain ⟨hc, hf, hT, hz⟩ := bfacts hb; (try simp only [World.size_alloc, World.size_setCell, World.size_drew, size_drewN] at hc hf hT hz); (try (have hzA := Nat.lt_of_succ_le hz)); (try (have hl0 : w.heap.size ≤ w1.heap.size := by omega)); (try (have hz0 : w.heap.size < w1.heap.size := by omega)); (try (have hz1 : w.heap.size + 1 < w1.heap.size := by omega)); (try (have hz2 : w.heap.size + 1 + 1 < w1.heap.size := by omega)); (try (have hz3 : w.heap.size + 1 + 1 + 1 < w1.heap.size := by omega)); (try (have hz4 : w.heap.size + 1 + 1 + 1 + 1 < w1.heap.size := by omega))) | (go_at_call 47; (with_reducible refine (l5Shrink_any _ _ (by assumption) (by assumption) _).mono ?_); rintro e w1 ⟨rfl, hb⟩; obtain ⟨hc, hf, hT, hz⟩ := bfacts hb; (try simp only [World.size_alloc, World.size_setCell, World.size_drew, size_drewN] at hc hf hT hz); (try (have hzA := Nat.lt_of_succ_le hz)); (try (have hl0 : w.heap.size ≤ w1.heap.size := by omega)); (try (have hz0 : w.heap.size < w1.heap.size := by omega)); (try (have hz1 : w.heap.size + 1 < w1.heap.size := by omega)); (try (have hz2 : w.heap.size + 1 + 1 < w1.heap.size := by omega)); (try (have hz3 : w.heap.size + 1 + 1 + 1 < w1.heap.size := by omega)); (try (have hz4 : w.heap.size + 1 + 1 + 1 + 1 < w1.heap.size := by omega))))
  go_loopw [7, 8] (SlRel X Y w) (fun i _ _ => 12 - (intOf i).toNat)
  case atStart =>
    refine ⟨0, X, w1.heap.size, Nat.zero_le _, rfl, rfl, by omega, hX, (by repeat (first | with_reducible exact Below.refl _ _ | with_reducible assumption | with_reducible refine Below.drew ?_ | with_reducible refine below_drewN ?_ _ | with_reducible refine Below.alloc ?_ ?_ _ | with_reducible refine Below.setCell ?_ ?_ _ | with_reducible refine Below.trans ?_ (Below.mono (by assumption) ?_) | omega | (simp <;> omega))), ?_, ?_, ?_, ?_, rfl⟩
    · (repeat (first | with_reducible assumption | (with_reducible refine HoldsA.made' ?_; (simp; done)) | with_reducible refine HoldsA.alloc ?_ _ | with_reducible refine HoldsA.drew ?_ | with_reducible refine HoldsA.drewN ?_ _ | (with_reducible refine HoldsA.far ?_ _ _ (by first | (simp; done) | (simp; omega))) | (with_reducible refine HoldsA.below ?_ (by with_reducible assumption) (by first | (simp; done) | (simp; omega) | omega))))
    · (repeat (first | with_reducible assumption | (with_reducible refine HoldsA.made' ?_; (simp; done)) | with_reducible refine HoldsA.alloc ?_ _ | with_reducible refine HoldsA.drew ?_ | with_reducible refine HoldsA.drewN ?_ _ | (with_reducible refine HoldsA.far ?_ _ _ (by first | (simp; done) | (simp; omega))) | (with_reducible refine HoldsA.below ?_ (by with_reducible assumption) (by first | (simp; done) | (simp; omega) | omega))))
    · (repeat (first | with_reducible assumption | (with_reducible refine HoldsA.made' ?_; (simp; done)) | with_reducible refine HoldsA.alloc ?_ _ | with_reducible refine HoldsA.drew ?_ | with_reducible refine HoldsA.drewN ?_ _ | (with_reducible refine HoldsA.far ?_ _ _ (by first | (simp; done) | (simp; omega))) | (with_reducible refine HoldsA.below ?_ (by with_reducible assumption) (by first | (simp; done) | (simp; omega) | omega))))
    · (repeat (first | with_reducible assumption | (with_reducible refine HoldsA.made' ?_; (simp; done)) | with_reducible refine HoldsA.alloc ?_ _ | with_reducible refine HoldsA.drew ?_ | with_reducible refine HoldsA.drewN ?_ _ | (with_reducible refine HoldsA.far ?_ _ _ (by first | (simp; done) | (simp; omega))) | (with_reducible refine HoldsA.below ?_ (by with_reducible assumption) (by first | (simp; done) | (simp; omega) | omega))))
  case round =>
    obtain ⟨k, A, B, hk, rfl, rfl, hB, hV, hbw, h0, h1, h2, h3, hfl⟩ := hrel
    have hx0 := h0.c0
    have hx1 := h0.c1
    have hx2 := h0.c2
    have hx3 := h0.c3
    have hx4 := h0.c4
    have hx5 := h0.c5
    have hxf := h0.free
    have hy0 := h1.c0
    have hy1 := h1.c1
    have hy2 := h1.c2
    have hy3 := h1.c3
    have hy4 := h1.c4
    have hy5 := h1.c5
    have hyf := h1.free
    have hn0 := h3.c0
    have hn1 := h3.c1
    have hn2 := h3.c2
    have hn3 := h3.c3
    have hn4 := h3.c4
    have hn5 := h3.c5
    have hnf := h3.free
    have hlw := h0.lt
    have hlw1 := h1.lt
    have hlw2 := h2.lt
    have hlB := h3.lt
    have hsv := shrinkS_vs A Y
    have done : ∀ (hres : leftR Y 12 0 X = (k, A)), True := fun _ => trivial
    by_cases hlt : k < 12
    · have hlt' : (k : Int) < 12 := by omega
      by_cases hz : A = 0
      · have hRS := Lib.hid (show leftR Y 12 0 X = (k, A) by rw [← hfl, left_stop Y k A (Or.inl hz)])
        have hd : decide (row (A) 0 = 0 ∧ row (A) 1 = 0 ∧ row (A) 2 = 0 ∧ row (A) 3 = 0 ∧ row (A) 4 = 0 ∧ row (A) 5 = 0) = true := by rw [decide_eq_true_eq, rows_zero A hV]; exact hz
        have hq0 := h2.c0
        have hq1 := h2.c1
        have hq2 := h2.c2
        have hq3 := h2.c3
        have hq4 := h2.c4
        have hq5 := h2.c5
        have hqf := h2.free
        clear hz hfl
        go_wp2
        go_region
        go_wp2
        exact bodyPost_ret (v := .tuple #[.int .i64 (k : Int), (.agg #[.int .i64 (row A 0), .int .i64 (row A 1), .int .i64 (row A 2), .int .i64 (row A 3), .int .i64 (row A 4), .int .i64 (row A 5)]), .bool true]) (by simp [results, Try.results30, go_sem, *]) rfl ⟨by rw [hRS.out], (by repeat (first | with_reducible exact Below.refl _ _ | with_reducible assumption | with_reducible refine Below.drew ?_ | with_reducible refine below_drewN ?_ _ | with_reducible refine Below.alloc ?_ ?_ _ | with_reducible refine Below.setCell ?_ ?_ _ | with_reducible refine Below.trans ?_ (Below.mono (by assumption) ?_) | omega | (simp <;> omega)))⟩
      · by_cases hs : shrinkS A Y = 0
        · have hRS := Lib.hid (show leftR Y 12 0 X = (k, A) by rw [← hfl, left_stop Y k A (Or.inr hs)])
          have hd : decide (row (A) 0 = 0 ∧ row (A) 1 = 0 ∧ row (A) 2 = 0 ∧ row (A) 3 = 0 ∧ row (A) 4 = 0 ∧ row (A) 5 = 0) = false := by rw [decide_eq_false_iff_not, rows_zero A hV]; exact hz
          have hd2 : decide (row (shrinkS A Y) 0 = 0 ∧ row (shrinkS A Y) 1 = 0 ∧ row (shrinkS A Y) 2 = 0 ∧ row (shrinkS A Y) 3 = 0 ∧ row (shrinkS A Y) 4 = 0 ∧ row (shrinkS A Y) 5 = 0) = true := by rw [decide_eq_true_eq, rows_zero _ hsv]; exact hs
          have hq0 := h2.c0
          have hq1 := h2.c1
          have hq2 := h2.c2
          have hq3 := h2.c3
          have hq4 := h2.c4
          have hq5 := h2.c5
          have hqf := h2.free
          clear hz hfl hs
          go_wp2
          go_region
          go_wp2
          exact bodyPost_ret (v := .tuple #[.int .i64 (k : Int), (.agg #[.int .i64 (row A 0), .int .i64 (row A 1), .int .i64 (row A 2), .int .i64 (row A 3), .int .i64 (row A 4), .int .i64 (row A 5)]), .bool true]) (by simp [results, Try.results30, go_sem, *]) rfl ⟨by rw [hRS.out], (by repeat (first | with_reducible exact Below.refl _ _ | with_reducible assumption | with_reducible refine Below.drew ?_ | with_reducible refine below_drewN ?_ _ | with_reducible refine Below.alloc ?_ ?_ _ | with_reducible refine Below.setCell ?_ ?_ _ | with_reducible refine Below.trans ?_ (Below.mono (by assumption) ?_) | omega | (simp <;> omega)))⟩
        · have hST := Lib.hid (show leftR Y (12 - (k + 1)) (k + 1) (shrinkS A Y) = leftR Y 12 0 X by rw [← hfl, left_step Y k A hlt hz hs])
          have hd : decide (row (A) 0 = 0 ∧ row (A) 1 = 0 ∧ row (A) 2 = 0 ∧ row (A) 3 = 0 ∧ row (A) 4 = 0 ∧ row (A) 5 = 0) = false := by rw [decide_eq_false_iff_not, rows_zero A hV]; exact hz
          have hd2 : decide (row (shrinkS A Y) 0 = 0 ∧ row (shrinkS A Y) 1 = 0 ∧ row (shrinkS A Y) 2 = 0 ∧ row (shrinkS A Y) 3 = 0 ∧ row (shrinkS A Y) 4 = 0 ∧ row (shrinkS A Y) 5 = 0) = false := by rw [decide_eq_false_iff_not, rows_zero _ hsv]; exact hs
          clear hz hfl hs
          go_wp2_with (go_at_call 47; (with_reducible refine (l5Shrink_any _ _ (by assumption) (by assumption) _).mono ?_); rintro e w1 ⟨rfl, hb⟩; obtain ⟨hc, hf, hT, hz⟩ := bfacts hb; (try simp only [World.size_alloc, World.size_setCell, World.size_drew, size_drewN] at hc hf hT hz); (try (have hzA := Nat.lt_of_succ_le hz)); (try (have hl0 : w.heap.size ≤ w1.heap.size := by omega)); (try (have hz0 : w.heap.size < w1.heap.size := by omega)); (try (have hz1 : w.heap.size + 1 < w1.heap.size := by omega)); (try (have hz2 : w.heap.size + 1 + 1 < w1.heap.size := by omega)); (try (have hz3 : w.heap.size + 1 + 1 + 1 < w1.heap.size := by omega)); (try (have hz4 : w.heap.size + 1 + 1 + 1 + 1 < w1.heap.size := by omega)))
          go_roundw
          case rel =>
            have g0 : HoldsA w1 25 (w.heap.size) (row (shrinkS A Y) 0) (row (shrinkS A Y) 1) (row (shrinkS A Y) 2) (row (shrinkS A Y) 3) (row (shrinkS A Y) 4) (row (shrinkS A Y) 5) := ((h0.store (row (shrinkS A Y) 0) (row (shrinkS A Y) 1) (row (shrinkS A Y) 2) (row (shrinkS A Y) 3) (row (shrinkS A Y) 4) (row (shrinkS A Y) 5)).alloc _).below hb (by simp; omega)
            have g1 : HoldsA w1 25 (w.heap.size + 1) (row Y 0) (row Y 1) (row Y 2) (row Y 3) (row Y 4) (row Y 5) := by (repeat (first | with_reducible assumption | (with_reducible refine HoldsA.made' ?_; (simp; done)) | with_reducible refine HoldsA.alloc ?_ _ | with_reducible refine HoldsA.drew ?_ | with_reducible refine HoldsA.drewN ?_ _ | (with_reducible refine HoldsA.far ?_ _ _ (by first | (simp; done) | (simp; omega))) | (with_reducible refine HoldsA.below ?_ (by with_reducible assumption) (by first | (simp; done) | (simp; omega) | omega))))
            have g2 : HoldsA w1 25 (w.heap.size + 1 + 1) 0 0 0 0 0 0 := by (repeat (first | with_reducible assumption | (with_reducible refine HoldsA.made' ?_; (simp; done)) | with_reducible refine HoldsA.alloc ?_ _ | with_reducible refine HoldsA.drew ?_ | with_reducible refine HoldsA.drewN ?_ _ | (with_reducible refine HoldsA.far ?_ _ _ (by first | (simp; done) | (simp; omega))) | (with_reducible refine HoldsA.below ?_ (by with_reducible assumption) (by first | (simp; done) | (simp; omega) | omega))))
            have gB : HoldsA w1 25 (wr.heap.size) (row (shrinkS A Y) 0) (row (shrinkS A Y) 1) (row (shrinkS A Y) 2) (row (shrinkS A Y) 3) (row (shrinkS A Y) 4) (row (shrinkS A Y) 5) := by (repeat (first | with_reducible assumption | (with_reducible refine HoldsA.made' ?_; (simp; done)) | with_reducible refine HoldsA.alloc ?_ _ | with_reducible refine HoldsA.drew ?_ | with_reducible refine HoldsA.drewN ?_ _ | (with_reducible refine HoldsA.far ?_ _ _ (by first | (simp; done) | (simp; omega))) | (with_reducible refine HoldsA.below ?_ (by with_reducible assumption) (by first | (simp; done) | (simp; omega) | omega))))
            have hBs : wr.heap.size ≤ w1.heap.size := by omega
            have hbs := hbw.size
            refine ⟨k + 1, shrinkS A Y, wr.heap.size, by omega, by go_num, rfl, by omega, hsv, ?_, ?_, ?_, ?_, ?_, hST.out⟩
            · have b1 : Below w.heap.size w w1 := by
                refine Below.trans ?_ (Below.mono hb (by simp; omega))
                exact (by repeat (first | with_reducible exact Below.refl _ _ | with_reducible assumption | with_reducible refine Below.drew ?_ | with_reducible refine below_drewN ?_ _ | with_reducible refine Below.alloc ?_ ?_ _ | with_reducible refine Below.setCell ?_ ?_ _ | with_reducible refine Below.trans ?_ (Below.mono (by assumption) ?_) | omega | (simp <;> omega)))
              exact (by repeat (first | with_reducible exact Below.refl _ _ | with_reducible assumption | with_reducible refine Below.drew ?_ | with_reducible refine below_drewN ?_ _ | with_reducible refine Below.alloc ?_ ?_ _ | with_reducible refine Below.setCell ?_ ?_ _ | with_reducible refine Below.trans ?_ (Below.mono (by assumption) ?_) | omega | (simp <;> omega)))
            · (repeat (first | with_reducible assumption | (with_reducible refine HoldsA.made' ?_; (simp; done)) | with_reducible refine HoldsA.alloc ?_ _ | with_reducible refine HoldsA.drew ?_ | with_reducible refine HoldsA.drewN ?_ _ | (with_reducible refine HoldsA.far ?_ _ _ (by first | (simp; done) | (simp; omega))) | (with_reducible refine HoldsA.below ?_ (by with_reducible assumption) (by first | (simp; done) | (simp; omega) | omega))))
            · (repeat (first | with_reducible assumption | (with_reducible refine HoldsA.made' ?_; (simp; done)) | with_reducible refine HoldsA.alloc ?_ _ | with_reducible refine HoldsA.drew ?_ | with_reducible refine HoldsA.drewN ?_ _ | (with_reducible refine HoldsA.far ?_ _ _ (by first | (simp; done) | (simp; omega))) | (with_reducible refine HoldsA.below ?_ (by with_reducible assumption) (by first | (simp; done) | (simp; omega) | omega))))
            · (repeat (first | with_reducible assumption | (with_reducible refine HoldsA.made' ?_; (simp; done)) | with_reducible refine HoldsA.alloc ?_ _ | with_reducible refine HoldsA.drew ?_ | with_reducible refine HoldsA.drewN ?_ _ | (with_reducible refine HoldsA.far ?_ _ _ (by first | (simp; done) | (simp; omega))) | (with_reducible refine HoldsA.below ?_ (by with_reducible assumption) (by first | (simp; done) | (simp; omega) | omega))))
            · exact gB.store (row (shrinkS (shrinkS A Y) Y) 0) (row (shrinkS (shrinkS A Y) Y) 1) (row (shrinkS (shrinkS A Y) Y) 2) (row (shrinkS (shrinkS A Y) Y) 3) (row (shrinkS (shrinkS A Y) Y) 4) (row (shrinkS (shrinkS A Y) Y) 5)
          case measure => simp [intOf]; omega
    · have hk12 : k = 12 := by omega
      subst hk12
      have hRS := Lib.hid (show leftR Y 12 0 X = (12, A) by rw [← hfl]; rfl)
      have hq0 := h2.c0
      have hq1 := h2.c1
      have hq2 := h2.c2
      have hq3 := h2.c3
      have hq4 := h2.c4
      have hq5 := h2.c5
      have hqf := h2.free
      clear hfl
      go_wp2
      go_region
      go_wp2
      exact bodyPost_ret (v := .tuple #[.int .i64 12, (.agg #[.int .i64 (row A 0), .int .i64 (row A 1), .int .i64 (row A 2), .int .i64 (row A 3), .int .i64 (row A 4), .int .i64 (row A 5)]), .bool true]) (by simp [results, Try.results30, go_sem, *]) rfl ⟨by rw [hRS.out]; rfl, (by repeat (first | with_reducible exact Below.refl _ _ | with_reducible assumption | with_reducible refine Below.drew ?_ | with_reducible refine below_drewN ?_ _ | with_reducible refine Below.alloc ?_ ?_ _ | with_reducible refine Below.setCell ?_ ?_ _ | with_reducible refine Below.trans ?_ (Below.mono (by assumption) ?_) | omega | (simp <;> omega)))⟩

set_option maxRecDepth 100000 in
theorem specShrinkLeft_no (a0 a1 a2 a3 a4 a5 b0 b1 b2 b3 b4 b5 : Int) (hn : ¬ (Ok6 a0 a1 a2 a3 a4 a5 ∧ Ok6 b0 b1 b2 b3 b4 b5)) (w : World) :
    Calls Try.prog 30 #[(.agg #[.int .i64 a0, .int .i64 a1, .int .i64 a2, .int .i64 a3, .int .i64 a4, .int .i64 a5]), (.agg #[.int .i64 b0, .int .i64 b1, .int .i64 b2, .int .i64 b3, .int .i64 b4, .int .i64 b5])] w fun e w' => e = .returned (.tuple #[.int .i64 0, .agg #[.int .i64 0, .int .i64 0, .int .i64 0, .int .i64 0, .int .i64 0, .int .i64 0], .bool false]) ∧ Below w.heap.size w w' := by
  by_cases ha : Ok6 a0 a1 a2 a3 a4 a5
  · have hb : ¬ Ok6 b0 b1 b2 b3 b4 b5 := fun h => hn ⟨ha, h⟩
    clear hn
    obtain ⟨X, hX, rfl, rfl, rfl, rfl, rfl, rfl⟩ := set_of_rows a0 a1 a2 a3 a4 a5 ha.1 ha.2.1 ha.2.2.1 ha.2.2.2.1 ha.2.2.2.2.1 ha.2.2.2.2.2
    clear ha
    go_enter Try.func30, Try.ntmps30
    go_wp2_with (go_at_call 38; (first | (with_reducible refine (l2Sheet_ok _ _).mono ?_) | (with_reducible refine (l2Sheet_no _ _ _ _ _ _ (by assumption) _).mono ?_)); rintro e w1 ⟨rfl, hb⟩; obtain ⟨hc, hf, hT, hz⟩ := bfacts hb; (try simp only [World.size_alloc, World.size_setCell, World.size_drew, size_drewN] at hc hf hT hz); (try (have hzA := Nat.lt_of_succ_le hz)); (try (have hl0 : w.heap.size ≤ w1.heap.size := by omega)); (try (have hz0 : w.heap.size < w1.heap.size := by omega)); (try (have hz1 : w.heap.size + 1 < w1.heap.size := by omega)); (try (have hz2 : w.heap.size + 1 + 1 < w1.heap.size := by omega)); (try (have hz3 : w.heap.size + 1 + 1 + 1 < w1.heap.size := by omega)); (try (have hz4 : w.heap.size + 1 + 1 + 1 + 1 < w1.heap.size := by omega)))
    exact bodyPost_ret (v := .tuple #[.int .i64 0, .agg #[.int .i64 0, .int .i64 0, .int .i64 0, .int .i64 0, .int .i64 0, .int .i64 0], .bool false]) (by simp [results, Try.results30, go_sem, *]) rfl ⟨rfl, (by repeat (first | with_reducible exact Below.refl _ _ | with_reducible assumption | with_reducible refine Below.drew ?_ | with_reducible refine below_drewN ?_ _ | with_reducible refine Below.alloc ?_ ?_ _ | with_reducible refine Below.setCell ?_ ?_ _ | with_reducible refine Below.trans ?_ (Below.mono (by assumption) ?_) | omega | (simp <;> omega)))⟩
  · clear hn
    go_enter Try.func30, Try.ntmps30
    go_wp2_with (go_at_call 38; (with_reducible refine (l2Sheet_no _ _ _ _ _ _ (by assumption) _).mono ?_); rintro e w1 ⟨rfl, hb⟩; obtain ⟨hc, hf, hT, hz⟩ := bfacts hb; (try simp only [World.size_alloc, World.size_setCell, World.size_drew, size_drewN] at hc hf hT hz); (try (have hzA := Nat.lt_of_succ_le hz)); (try (have hl0 : w.heap.size ≤ w1.heap.size := by omega)); (try (have hz0 : w.heap.size < w1.heap.size := by omega)); (try (have hz1 : w.heap.size + 1 < w1.heap.size := by omega)); (try (have hz2 : w.heap.size + 1 + 1 < w1.heap.size := by omega)); (try (have hz3 : w.heap.size + 1 + 1 + 1 < w1.heap.size := by omega)); (try (have hz4 : w.heap.size + 1 + 1 + 1 + 1 < w1.heap.size := by omega)))
    exact bodyPost_ret (v := .tuple #[.int .i64 0, .agg #[.int .i64 0, .int .i64 0, .int .i64 0, .int .i64 0, .int .i64 0, .int .i64 0], .bool false]) (by simp [results, Try.results30, go_sem, *]) rfl ⟨rfl, (by repeat (first | with_reducible exact Below.refl _ _ | with_reducible assumption | with_reducible refine Below.drew ?_ | with_reducible refine below_drewN ?_ _ | with_reducible refine Below.alloc ?_ ?_ _ | with_reducible refine Below.setCell ?_ ?_ _ | with_reducible refine Below.trans ?_ (Below.mono (by assumption) ?_) | omega | (simp <;> omega)))⟩

def S2Rel (X Y : Nat) (w : World) (x i : Value) (wr : World) : Prop :=
  ∃ k A : Nat, k ≤ 12 ∧ i = .int .i64 (k : Int) ∧ x = .int .u64 (A : Int) ∧ Vs A ∧ Below w.heap.size w wr ∧ HoldsA wr 25 (w.heap.size + 1 + 1) 0 0 0 0 0 0 ∧ leftR Y (12 - k) k A = leftR Y 12 0 X
set_option maxRecDepth 100000 in
set_option maxHeartbeats 800000 in
theorem implShrinkLeft_ok (X Y : Nat) (hX : Vs X) (hY : Vs Y) (w : World) : Calls Try.prog 31 #[(.agg #[.int .i64 (row X 0), .int .i64 (row X 1), .int .i64 (row X 2), .int .i64 (row X 3), .int .i64 (row X 4), .int .i64 (row X 5)]), (.agg #[.int .i64 (row Y 0), .int .i64 (row Y 1), .int .i64 (row Y 2), .int .i64 (row Y 3), .int .i64 (row Y 4), .int .i64 (row Y 5)])] w fun e w' => e = .returned (.tuple #[.int .i64 (((leftR Y 12 0 X).1 : Nat) : Int), (.agg #[.int .i64 (row ((leftR Y 12 0 X).2) 0), .int .i64 (row ((leftR Y 12 0 X).2) 1), .int .i64 (row ((leftR Y 12 0 X).2) 2), .int .i64 (row ((leftR Y 12 0 X).2) 3), .int .i64 (row ((leftR Y 12 0 X).2) 4), .int .i64 (row ((leftR Y 12 0 X).2) 5)]), .bool true]) ∧ Below w.heap.size w w' := by
  go_enter Try.func31, Try.ntmps31
  go_wp2_with (go_at_call 52; (with_reducible refine (twoSets_ok _ _ (by assumption) (by assumption) _).mono ?_); rintro e w1 ⟨rfl, hb⟩; obtain ⟨hc, hf, hT, hz⟩ := bfacts hb; (try simp only [World.size_alloc, World.size_setCell, World.size_drew, size_drewN] at hc hf hT hz); (try (have hzA := Nat.lt_of_succ_le hz)); (try (have hl0 : w.heap.size ≤ w1.heap.size := by omega)); (try (have hz0 : w.heap.size < w1.heap.size := by omega)); (try (have hz1 : w.heap.size + 1 < w1.heap.size := by omega)); (try (have hz2 : w.heap.size + 1 + 1 < w1.heap.size := by omega)); (try (have hz3 : w.heap.size + 1 + 1 + 1 < w1.heap.size := by omega)); (try (have hz4 : w.heap.size + 1 + 1 + 1 + 1 < w1.heap.size := by omega)))
  go_loopw [7, 10, 11] (fun x i _ wr => S2Rel X Y w x i wr) (fun _ i _ _ => 12 - (intOf i).toNat)
  case atStart =>
    refine ⟨0, X, Nat.zero_le _, rfl, rfl, hX, (by repeat (first | with_reducible exact Below.refl _ _ | with_reducible assumption | with_reducible refine Below.drew ?_ | with_reducible refine below_drewN ?_ _ | with_reducible refine Below.alloc ?_ ?_ _ | with_reducible refine Below.setCell ?_ ?_ _ | with_reducible refine Below.trans ?_ (Below.mono (by assumption) ?_) | omega | (simp <;> omega))), ?_, rfl⟩
    (repeat (first | with_reducible assumption | (with_reducible refine HoldsA.made' ?_; (simp; done)) | with_reducible refine HoldsA.alloc ?_ _ | with_reducible refine HoldsA.drew ?_ | with_reducible refine HoldsA.drewN ?_ _ | (with_reducible refine HoldsA.far ?_ _ _ (by first | (simp; done) | (simp; omega))) | (with_reducible refine HoldsA.below ?_ (by with_reducible assumption) (by first | (simp; done) | (simp; omega) | omega))))
  case round =>
    obtain ⟨k, A, hk, rfl, rfl, hV, hbw, h2, hfl⟩ := hrel
    have hq0 := h2.c0
    have hq1 := h2.c1
    have hq2 := h2.c2
    have hq3 := h2.c3
    have hq4 := h2.c4
    have hq5 := h2.c5
    have hqf := h2.free
    have hlw2 := h2.lt
    have hsv := shrinkS_vs A Y
    by_cases hz : A = 0
    · have hRS := Lib.hid (show leftR Y 12 0 X = (k, A) by rw [← hfl, left_stop Y k A (Or.inl hz)])
      clear hfl
      subst hz
      have hS0 : ∀ w, Calls Try.prog 45 #[.int .u64 0] w fun e w' => e = .returned (.agg #[.int .i64 (row 0 0), .int .i64 (row 0 1), .int .i64 (row 0 2), .int .i64 (row 0 3), .int .i64 (row 0 4), .int .i64 (row 0 5)]) ∧ Below w.heap.size w w' := fun w => sheet_any 0 hV w
      go_wp2_with (go_at_call 45; (with_reducible refine (hS0 _).mono ?_); rintro e w1 ⟨rfl, hb⟩; obtain ⟨hc, hf, hT, hz⟩ := bfacts hb; (try simp only [World.size_alloc, World.size_setCell, World.size_drew, size_drewN] at hc hf hT hz); (try (have hzA := Nat.lt_of_succ_le hz)); (try (have hl0 : w.heap.size ≤ w1.heap.size := by omega)); (try (have hz0 : w.heap.size < w1.heap.size := by omega)); (try (have hz1 : w.heap.size + 1 < w1.heap.size := by omega)); (try (have hz2 : w.heap.size + 1 + 1 < w1.heap.size := by omega)); (try (have hz3 : w.heap.size + 1 + 1 + 1 < w1.heap.size := by omega)); (try (have hz4 : w.heap.size + 1 + 1 + 1 + 1 < w1.heap.size := by omega)))
      exact bodyPost_ret (v := .tuple #[.int .i64 (k : Int), (.agg #[.int .i64 (row 0 0), .int .i64 (row 0 1), .int .i64 (row 0 2), .int .i64 (row 0 3), .int .i64 (row 0 4), .int .i64 (row 0 5)]), .bool true]) (by simp [results, Try.results31, go_sem, *]) rfl ⟨by rw [hRS.out], (by repeat (first | with_reducible exact Below.refl _ _ | with_reducible assumption | with_reducible refine Below.drew ?_ | with_reducible refine below_drewN ?_ _ | with_reducible refine Below.alloc ?_ ?_ _ | with_reducible refine Below.setCell ?_ ?_ _ | with_reducible refine Below.trans ?_ (Below.mono (by assumption) ?_) | omega | (simp <;> omega)))⟩
    · have hzi : ¬ (A : Int) = 0 := by omega
      by_cases hlt : k < 12
      · have hlt' : (k : Int) < 12 := by omega
        by_cases hs : shrinkS A Y = 0
        · have hRS := Lib.hid (show leftR Y 12 0 X = (k, A) by rw [← hfl, left_stop Y k A (Or.inr hs)])
          have hsh := shrunk_any A Y hV hY
          rw [hs] at hsh
          have hSH := Lib.hid hsh
          clear hfl hsh hs
          go_wp2_with (first | (go_at_call 49; (with_reducible refine (hSH.out _).mono ?_); rintro e w1 ⟨rfl, hb⟩; obtain ⟨hc, hf, hT, hz⟩ := bfacts hb; (try simp only [World.size_alloc, World.size_setCell, World.size_drew, size_drewN] at hc hf hT hz); (try (have hzA := Nat.lt_of_succ_le hz)); (try (have hl0 : w.heap.size ≤ w1.heap.size := by omega)); (try (have hz0 : w.heap.size < w1.heap.size := by omega)); (try (have hz1 : w.heap.size + 1 < w1.heap.size := by omega)); (try (have hz2 : w.heap.size + 1 + 1 < w1.heap.size := by omega)); (try (have hz3 : w.heap.size + 1 + 1 + 1 < w1.heap.size := by omega)); (try (have hz4 : w.heap.size + 1 + 1 + 1 + 1 < w1.heap.size := by omega))) | (go_at_call 45; (with_reducible refine (sheet_any _ (by assumption) _).mono ?_); rintro e w1 ⟨rfl, hb⟩; obtain ⟨hc, hf, hT, hz⟩ := bfacts hb; (try simp only [World.size_alloc, World.size_setCell, World.size_drew, size_drewN] at hc hf hT hz); (try (have hzA := Nat.lt_of_succ_le hz)); (try (have hl0 : w.heap.size ≤ w1.heap.size := by omega)); (try (have hz0 : w.heap.size < w1.heap.size := by omega)); (try (have hz1 : w.heap.size + 1 < w1.heap.size := by omega)); (try (have hz2 : w.heap.size + 1 + 1 < w1.heap.size := by omega)); (try (have hz3 : w.heap.size + 1 + 1 + 1 < w1.heap.size := by omega)); (try (have hz4 : w.heap.size + 1 + 1 + 1 + 1 < w1.heap.size := by omega))))
          exact bodyPost_ret (v := .tuple #[.int .i64 (k : Int), (.agg #[.int .i64 (row A 0), .int .i64 (row A 1), .int .i64 (row A 2), .int .i64 (row A 3), .int .i64 (row A 4), .int .i64 (row A 5)]), .bool true]) (by simp [results, Try.results31, go_sem, *]) rfl ⟨by rw [hRS.out], (by repeat (first | with_reducible exact Below.refl _ _ | with_reducible assumption | with_reducible refine Below.drew ?_ | with_reducible refine below_drewN ?_ _ | with_reducible refine Below.alloc ?_ ?_ _ | with_reducible refine Below.setCell ?_ ?_ _ | with_reducible refine Below.trans ?_ (Below.mono (by assumption) ?_) | omega | (simp <;> omega)))⟩
        · have hST := Lib.hid (show leftR Y (12 - (k + 1)) (k + 1) (shrinkS A Y) = leftR Y 12 0 X by rw [← hfl, left_step Y k A hlt hz hs])
          have hsi : ¬ ((shrinkS A Y : Nat) : Int) = 0 := by omega
          clear hfl
          go_wp2_with (go_at_call 49; (with_reducible refine (shrunk_any _ _ hV hY _).mono ?_); rintro e w1 ⟨rfl, hb⟩; obtain ⟨hc, hf, hT, hz⟩ := bfacts hb; (try simp only [World.size_alloc, World.size_setCell, World.size_drew, size_drewN] at hc hf hT hz); (try (have hzA := Nat.lt_of_succ_le hz)); (try (have hl0 : w.heap.size ≤ w1.heap.size := by omega)); (try (have hz0 : w.heap.size < w1.heap.size := by omega)); (try (have hz1 : w.heap.size + 1 < w1.heap.size := by omega)); (try (have hz2 : w.heap.size + 1 + 1 < w1.heap.size := by omega)); (try (have hz3 : w.heap.size + 1 + 1 + 1 < w1.heap.size := by omega)); (try (have hz4 : w.heap.size + 1 + 1 + 1 + 1 < w1.heap.size := by omega)))
          go_roundw
          case rel =>
            refine ⟨k + 1, _, by omega, by go_num, rfl, hsv, hbw.trans (hb.mono hbw.size), ?_, hST.out⟩
            (repeat (first | with_reducible assumption | (with_reducible refine HoldsA.made' ?_; (simp; done)) | with_reducible refine HoldsA.alloc ?_ _ | with_reducible refine HoldsA.drew ?_ | with_reducible refine HoldsA.drewN ?_ _ | (with_reducible refine HoldsA.far ?_ _ _ (by first | (simp; done) | (simp; omega))) | (with_reducible refine HoldsA.below ?_ (by with_reducible assumption) (by first | (simp; done) | (simp; omega) | omega))))
          case measure => simp [intOf]; omega
      · have hk12 : k = 12 := by omega
        subst hk12
        have hRS := Lib.hid (show leftR Y 12 0 X = (12, A) by rw [← hfl]; rfl)
        clear hfl
        go_wp2_with (go_at_call 45; (with_reducible refine (sheet_any _ (by assumption) _).mono ?_); rintro e w1 ⟨rfl, hb⟩; obtain ⟨hc, hf, hT, hz⟩ := bfacts hb; (try simp only [World.size_alloc, World.size_setCell, World.size_drew, size_drewN] at hc hf hT hz); (try (have hzA := Nat.lt_of_succ_le hz)); (try (have hl0 : w.heap.size ≤ w1.heap.size := by omega)); (try (have hz0 : w.heap.size < w1.heap.size := by omega)); (try (have hz1 : w.heap.size + 1 < w1.heap.size := by omega)); (try (have hz2 : w.heap.size + 1 + 1 < w1.heap.size := by omega)); (try (have hz3 : w.heap.size + 1 + 1 + 1 < w1.heap.size := by omega)); (try (have hz4 : w.heap.size + 1 + 1 + 1 + 1 < w1.heap.size := by omega)))
        exact bodyPost_ret (v := .tuple #[.int .i64 12, (.agg #[.int .i64 (row A 0), .int .i64 (row A 1), .int .i64 (row A 2), .int .i64 (row A 3), .int .i64 (row A 4), .int .i64 (row A 5)]), .bool true]) (by simp [results, Try.results31, go_sem, *]) rfl ⟨by rw [hRS.out]; rfl, (by repeat (first | with_reducible exact Below.refl _ _ | with_reducible assumption | with_reducible refine Below.drew ?_ | with_reducible refine below_drewN ?_ _ | with_reducible refine Below.alloc ?_ ?_ _ | with_reducible refine Below.setCell ?_ ?_ _ | with_reducible refine Below.trans ?_ (Below.mono (by assumption) ?_) | omega | (simp <;> omega)))⟩

set_option maxRecDepth 100000 in
theorem implShrinkLeft_no (a0 a1 a2 a3 a4 a5 b0 b1 b2 b3 b4 b5 : Int) (hn : ¬ (Ok6 a0 a1 a2 a3 a4 a5 ∧ Ok6 b0 b1 b2 b3 b4 b5)) (w : World) :
    Calls Try.prog 31 #[(.agg #[.int .i64 a0, .int .i64 a1, .int .i64 a2, .int .i64 a3, .int .i64 a4, .int .i64 a5]), (.agg #[.int .i64 b0, .int .i64 b1, .int .i64 b2, .int .i64 b3, .int .i64 b4, .int .i64 b5])] w fun e w' => e = .returned (.tuple #[.int .i64 0, .agg #[.int .i64 0, .int .i64 0, .int .i64 0, .int .i64 0, .int .i64 0, .int .i64 0], .bool false]) ∧ Below w.heap.size w w' := by
  go_enter Try.func31, Try.ntmps31
  go_wp2_with (go_at_call 52; (with_reducible refine (twoSets_no _ _ _ _ _ _ _ _ _ _ _ _ (by assumption) _).mono ?_); rintro e w1 ⟨x1, y1, rfl, hb⟩; obtain ⟨hc, hf, hT, hz⟩ := bfacts hb; (try simp only [World.size_alloc, World.size_setCell, World.size_drew, size_drewN] at hc hf hT hz); (try (have hzA := Nat.lt_of_succ_le hz)); (try (have hl0 : w.heap.size ≤ w1.heap.size := by omega)); (try (have hz0 : w.heap.size < w1.heap.size := by omega)); (try (have hz1 : w.heap.size + 1 < w1.heap.size := by omega)); (try (have hz2 : w.heap.size + 1 + 1 < w1.heap.size := by omega)); (try (have hz3 : w.heap.size + 1 + 1 + 1 < w1.heap.size := by omega)); (try (have hz4 : w.heap.size + 1 + 1 + 1 + 1 < w1.heap.size := by omega)))
  exact bodyPost_ret (v := .tuple #[.int .i64 0, .agg #[.int .i64 0, .int .i64 0, .int .i64 0, .int .i64 0, .int .i64 0, .int .i64 0], .bool false]) (by simp [results, Try.results31, go_sem, *]) rfl ⟨rfl, (by repeat (first | with_reducible exact Below.refl _ _ | with_reducible assumption | with_reducible refine Below.drew ?_ | with_reducible refine below_drewN ?_ _ | with_reducible refine Below.alloc ?_ ?_ _ | with_reducible refine Below.setCell ?_ ?_ _ | with_reducible refine Below.trans ?_ (Below.mono (by assumption) ?_) | omega | (simp <;> omega)))⟩
end Go.Proofs.Ytphnkkblgbfncaa
