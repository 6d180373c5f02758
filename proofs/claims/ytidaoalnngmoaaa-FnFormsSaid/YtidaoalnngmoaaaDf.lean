/-
  Contracts on the turn that leads back, of the program and of the reference. No conditions.
-/
import Derived.Test.YtidaoalnngmoaaaDe
namespace Go.Proofs.Ytidaoalnngmoaaa
open Go.RowKit
set_option linter.unusedSimpArgs false
set_option linter.unusedVariables false

set_option maxRecDepth 100000 in
set_option maxHeartbeats 1600000 in
theorem l3Back_any (a : Nat) (ha : a < 8) (w : World) : Calls Try.prog 75 #[.int .i64 (a : Int)] w fun e w' => e = .returned (.int .i64 ((bkN a : Nat) : Int)) ∧ Below w.heap.size w w' := by
  obtain ⟨j, ej⟩ : ∃ j, j = bkN a := ⟨_, rfl⟩
  have hj : j < 8 := by rw [ej]; exact bkN_lt a ha
  have hTa := Lib.hid (l3Turn_any 75 a vs75 ha)
  have hz : ∀ m, m < 8 → (tbN a m = 0 ↔ m = j) := by rw [ej]; exact tbN_zero a ha
  have hZ := Lib.hid hz
  rw [← ej]
  clear ej hz
  go_enter Try.func75, Try.ntmps75
  go_wp2
  go_loopw [3] (TbRel j w) (fun i _ => j - (intOf i).toNat)
  case atStart => exact ⟨0, Nat.zero_le _, rfl, (by repeat (first | with_reducible exact Below.refl _ _ | with_reducible assumption | with_reducible refine Below.drew ?_ | with_reducible refine below_drewN ?_ _ | with_reducible refine Below.alloc ?_ ?_ _ | with_reducible refine Below.setCell ?_ ?_ _ | with_reducible refine Below.trans ?_ (Below.mono (by assumption) ?_) | omega | (simp <;> omega)))⟩
  case round =>
    obtain ⟨k, hk, rfl, hbw⟩ := hrel
    have hbsz := hbw.size
    have hk8 : k < 8 := by omega
    by_cases hlt : k < j
    · have hUa := Lib.hid (l3Turn_again a k 75 ha hk8)
      have hd := rows_no (turnS (tbN a k) 75) 75 (turnS_vs _ _) vs75 (fun h => by
        have h0 := turnS_zero 75 vs75
        have h1 := marked_inj (tbN a k) (tbN_lt a k) 0 (by omega) (by rw [h0]; exact h)
        have := (hZ.out k hk8).1 h1
        omega)
      go_wp2_with (first | (go_at_call 72; (with_reducible refine (l3Marked_any _).mono ?_); rintro e w1 ⟨rfl, hb⟩; obtain ⟨hc, hf, hT, hz⟩ := bfacts hb; (try simp only [World.size_alloc, World.size_setCell, World.size_drew, size_drewN] at hc hf hT hz); (try (have hzA := Nat.lt_of_succ_le hz)); (try (have hl0 : w.heap.size ≤ w1.heap.size := by omega)); (try (have hz0 : w.heap.size < w1.heap.size := by omega)); (try (have hz1 : w.heap.size + 1 < w1.heap.size := by omega)); (try (have hz2 : w.heap.size + 1 + 1 < w1.heap.size := by omega)); (try (have hz3 : w.heap.size + 1 + 1 + 1 < w1.heap.size := by omega)); (try (have hz4 : w.heap.size + 1 + 1 + 1 + 1 < w1.heap.size := by omega))) | (go_at_call 71; (first | (with_reducible refine (hTa.out _).mono ?_) | (with_reducible refine (hUa.out _).mono ?_)); rintro e w1 ⟨rfl, hb⟩; obtain ⟨hc, hf, hT, hz⟩ := bfacts hb; (try simp only [World.size_alloc, World.size_setCell, World.size_drew, size_drewN] at hc hf hT hz); (try (have hzA := Nat.lt_of_succ_le hz)); (try (have hl0 : w.heap.size ≤ w1.heap.size := by omega)); (try (have hz0 : w.heap.size < w1.heap.size := by omega)); (try (have hz1 : w.heap.size + 1 < w1.heap.size := by omega)); (try (have hz2 : w.heap.size + 1 + 1 < w1.heap.size := by omega)); (try (have hz3 : w.heap.size + 1 + 1 + 1 < w1.heap.size := by omega)); (try (have hz4 : w.heap.size + 1 + 1 + 1 + 1 < w1.heap.size := by omega))))
      all_goals
        go_wp2
        go_roundw
        case rel => exact ⟨k + 1, by omega, by go_num, (by repeat (first | with_reducible exact Below.refl _ _ | with_reducible assumption | with_reducible refine Below.drew ?_ | with_reducible refine below_drewN ?_ _ | with_reducible refine Below.alloc ?_ ?_ _ | with_reducible refine Below.setCell ?_ ?_ _ | with_reducible refine Below.trans ?_ (Below.mono (by assumption) ?_) | omega | (simp <;> omega)))⟩
        case measure => simp [intOf]; omega
    · have e : k = j := by omega
      subst e
      have hu := l3Turn_again a k 75 ha hk8
      rw [(hZ.out k hk8).2 rfl, turnS_zero 75 vs75] at hu
      have hUa := Lib.hid hu
      clear hu
      go_wp2_with (first | (go_at_call 72; (with_reducible refine (l3Marked_any _).mono ?_); rintro e w1 ⟨rfl, hb⟩; obtain ⟨hc, hf, hT, hz⟩ := bfacts hb; (try simp only [World.size_alloc, World.size_setCell, World.size_drew, size_drewN] at hc hf hT hz); (try (have hzA := Nat.lt_of_succ_le hz)); (try (have hl0 : w.heap.size ≤ w1.heap.size := by omega)); (try (have hz0 : w.heap.size < w1.heap.size := by omega)); (try (have hz1 : w.heap.size + 1 < w1.heap.size := by omega)); (try (have hz2 : w.heap.size + 1 + 1 < w1.heap.size := by omega)); (try (have hz3 : w.heap.size + 1 + 1 + 1 < w1.heap.size := by omega)); (try (have hz4 : w.heap.size + 1 + 1 + 1 + 1 < w1.heap.size := by omega))) | (go_at_call 71; (first | (with_reducible refine (hTa.out _).mono ?_) | (with_reducible refine (hUa.out _).mono ?_)); rintro e w1 ⟨rfl, hb⟩; obtain ⟨hc, hf, hT, hz⟩ := bfacts hb; (try simp only [World.size_alloc, World.size_setCell, World.size_drew, size_drewN] at hc hf hT hz); (try (have hzA := Nat.lt_of_succ_le hz)); (try (have hl0 : w.heap.size ≤ w1.heap.size := by omega)); (try (have hz0 : w.heap.size < w1.heap.size := by omega)); (try (have hz1 : w.heap.size + 1 < w1.heap.size := by omega)); (try (have hz2 : w.heap.size + 1 + 1 < w1.heap.size := by omega)); (try (have hz3 : w.heap.size + 1 + 1 + 1 < w1.heap.size := by omega)); (try (have hz4 : w.heap.size + 1 + 1 + 1 + 1 < w1.heap.size := by omega))))
      all_goals
        go_wp2
        go_ret
        exact ⟨by simp, (by repeat (first | with_reducible exact Below.refl _ _ | with_reducible assumption | with_reducible refine Below.drew ?_ | with_reducible refine below_drewN ?_ _ | with_reducible refine Below.alloc ?_ ?_ _ | with_reducible refine Below.setCell ?_ ?_ _ | with_reducible refine Below.trans ?_ (Below.mono (by assumption) ?_) | omega | (simp <;> omega)))⟩

set_option maxRecDepth 100000 in
theorem turnBack_any (a : Nat) (ha : a < 8) (w : World) : Calls Try.prog 76 #[.int .i64 (a : Int)] w fun e w' => e = .returned (.int .i64 ((bkN a : Nat) : Int)) ∧ Below w.heap.size w w' := by
  obtain ⟨j, ej⟩ : ∃ j, j = bkN a := ⟨_, rfl⟩
  have hj : j < 8 := by rw [ej]; exact bkN_lt a ha
  have hz : ∀ m, m < 8 → (tbN a m = 0 ↔ m = j) := by rw [ej]; exact tbN_zero a ha
  have hZ := Lib.hid hz
  rw [← ej]
  clear ej hz
  go_enter Try.func76, Try.ntmps76
  go_wp2
  go_loopw [3] (TbRel j w) (fun i _ => j - (intOf i).toNat)
  case atStart => exact ⟨0, Nat.zero_le _, rfl, (by repeat (first | with_reducible exact Below.refl _ _ | with_reducible assumption | with_reducible refine Below.drew ?_ | with_reducible refine below_drewN ?_ _ | with_reducible refine Below.alloc ?_ ?_ _ | with_reducible refine Below.setCell ?_ ?_ _ | with_reducible refine Below.trans ?_ (Below.mono (by assumption) ?_) | omega | (simp <;> omega)))⟩
  case round =>
    obtain ⟨k, hk, rfl, hbw⟩ := hrel
    have hbsz := hbw.size
    have hk8 : k < 8 := by omega
    by_cases hlt : k < j
    · have hne : tbN a k ≠ 0 := fun h => by have := (hZ.out k hk8).1 h; omega
      have hne' : ¬ (((tbN a k : Nat) : Int) = 0) := by omega
      have hd : (((tbN a k : Nat) : Int) == 0) = false := by rw [beq_eq_false_iff_ne]; exact hne'
      clear hne
      go_wp2_with (go_at_call 74; (with_reducible refine (turnBehind_any a k ha hk8 _).mono ?_); rintro e w1 ⟨rfl, hb⟩; obtain ⟨hc, hf, hT, hz⟩ := bfacts hb; (try simp only [World.size_alloc, World.size_setCell, World.size_drew, size_drewN] at hc hf hT hz); (try (have hzA := Nat.lt_of_succ_le hz)); (try (have hl0 : w.heap.size ≤ w1.heap.size := by omega)); (try (have hz0 : w.heap.size < w1.heap.size := by omega)); (try (have hz1 : w.heap.size + 1 < w1.heap.size := by omega)); (try (have hz2 : w.heap.size + 1 + 1 < w1.heap.size := by omega)); (try (have hz3 : w.heap.size + 1 + 1 + 1 < w1.heap.size := by omega)); (try (have hz4 : w.heap.size + 1 + 1 + 1 + 1 < w1.heap.size := by omega)))
      go_roundw
      case rel => exact ⟨k + 1, by omega, by go_num, hbw.trans (hb.mono hbw.size)⟩
      case measure => simp [intOf]; omega
    · have e : k = j := by omega
      subst e
      have hu := turnBehind_any a k ha hk8
      rw [(hZ.out k hk8).2 rfl] at hu
      have hUa := Lib.hid hu
      clear hu
      go_wp2_with (go_at_call 74; (with_reducible refine (hUa.out _).mono ?_); rintro e w1 ⟨rfl, hb⟩; obtain ⟨hc, hf, hT, hz⟩ := bfacts hb; (try simp only [World.size_alloc, World.size_setCell, World.size_drew, size_drewN] at hc hf hT hz); (try (have hzA := Nat.lt_of_succ_le hz)); (try (have hl0 : w.heap.size ≤ w1.heap.size := by omega)); (try (have hz0 : w.heap.size < w1.heap.size := by omega)); (try (have hz1 : w.heap.size + 1 < w1.heap.size := by omega)); (try (have hz2 : w.heap.size + 1 + 1 < w1.heap.size := by omega)); (try (have hz3 : w.heap.size + 1 + 1 + 1 < w1.heap.size := by omega)); (try (have hz4 : w.heap.size + 1 + 1 + 1 + 1 < w1.heap.size := by omega)))
      go_ret
      exact ⟨rfl, (by repeat (first | with_reducible exact Below.refl _ _ | with_reducible assumption | with_reducible refine Below.drew ?_ | with_reducible refine below_drewN ?_ _ | with_reducible refine Below.alloc ?_ ?_ _ | with_reducible refine Below.setCell ?_ ?_ _ | with_reducible refine Below.trans ?_ (Below.mono (by assumption) ?_) | omega | (simp <;> omega)))⟩

set_option maxRecDepth 100000 in
theorem specTurnBack_ok (k : Nat) (hk : k < 8) (w : World) : Calls Try.prog 22 #[.int .i64 (k : Int)] w fun e w' => e = .returned (.tuple #[.int .i64 ((bkN k : Nat) : Int), .bool true]) ∧ Below w.heap.size w w' := by
  have hl := l3Turns_any (k : Int)
  rw [show decide ((0 : Int) ≤ (k : Int) ∧ (k : Int) < 8) = true by rw [decide_eq_true_eq]; omega] at hl
  have hL := Lib.hid hl
  have hN := Lib.hid (l3Back_any k hk)
  clear hl
  go_enter Try.func22, Try.ntmps22
  go_wp2_with (first | (go_at_call 69; (with_reducible refine (hL.out _).mono ?_); rintro e w1 ⟨rfl, rfl⟩) | (go_at_call 75; (with_reducible refine (hN.out _).mono ?_); rintro e w1 ⟨rfl, hb⟩; obtain ⟨hc, hf, hT, hz⟩ := bfacts hb; (try simp only [World.size_alloc, World.size_setCell, World.size_drew, size_drewN] at hc hf hT hz); (try (have hzA := Nat.lt_of_succ_le hz)); (try (have hl0 : w.heap.size ≤ w1.heap.size := by omega)); (try (have hz0 : w.heap.size < w1.heap.size := by omega)); (try (have hz1 : w.heap.size + 1 < w1.heap.size := by omega)); (try (have hz2 : w.heap.size + 1 + 1 < w1.heap.size := by omega)); (try (have hz3 : w.heap.size + 1 + 1 + 1 < w1.heap.size := by omega)); (try (have hz4 : w.heap.size + 1 + 1 + 1 + 1 < w1.heap.size := by omega))))
  go_ret2
  exact ⟨by simp, (by repeat (first | with_reducible exact Below.refl _ _ | with_reducible assumption | with_reducible refine Below.drew ?_ | with_reducible refine below_drewN ?_ _ | with_reducible refine Below.alloc ?_ ?_ _ | with_reducible refine Below.setCell ?_ ?_ _ | with_reducible refine Below.trans ?_ (Below.mono (by assumption) ?_) | omega | (simp <;> omega)))⟩
theorem specTurnBack_no (k : Int) (hn : ¬ (0 ≤ k ∧ k < 8)) (w : World) : Calls Try.prog 22 #[.int .i64 k] w fun e w' => e = .returned (.tuple #[.int .i64 0, .bool false]) ∧ Below w.heap.size w w' := by
  have hl := l3Turns_any k
  rw [show decide (0 ≤ k ∧ k < 8) = false from decide_eq_false hn] at hl
  have hL := Lib.hid hl
  clear hl hn
  go_enter Try.func22, Try.ntmps22
  go_wp2_with (go_at_call 69; (with_reducible refine (hL.out _).mono ?_); rintro e w1 ⟨rfl, rfl⟩)
  go_ret2
  exact ⟨by simp, (by repeat (first | with_reducible exact Below.refl _ _ | with_reducible assumption | with_reducible refine Below.drew ?_ | with_reducible refine below_drewN ?_ _ | with_reducible refine Below.alloc ?_ ?_ _ | with_reducible refine Below.setCell ?_ ?_ _ | with_reducible refine Below.trans ?_ (Below.mono (by assumption) ?_) | omega | (simp <;> omega)))⟩

set_option maxRecDepth 100000 in
theorem implTurnBack_ok (k : Nat) (hk : k < 8) (w : World) : Calls Try.prog 23 #[.int .i64 (k : Int)] w fun e w' => e = .returned (.tuple #[.int .i64 ((bkN k : Nat) : Int), .bool true]) ∧ Below w.heap.size w w' := by
  have hl := isTurn_any (k : Int)
  rw [show decide ((0 : Int) ≤ (k : Int) ∧ (k : Int) < 8) = true by rw [decide_eq_true_eq]; omega] at hl
  have hL := Lib.hid hl
  have hN := Lib.hid (turnBack_any k hk)
  clear hl
  go_enter Try.func23, Try.ntmps23
  go_wp2_with (first | (go_at_call 73; (with_reducible refine (hL.out _).mono ?_); rintro e w1 ⟨rfl, rfl⟩) | (go_at_call 76; (with_reducible refine (hN.out _).mono ?_); rintro e w1 ⟨rfl, hb⟩; obtain ⟨hc, hf, hT, hz⟩ := bfacts hb; (try simp only [World.size_alloc, World.size_setCell, World.size_drew, size_drewN] at hc hf hT hz); (try (have hzA := Nat.lt_of_succ_le hz)); (try (have hl0 : w.heap.size ≤ w1.heap.size := by omega)); (try (have hz0 : w.heap.size < w1.heap.size := by omega)); (try (have hz1 : w.heap.size + 1 < w1.heap.size := by omega)); (try (have hz2 : w.heap.size + 1 + 1 < w1.heap.size := by omega)); (try (have hz3 : w.heap.size + 1 + 1 + 1 < w1.heap.size := by omega)); (try (have hz4 : w.heap.size + 1 + 1 + 1 + 1 < w1.heap.size := by omega))))
  go_ret2
  exact ⟨by simp, (by repeat (first | with_reducible exact Below.refl _ _ | with_reducible assumption | with_reducible refine Below.drew ?_ | with_reducible refine below_drewN ?_ _ | with_reducible refine Below.alloc ?_ ?_ _ | with_reducible refine Below.setCell ?_ ?_ _ | with_reducible refine Below.trans ?_ (Below.mono (by assumption) ?_) | omega | (simp <;> omega)))⟩
theorem implTurnBack_no (k : Int) (hn : ¬ (0 ≤ k ∧ k < 8)) (w : World) : Calls Try.prog 23 #[.int .i64 k] w fun e w' => e = .returned (.tuple #[.int .i64 0, .bool false]) ∧ Below w.heap.size w w' := by
  have hl := isTurn_any k
  rw [show decide (0 ≤ k ∧ k < 8) = false from decide_eq_false hn] at hl
  have hL := Lib.hid hl
  clear hl hn
  go_enter Try.func23, Try.ntmps23
  go_wp2_with (go_at_call 73; (with_reducible refine (hL.out _).mono ?_); rintro e w1 ⟨rfl, rfl⟩)
  go_ret2
  exact ⟨by simp, (by repeat (first | with_reducible exact Below.refl _ _ | with_reducible assumption | with_reducible refine Below.drew ?_ | with_reducible refine below_drewN ?_ _ | with_reducible refine Below.alloc ?_ ?_ _ | with_reducible refine Below.setCell ?_ ?_ _ | with_reducible refine Below.trans ?_ (Below.mono (by assumption) ?_) | omega | (simp <;> omega)))⟩
end Go.Proofs.Ytidaoalnngmoaaa
