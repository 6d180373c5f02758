/-
  Contracts on the numbers of turns: TurnBehind and TurnBack, of the program and of the reference. No conditions.
-/
import Derived.Test.YtidaoalnngmoaaaDc
import Derived.Test.YtidaoalnngmoaaaMathE
namespace Go.Proofs.Ytidaoalnngmoaaa
open Go.RowKit
set_option linter.unusedSimpArgs false
set_option linter.unusedVariables false

set_option maxRecDepth 100000 in
theorem l3Marked_any (w : World) : Calls Try.prog 72 #[] w fun e w' => e = .returned (.agg #[.int .i64 (row 75 0), .int .i64 (row 75 1), .int .i64 (row 75 2), .int .i64 (row 75 3), .int .i64 (row 75 4), .int .i64 (row 75 5)]) ∧ Below w.heap.size w w' := by
  go_enter Try.func72, Try.ntmps72
  go_wp2
  exact bodyPost_ret (v := .agg #[.int .i64 11, .int .i64 1, .int .i64 0, .int .i64 0, .int .i64 0, .int .i64 0]) (by simp [results, Try.results72, go_sem]) rfl ⟨rfl, (by repeat (first | with_reducible exact Below.refl _ _ | with_reducible assumption | with_reducible refine Below.drew ?_ | with_reducible refine below_drewN ?_ _ | with_reducible refine Below.alloc ?_ ?_ _ | with_reducible refine Below.setCell ?_ ?_ _ | with_reducible refine Below.trans ?_ (Below.mono (by assumption) ?_) | omega | (simp <;> omega)))⟩
theorem turned70 (k : Nat) (hk : k < 8) (w : World) : Calls Try.prog 80 #[.int .u64 70, .int .i64 (k : Int)] w fun e w' => e = .returned (.int .u64 ((turnS k 70 : Nat) : Int)) ∧ Below w.heap.size w w' :=
  turned_any 70 k vs70 hk w
theorem turned70_again (k m : Nat) (hk : k < 8) (hm : m < 8) (w : World) : Calls Try.prog 80 #[.int .u64 ((turnS k 70 : Nat) : Int), .int .i64 (m : Int)] w fun e w' => e = .returned (.int .u64 ((turnS (tbN k m) 70 : Nat) : Int)) ∧ Below w.heap.size w w' := by
  have h := turned_any (turnS k 70) m (turnS_vs _ _) hm w
  rw [turnS_comp k m 70 hk hm] at h
  exact h
theorem l3Turn_again (k m X : Nat) (hk : k < 8) (hm : m < 8) (w : World) : Calls Try.prog 71 #[(.agg #[.int .i64 (row (turnS k X) 0), .int .i64 (row (turnS k X) 1), .int .i64 (row (turnS k X) 2), .int .i64 (row (turnS k X) 3), .int .i64 (row (turnS k X) 4), .int .i64 (row (turnS k X) 5)]), .int .i64 (m : Int)] w fun e w' => e = .returned (.agg #[.int .i64 (row (turnS (tbN k m) X) 0), .int .i64 (row (turnS (tbN k m) X) 1), .int .i64 (row (turnS (tbN k m) X) 2), .int .i64 (row (turnS (tbN k m) X) 3), .int .i64 (row (turnS (tbN k m) X) 4), .int .i64 (row (turnS (tbN k m) X) 5)]) ∧ Below w.heap.size w w' := by
  have h := l3Turn_any (turnS k X) m (turnS_vs _ _) hm w
  rw [turnS_comp k m X hk hm] at h
  exact h
theorem rows_no (X Y : Nat) (hX : Vs X) (hY : Vs Y) (h : X ≠ Y) : decide (row X 0 = row Y 0 ∧ row X 1 = row Y 1 ∧ row X 2 = row Y 2 ∧ row X 3 = row Y 3 ∧ row X 4 = row Y 4 ∧ row X 5 = row Y 5) = false := by
  rw [decide_eq_false_iff_not, rows_iff _ _ hX hY]; exact h
theorem rows_yes (X Y : Nat) (hX : Vs X) (hY : Vs Y) (h : X = Y) : decide (row X 0 = row Y 0 ∧ row X 1 = row Y 1 ∧ row X 2 = row Y 2 ∧ row X 3 = row Y 3 ∧ row X 4 = row Y 4 ∧ row X 5 = row Y 5) = true := by
  rw [decide_eq_true_eq, rows_iff _ _ hX hY]; exact h

def NuRel (j : Nat) (w : World) (i : Value) (wr : World) : Prop :=
  ∃ k : Nat, k ≤ j ∧ i = .int .i64 (k : Int) ∧ Below w.heap.size w wr ∧ HoldsA wr 33 (w.heap.size) (row (turnS j 75) 0) (row (turnS j 75) 1) (row (turnS j 75) 2) (row (turnS j 75) 3) (row (turnS j 75) 4) (row (turnS j 75) 5)
set_option maxRecDepth 100000 in
set_option maxHeartbeats 1600000 in
theorem l3Number_any (j : Nat) (hj : j < 8) (w : World) : Calls Try.prog 70 #[(.agg #[.int .i64 (row (turnS j 75) 0), .int .i64 (row (turnS j 75) 1), .int .i64 (row (turnS j 75) 2), .int .i64 (row (turnS j 75) 3), .int .i64 (row (turnS j 75) 4), .int .i64 (row (turnS j 75) 5)])] w fun e w' => e = .returned (.int .i64 (j : Int)) ∧ Below w.heap.size w w' := by
  go_enter Try.func70, Try.ntmps70
  go_wp2
  go_loopw [3] (NuRel j w) (fun i _ => j - (intOf i).toNat)
  case atStart =>
    refine ⟨0, Nat.zero_le _, rfl, (by repeat (first | with_reducible exact Below.refl _ _ | with_reducible assumption | with_reducible refine Below.drew ?_ | with_reducible refine below_drewN ?_ _ | with_reducible refine Below.alloc ?_ ?_ _ | with_reducible refine Below.setCell ?_ ?_ _ | with_reducible refine Below.trans ?_ (Below.mono (by assumption) ?_) | omega | (simp <;> omega))), ?_⟩
    (repeat (first | with_reducible assumption | (with_reducible refine HoldsA.made' ?_; (simp; done)) | with_reducible refine HoldsA.alloc ?_ _ | with_reducible refine HoldsA.drew ?_ | with_reducible refine HoldsA.drewN ?_ _ | (with_reducible refine HoldsA.far ?_ _ _ (by first | (simp; done) | (simp; omega))) | (with_reducible refine HoldsA.below ?_ (by with_reducible assumption) (by first | (simp; done) | (simp; omega) | omega))))
  case round =>
    obtain ⟨k, hk, rfl, hbw, h0⟩ := hrel
    have hx0 := h0.c0
    have hx1 := h0.c1
    have hx2 := h0.c2
    have hx3 := h0.c3
    have hx4 := h0.c4
    have hx5 := h0.c5
    have hxf := h0.free
    have hlw := h0.lt
    have hk8 : k < 8 := by omega
    by_cases hlt : k < j
    · have hd := rows_no (turnS k 75) (turnS j 75) (turnS_vs _ _) (turnS_vs _ _) (fun h => by have := marked_inj k hk8 j hj h; omega)
      go_wp2
      go_region_held3 (fun w' => w'.cell? ⟨w.heap.size, 0, none⟩ = some (.int .i64 (row (turnS j 75) 0)) ∧ w'.cell? ⟨w.heap.size, 1, none⟩ = some (.int .i64 (row (turnS j 75) 1)) ∧ w'.cell? ⟨w.heap.size, 2, none⟩ = some (.int .i64 (row (turnS j 75) 2)) ∧ w'.cell? ⟨w.heap.size, 3, none⟩ = some (.int .i64 (row (turnS j 75) 3)) ∧ w'.cell? ⟨w.heap.size, 4, none⟩ = some (.int .i64 (row (turnS j 75) 4)) ∧ w'.cell? ⟨w.heap.size, 5, none⟩ = some (.int .i64 (row (turnS j 75) 5))) (simp [*, World.cell?_alloc_some, World.cell?_setCell_far, Nat.ne_of_gt]) (first | (first | (go_at_call 72; (with_reducible refine (l3Marked_any _).mono ?_); rintro e w1 ⟨rfl, hb⟩; obtain ⟨hc, hf, hT, hz⟩ := bfacts hb; (try simp only [World.size_alloc, World.size_setCell, World.size_drew, size_drewN] at hc hf hT hz); (try (have hzA := Nat.lt_of_succ_le hz)); (try (have hl0 : w.heap.size ≤ w1.heap.size := by omega)); (try (have hz0 : w.heap.size < w1.heap.size := by omega)); (try (have hz1 : w.heap.size + 1 < w1.heap.size := by omega)); (try (have hz2 : w.heap.size + 1 + 1 < w1.heap.size := by omega)); (try (have hz3 : w.heap.size + 1 + 1 + 1 < w1.heap.size := by omega)); (try (have hz4 : w.heap.size + 1 + 1 + 1 + 1 < w1.heap.size := by omega))) | (go_at_call 71; (with_reducible refine (l3Turn_any 75 k vs75 hk8 _).mono ?_); rintro e w1 ⟨rfl, hb⟩; obtain ⟨hc, hf, hT, hz⟩ := bfacts hb; (try simp only [World.size_alloc, World.size_setCell, World.size_drew, size_drewN] at hc hf hT hz); (try (have hzA := Nat.lt_of_succ_le hz)); (try (have hl0 : w.heap.size ≤ w1.heap.size := by omega)); (try (have hz0 : w.heap.size < w1.heap.size := by omega)); (try (have hz1 : w.heap.size + 1 < w1.heap.size := by omega)); (try (have hz2 : w.heap.size + 1 + 1 < w1.heap.size := by omega)); (try (have hz3 : w.heap.size + 1 + 1 + 1 < w1.heap.size := by omega)); (try (have hz4 : w.heap.size + 1 + 1 + 1 + 1 < w1.heap.size := by omega)))))
      all_goals
        have hBB : Below wr.heap.size wr w1 := (by repeat (first | with_reducible exact Below.refl _ _ | with_reducible assumption | with_reducible refine Below.drew ?_ | with_reducible refine below_drewN ?_ _ | with_reducible refine Below.alloc ?_ ?_ _ | with_reducible refine Below.setCell ?_ ?_ _ | with_reducible refine Below.trans ?_ (Below.mono (by assumption) ?_) | omega | (simp <;> omega)))
        have e0 := h0.below hBB h0.lt
        have hB3 := hbw.trans (hBB.mono hbw.size)
        have hzz := hBB.size
        go_wp2
        go_roundw
        case rel => exact ⟨k + 1, by omega, by go_num, hB3, e0⟩
        case measure => simp [intOf]; omega
    · have e : k = j := by omega
      subst e
      go_wp2
      go_region_held3 (fun w' => w'.cell? ⟨w.heap.size, 0, none⟩ = some (.int .i64 (row (turnS k 75) 0)) ∧ w'.cell? ⟨w.heap.size, 1, none⟩ = some (.int .i64 (row (turnS k 75) 1)) ∧ w'.cell? ⟨w.heap.size, 2, none⟩ = some (.int .i64 (row (turnS k 75) 2)) ∧ w'.cell? ⟨w.heap.size, 3, none⟩ = some (.int .i64 (row (turnS k 75) 3)) ∧ w'.cell? ⟨w.heap.size, 4, none⟩ = some (.int .i64 (row (turnS k 75) 4)) ∧ w'.cell? ⟨w.heap.size, 5, none⟩ = some (.int .i64 (row (turnS k 75) 5))) (simp [*, World.cell?_alloc_some, World.cell?_setCell_far, Nat.ne_of_gt]) (first | (first | (go_at_call 72; (with_reducible refine (l3Marked_any _).mono ?_); rintro e w1 ⟨rfl, hb⟩; obtain ⟨hc, hf, hT, hz⟩ := bfacts hb; (try simp only [World.size_alloc, World.size_setCell, World.size_drew, size_drewN] at hc hf hT hz); (try (have hzA := Nat.lt_of_succ_le hz)); (try (have hl0 : w.heap.size ≤ w1.heap.size := by omega)); (try (have hz0 : w.heap.size < w1.heap.size := by omega)); (try (have hz1 : w.heap.size + 1 < w1.heap.size := by omega)); (try (have hz2 : w.heap.size + 1 + 1 < w1.heap.size := by omega)); (try (have hz3 : w.heap.size + 1 + 1 + 1 < w1.heap.size := by omega)); (try (have hz4 : w.heap.size + 1 + 1 + 1 + 1 < w1.heap.size := by omega))) | (go_at_call 71; (with_reducible refine (l3Turn_any 75 k vs75 hk8 _).mono ?_); rintro e w1 ⟨rfl, hb⟩; obtain ⟨hc, hf, hT, hz⟩ := bfacts hb; (try simp only [World.size_alloc, World.size_setCell, World.size_drew, size_drewN] at hc hf hT hz); (try (have hzA := Nat.lt_of_succ_le hz)); (try (have hl0 : w.heap.size ≤ w1.heap.size := by omega)); (try (have hz0 : w.heap.size < w1.heap.size := by omega)); (try (have hz1 : w.heap.size + 1 < w1.heap.size := by omega)); (try (have hz2 : w.heap.size + 1 + 1 < w1.heap.size := by omega)); (try (have hz3 : w.heap.size + 1 + 1 + 1 < w1.heap.size := by omega)); (try (have hz4 : w.heap.size + 1 + 1 + 1 + 1 < w1.heap.size := by omega)))))
      all_goals
        go_wp2
        go_ret
        exact ⟨by simp, (by repeat (first | with_reducible exact Below.refl _ _ | with_reducible assumption | with_reducible refine Below.drew ?_ | with_reducible refine below_drewN ?_ _ | with_reducible refine Below.alloc ?_ ?_ _ | with_reducible refine Below.setCell ?_ ?_ _ | with_reducible refine Below.trans ?_ (Below.mono (by assumption) ?_) | omega | (simp <;> omega)))⟩

set_option maxRecDepth 100000 in
theorem specTurnBehind_ok (k m : Nat) (hk : k < 8) (hm : m < 8) (w : World) : Calls Try.prog 20 #[.int .i64 (k : Int), .int .i64 (m : Int)] w fun e w' => e = .returned (.tuple #[.int .i64 ((tbN k m : Nat) : Int), .bool true]) ∧ Below w.heap.size w w' := by
  have hl := l3Turns_any (k : Int)
  have hl2 := l3Turns_any (m : Int)
  rw [show decide ((0 : Int) ≤ (k : Int) ∧ (k : Int) < 8) = true by rw [decide_eq_true_eq]; omega] at hl
  rw [show decide ((0 : Int) ≤ (m : Int) ∧ (m : Int) < 8) = true by rw [decide_eq_true_eq]; omega] at hl2
  have hL := Lib.hid hl
  have hL2 := Lib.hid hl2
  have hTa := Lib.hid (l3Turn_any 75 k vs75 hk)
  have hUa := Lib.hid (l3Turn_again k m 75 hk hm)
  have hN := Lib.hid (l3Number_any (tbN k m) (tbN_lt k m))
  clear hl hl2
  go_enter Try.func20, Try.ntmps20
  go_wp2_with (first | (go_at_call 69; (first | (with_reducible refine (hL.out _).mono ?_) | (with_reducible refine (hL2.out _).mono ?_)); rintro e w1 ⟨rfl, rfl⟩) | (go_at_call 72; (with_reducible refine (l3Marked_any _).mono ?_); rintro e w1 ⟨rfl, hb⟩; obtain ⟨hc, hf, hT, hz⟩ := bfacts hb; (try simp only [World.size_alloc, World.size_setCell, World.size_drew, size_drewN] at hc hf hT hz); (try (have hzA := Nat.lt_of_succ_le hz)); (try (have hl0 : w.heap.size ≤ w1.heap.size := by omega)); (try (have hz0 : w.heap.size < w1.heap.size := by omega)); (try (have hz1 : w.heap.size + 1 < w1.heap.size := by omega)); (try (have hz2 : w.heap.size + 1 + 1 < w1.heap.size := by omega)); (try (have hz3 : w.heap.size + 1 + 1 + 1 < w1.heap.size := by omega)); (try (have hz4 : w.heap.size + 1 + 1 + 1 + 1 < w1.heap.size := by omega))) | (go_at_call 71; (first | (with_reducible refine (hTa.out _).mono ?_) | (with_reducible refine (hUa.out _).mono ?_)); rintro e w1 ⟨rfl, hb⟩; obtain ⟨hc, hf, hT, hz⟩ := bfacts hb; (try simp only [World.size_alloc, World.size_setCell, World.size_drew, size_drewN] at hc hf hT hz); (try (have hzA := Nat.lt_of_succ_le hz)); (try (have hl0 : w.heap.size ≤ w1.heap.size := by omega)); (try (have hz0 : w.heap.size < w1.heap.size := by omega)); (try (have hz1 : w.heap.size + 1 < w1.heap.size := by omega)); (try (have hz2 : w.heap.size + 1 + 1 < w1.heap.size := by omega)); (try (have hz3 : w.heap.size + 1 + 1 + 1 < w1.heap.size := by omega)); (try (have hz4 : w.heap.size + 1 + 1 + 1 + 1 < w1.heap.size := by omega))) | (go_at_call 70; (with_reducible refine (hN.out _).mono ?_); rintro e w1 ⟨rfl, hb⟩; obtain ⟨hc, hf, hT, hz⟩ := bfacts hb; (try simp only [World.size_alloc, World.size_setCell, World.size_drew, size_drewN] at hc hf hT hz); (try (have hzA := Nat.lt_of_succ_le hz)); (try (have hl0 : w.heap.size ≤ w1.heap.size := by omega)); (try (have hz0 : w.heap.size < w1.heap.size := by omega)); (try (have hz1 : w.heap.size + 1 < w1.heap.size := by omega)); (try (have hz2 : w.heap.size + 1 + 1 < w1.heap.size := by omega)); (try (have hz3 : w.heap.size + 1 + 1 + 1 < w1.heap.size := by omega)); (try (have hz4 : w.heap.size + 1 + 1 + 1 + 1 < w1.heap.size := by omega))))
  go_ret2
  exact ⟨by simp, (by repeat (first | with_reducible exact Below.refl _ _ | with_reducible assumption | with_reducible refine Below.drew ?_ | with_reducible refine below_drewN ?_ _ | with_reducible refine Below.alloc ?_ ?_ _ | with_reducible refine Below.setCell ?_ ?_ _ | with_reducible refine Below.trans ?_ (Below.mono (by assumption) ?_) | omega | (simp <;> omega)))⟩

/-- not both are numbers of turns -/
theorem specTurnBehind_no (k m : Int) (hn : ¬ ((0 ≤ k ∧ k < 8) ∧ (0 ≤ m ∧ m < 8))) (w : World) : Calls Try.prog 20 #[.int .i64 k, .int .i64 m] w fun e w' => e = .returned (.tuple #[.int .i64 0, .bool false]) ∧ Below w.heap.size w w' := by
  have hl := l3Turns_any k
  have hl2 := l3Turns_any m
  by_cases h : 0 ≤ k ∧ k < 8
  · have h2 : ¬ (0 ≤ m ∧ m < 8) := fun x => hn ⟨h, x⟩
    rw [show decide (0 ≤ k ∧ k < 8) = true from decide_eq_true h] at hl
    rw [show decide (0 ≤ m ∧ m < 8) = false from decide_eq_false h2] at hl2
    have hL := Lib.hid hl
    have hL2 := Lib.hid hl2
    clear hl hl2 hn h h2
    go_enter Try.func20, Try.ntmps20
    go_wp2_with (go_at_call 69; (first | (with_reducible refine (hL.out _).mono ?_) | (with_reducible refine (hL2.out _).mono ?_)); rintro e w1 ⟨rfl, rfl⟩)
    go_ret2
    exact ⟨by simp, (by repeat (first | with_reducible exact Below.refl _ _ | with_reducible assumption | with_reducible refine Below.drew ?_ | with_reducible refine below_drewN ?_ _ | with_reducible refine Below.alloc ?_ ?_ _ | with_reducible refine Below.setCell ?_ ?_ _ | with_reducible refine Below.trans ?_ (Below.mono (by assumption) ?_) | omega | (simp <;> omega)))⟩
  · rw [show decide (0 ≤ k ∧ k < 8) = false from decide_eq_false h] at hl
    have hL := Lib.hid hl
    clear hl hl2 hn h
    go_enter Try.func20, Try.ntmps20
    go_wp2_with (go_at_call 69; (with_reducible refine (hL.out _).mono ?_); rintro e w1 ⟨rfl, rfl⟩)
    go_ret2
    exact ⟨by simp, (by repeat (first | with_reducible exact Below.refl _ _ | with_reducible assumption | with_reducible refine Below.drew ?_ | with_reducible refine below_drewN ?_ _ | with_reducible refine Below.alloc ?_ ?_ _ | with_reducible refine Below.setCell ?_ ?_ _ | with_reducible refine Below.trans ?_ (Below.mono (by assumption) ?_) | omega | (simp <;> omega)))⟩

def TbRel (j : Nat) (w : World) (i : Value) (wr : World) : Prop :=
  ∃ k : Nat, k ≤ j ∧ i = .int .i64 (k : Int) ∧ Below w.heap.size w wr
set_option maxRecDepth 100000 in
theorem turnBehind_any (a b : Nat) (ha : a < 8) (hb8 : b < 8) (w : World) : Calls Try.prog 74 #[.int .i64 (a : Int), .int .i64 (b : Int)] w fun e w' => e = .returned (.int .i64 ((tbN a b : Nat) : Int)) ∧ Below w.heap.size w w' := by
  have hTa := Lib.hid (turned70 a ha)
  have hu := turned70_again a b ha hb8
  obtain ⟨j, ej⟩ : ∃ j, j = tbN a b := ⟨_, rfl⟩
  have hj : j < 8 := by rw [ej]; exact tbN_lt a b
  rw [← ej] at hu
  rw [← ej]
  have hUa := Lib.hid hu
  clear ej hu
  go_enter Try.func74, Try.ntmps74
  go_wp2_with (go_at_call 80; (first | (with_reducible refine (hTa.out _).mono ?_) | (with_reducible refine (hUa.out _).mono ?_)); rintro e w1 ⟨rfl, hb⟩; obtain ⟨hc, hf, hT, hz⟩ := bfacts hb; (try simp only [World.size_alloc, World.size_setCell, World.size_drew, size_drewN] at hc hf hT hz); (try (have hzA := Nat.lt_of_succ_le hz)); (try (have hl0 : w.heap.size ≤ w1.heap.size := by omega)); (try (have hz0 : w.heap.size < w1.heap.size := by omega)); (try (have hz1 : w.heap.size + 1 < w1.heap.size := by omega)); (try (have hz2 : w.heap.size + 1 + 1 < w1.heap.size := by omega)); (try (have hz3 : w.heap.size + 1 + 1 + 1 < w1.heap.size := by omega)); (try (have hz4 : w.heap.size + 1 + 1 + 1 + 1 < w1.heap.size := by omega)))
  go_loopw [6] (TbRel j w) (fun i _ => j - (intOf i).toNat)
  case atStart => exact ⟨0, Nat.zero_le _, rfl, (by repeat (first | with_reducible exact Below.refl _ _ | with_reducible assumption | with_reducible refine Below.drew ?_ | with_reducible refine below_drewN ?_ _ | with_reducible refine Below.alloc ?_ ?_ _ | with_reducible refine Below.setCell ?_ ?_ _ | with_reducible refine Below.trans ?_ (Below.mono (by assumption) ?_) | omega | (simp <;> omega)))⟩
  case round =>
    obtain ⟨k, hk, rfl, hbw⟩ := hrel
    have hk8 : k < 8 := by omega
    by_cases hlt : k < j
    · have hne : turnS k 70 ≠ turnS j 70 := fun h => by have := odd_inj k hk8 j hj h; omega
      have hne' : ¬ (((turnS k 70 : Nat) : Int) = ((turnS j 70 : Nat) : Int)) := by omega
      have hd : (((turnS k 70 : Nat) : Int) == ((turnS j 70 : Nat) : Int)) = false := by rw [beq_eq_false_iff_ne]; exact hne'
      clear hne
      go_wp2_with (go_at_call 80; (with_reducible refine (turned70 k hk8 _).mono ?_); rintro e w1 ⟨rfl, hb⟩; obtain ⟨hc, hf, hT, hz⟩ := bfacts hb; (try simp only [World.size_alloc, World.size_setCell, World.size_drew, size_drewN] at hc hf hT hz); (try (have hzA := Nat.lt_of_succ_le hz)); (try (have hl0 : w.heap.size ≤ w1.heap.size := by omega)); (try (have hz0 : w.heap.size < w1.heap.size := by omega)); (try (have hz1 : w.heap.size + 1 < w1.heap.size := by omega)); (try (have hz2 : w.heap.size + 1 + 1 < w1.heap.size := by omega)); (try (have hz3 : w.heap.size + 1 + 1 + 1 < w1.heap.size := by omega)); (try (have hz4 : w.heap.size + 1 + 1 + 1 + 1 < w1.heap.size := by omega)))
      go_roundw
      case rel => exact ⟨k + 1, by omega, by go_num, hbw.trans (hb.mono hbw.size)⟩
      case measure => simp [intOf]; omega
    · have e : k = j := by omega
      subst e
      go_wp2_with (go_at_call 80; (with_reducible refine (turned70 k hk8 _).mono ?_); rintro e w1 ⟨rfl, hb⟩; obtain ⟨hc, hf, hT, hz⟩ := bfacts hb; (try simp only [World.size_alloc, World.size_setCell, World.size_drew, size_drewN] at hc hf hT hz); (try (have hzA := Nat.lt_of_succ_le hz)); (try (have hl0 : w.heap.size ≤ w1.heap.size := by omega)); (try (have hz0 : w.heap.size < w1.heap.size := by omega)); (try (have hz1 : w.heap.size + 1 < w1.heap.size := by omega)); (try (have hz2 : w.heap.size + 1 + 1 < w1.heap.size := by omega)); (try (have hz3 : w.heap.size + 1 + 1 + 1 < w1.heap.size := by omega)); (try (have hz4 : w.heap.size + 1 + 1 + 1 + 1 < w1.heap.size := by omega)))
      go_ret
      exact ⟨rfl, hbw.trans (hb.mono hbw.size)⟩

set_option maxRecDepth 100000 in
theorem implTurnBehind_ok (k m : Nat) (hk : k < 8) (hm : m < 8) (w : World) : Calls Try.prog 21 #[.int .i64 (k : Int), .int .i64 (m : Int)] w fun e w' => e = .returned (.tuple #[.int .i64 ((tbN k m : Nat) : Int), .bool true]) ∧ Below w.heap.size w w' := by
  have hl := isTurn_any (k : Int)
  have hl2 := isTurn_any (m : Int)
  rw [show decide ((0 : Int) ≤ (k : Int) ∧ (k : Int) < 8) = true by rw [decide_eq_true_eq]; omega] at hl
  rw [show decide ((0 : Int) ≤ (m : Int) ∧ (m : Int) < 8) = true by rw [decide_eq_true_eq]; omega] at hl2
  have hL := Lib.hid hl
  have hL2 := Lib.hid hl2
  have hN := Lib.hid (turnBehind_any k m hk hm)
  clear hl hl2
  go_enter Try.func21, Try.ntmps21
  go_wp2_with (first | (go_at_call 73; (first | (with_reducible refine (hL.out _).mono ?_) | (with_reducible refine (hL2.out _).mono ?_)); rintro e w1 ⟨rfl, rfl⟩) | (go_at_call 74; (with_reducible refine (hN.out _).mono ?_); rintro e w1 ⟨rfl, hb⟩; obtain ⟨hc, hf, hT, hz⟩ := bfacts hb; (try simp only [World.size_alloc, World.size_setCell, World.size_drew, size_drewN] at hc hf hT hz); (try (have hzA := Nat.lt_of_succ_le hz)); (try (have hl0 : w.heap.size ≤ w1.heap.size := by omega)); (try (have hz0 : w.heap.size < w1.heap.size := by omega)); (try (have hz1 : w.heap.size + 1 < w1.heap.size := by omega)); (try (have hz2 : w.heap.size + 1 + 1 < w1.heap.size := by omega)); (try (have hz3 : w.heap.size + 1 + 1 + 1 < w1.heap.size := by omega)); (try (have hz4 : w.heap.size + 1 + 1 + 1 + 1 < w1.heap.size := by omega))))
  go_ret2
  exact ⟨by simp, (by repeat (first | with_reducible exact Below.refl _ _ | with_reducible assumption | with_reducible refine Below.drew ?_ | with_reducible refine below_drewN ?_ _ | with_reducible refine Below.alloc ?_ ?_ _ | with_reducible refine Below.setCell ?_ ?_ _ | with_reducible refine Below.trans ?_ (Below.mono (by assumption) ?_) | omega | (simp <;> omega)))⟩

theorem implTurnBehind_no (k m : Int) (hn : ¬ ((0 ≤ k ∧ k < 8) ∧ (0 ≤ m ∧ m < 8))) (w : World) : Calls Try.prog 21 #[.int .i64 k, .int .i64 m] w fun e w' => e = .returned (.tuple #[.int .i64 0, .bool false]) ∧ Below w.heap.size w w' := by
  have hl := isTurn_any k
  have hl2 := isTurn_any m
  by_cases h : 0 ≤ k ∧ k < 8
  · have h2 : ¬ (0 ≤ m ∧ m < 8) := fun x => hn ⟨h, x⟩
    rw [show decide (0 ≤ k ∧ k < 8) = true from decide_eq_true h] at hl
    rw [show decide (0 ≤ m ∧ m < 8) = false from decide_eq_false h2] at hl2
    have hL := Lib.hid hl
    have hL2 := Lib.hid hl2
    clear hl hl2 hn h h2
    go_enter Try.func21, Try.ntmps21
    go_wp2_with (go_at_call 73; (first | (with_reducible refine (hL.out _).mono ?_) | (with_reducible refine (hL2.out _).mono ?_)); rintro e w1 ⟨rfl, rfl⟩)
    go_ret2
    exact ⟨by simp, (by repeat (first | with_reducible exact Below.refl _ _ | with_reducible assumption | with_reducible refine Below.drew ?_ | with_reducible refine below_drewN ?_ _ | with_reducible refine Below.alloc ?_ ?_ _ | with_reducible refine Below.setCell ?_ ?_ _ | with_reducible refine Below.trans ?_ (Below.mono (by assumption) ?_) | omega | (simp <;> omega)))⟩
  · rw [show decide (0 ≤ k ∧ k < 8) = false from decide_eq_false h] at hl
    have hL := Lib.hid hl
    clear hl hl2 hn h
    go_enter Try.func21, Try.ntmps21
    go_wp2_with (go_at_call 73; (with_reducible refine (hL.out _).mono ?_); rintro e w1 ⟨rfl, rfl⟩)
    go_ret2
    exact ⟨by simp, (by repeat (first | with_reducible exact Below.refl _ _ | with_reducible assumption | with_reducible refine Below.drew ?_ | with_reducible refine below_drewN ?_ _ | with_reducible refine Below.alloc ?_ ?_ _ | with_reducible refine Below.setCell ?_ ?_ _ | with_reducible refine Below.trans ?_ (Below.mono (by assumption) ?_) | omega | (simp <;> omega)))⟩
end Go.Proofs.Ytidaoalnngmoaaa
