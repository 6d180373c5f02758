/-
  The order of sheets: contracts of l2Before and compareSets, and of LessSheet. No conditions.
-/
import Derived.Test.YtidaoalnngmoaaaCh
namespace Go.Proofs.Ytidaoalnngmoaaa
open Go.RowKit
set_option linter.unusedSimpArgs false
set_option linter.unusedVariables false

theorem quiet_add_left {P : Program} {f : FuncId} {args : Array Value} {w : World} {a n : Nat} {v : Value}
    (h : Calls P f args (w.drewN (a + n)) fun e w' => e = .returned v ∧ w.drewN (a + n) = w') :
    Calls P f args (w.drewN (a + n)) fun e w'' => e = .returned v ∧ ∃ m, w'' = w.drewN (a + m) :=
  h.mono fun _ _ ⟨he, hm⟩ => ⟨he, n, hm.symm⟩
theorem quiet_left {P : Program} {f : FuncId} {args : Array Value} {w : World} {n : Nat} {v : Value}
    (h : Calls P f args (w.drewN n) fun e w' => e = .returned v ∧ w.drewN n = w') : Calls P f args (w.drewN n) fun e w'' => e = .returned v ∧ ∃ m, w'' = w.drewN m :=
  h.mono fun _ _ ⟨he, hm⟩ => ⟨he, n, hm.symm⟩

/-- X comes before Y -/
def lessB (X Y : Nat) : Bool := if (row X 0 != row Y 0) = true then decide (row X 0 < row Y 0) else (if (row X 1 != row Y 1) = true then decide (row X 1 < row Y 1) else (if (row X 2 != row Y 2) = true then decide (row X 2 < row Y 2) else (if (row X 3 != row Y 3) = true then decide (row X 3 < row Y 3) else (if (row X 4 != row Y 4) = true then decide (row X 4 < row Y 4) else (if (row X 5 != row Y 5) = true then decide (row X 5 < row Y 5) else false)))))
/-- the comparison of two numbers -/
def cmpI (a b : Int) : Int := if a < b then -1 else if b < a then 1 else 0
/-- the comparison of two sheets -/
def cmpB (X Y : Nat) : Int := if (cmpI (row X 0) (row Y 0) != 0) = true then cmpI (row X 0) (row Y 0) else (if (cmpI (row X 1) (row Y 1) != 0) = true then cmpI (row X 1) (row Y 1) else (if (cmpI (row X 2) (row Y 2) != 0) = true then cmpI (row X 2) (row Y 2) else (if (cmpI (row X 3) (row Y 3) != 0) = true then cmpI (row X 3) (row Y 3) else (if (cmpI (row X 4) (row Y 4) != 0) = true then cmpI (row X 4) (row Y 4) else (if (cmpI (row X 5) (row Y 5) != 0) = true then cmpI (row X 5) (row Y 5) else 0)))))
theorem cmpI_zero (a b : Int) : cmpI a b = 0 ↔ a = b := by unfold cmpI; split <;> (try split) <;> omega
theorem cmpI_neg (a b : Int) : cmpI a b < 0 ↔ a < b := by unfold cmpI; split <;> (try split) <;> omega
theorem cmpI_bne (a b : Int) : (cmpI a b != 0) = (a != b) := by
  rw [Bool.eq_iff_iff, bne_iff_ne, bne_iff_ne, ne_eq, ne_eq, cmpI_zero]
theorem cmpB_neg (X Y : Nat) : decide (cmpB X Y < 0) = lessB X Y := by
  unfold cmpB lessB
  simp only [cmpI_bne]
  split
  · simp only [cmpI_neg]
  · split
    · simp only [cmpI_neg]
    · split
      · simp only [cmpI_neg]
      · split
        · simp only [cmpI_neg]
        · split
          · simp only [cmpI_neg]
          · split
            · simp only [cmpI_neg]
            · rfl

theorem row_u64 (X i : Nat) (hX : X < 2 ^ 36) : bits .and .u64 ((X : Int) / ((64 ^ i : Nat) : Int)) 63 = row X i := by
  have h0 : X / 64 ^ i ≤ X := Nat.div_le_self _ _
  have e : ((X / 64 ^ i : Nat) : Int) = (X : Int) / ((64 ^ i : Nat) : Int) := Int.natCast_ediv _ _
  rw [← e]
  unfold row
  generalize X / 64 ^ i = u at *
  have h1 := u64_and_nat u 63 (by omega) (by omega)
  rw [nat_mask6, show ((63 : Nat) : Int) = 63 from rfl] at h1
  exact h1

set_option maxRecDepth 100000 in
theorem l2Before_any (X Y : Nat) (w : World) : Calls Try.prog 92 #[(.agg #[.int .i64 (row X 0), .int .i64 (row X 1), .int .i64 (row X 2), .int .i64 (row X 3), .int .i64 (row X 4), .int .i64 (row X 5)]), (.agg #[.int .i64 (row Y 0), .int .i64 (row Y 1), .int .i64 (row Y 2), .int .i64 (row Y 3), .int .i64 (row Y 4), .int .i64 (row Y 5)])] w fun e w' => e = .returned (.bool (lessB X Y)) ∧ Below w.heap.size w w' := by
  go_enter Try.func92, Try.ntmps92
  go_wp2
  refine wp_loop_rounds 7 ?_
  any_goals (rw [rounds_succ]; go_wp2; go_quiet (fail); go_wp2; any_goals (go_quiet (fail); go_wp2))
  any_goals (rw [rounds_succ]; go_wp2; go_quiet (fail); go_wp2; any_goals (go_quiet (fail); go_wp2))
  any_goals (rw [rounds_succ]; go_wp2; go_quiet (fail); go_wp2; any_goals (go_quiet (fail); go_wp2))
  any_goals (rw [rounds_succ]; go_wp2; go_quiet (fail); go_wp2; any_goals (go_quiet (fail); go_wp2))
  any_goals (rw [rounds_succ]; go_wp2; go_quiet (fail); go_wp2; any_goals (go_quiet (fail); go_wp2))
  any_goals (rw [rounds_succ]; go_wp2; go_quiet (fail); go_wp2; any_goals (go_quiet (fail); go_wp2))
  any_goals (rw [rounds_succ]; go_wp2)
  all_goals
    go_ret
    exact ⟨by simp only [lessB, *, Bool.false_eq_true, ↓reduceIte]; rfl, (by repeat (first | with_reducible exact Below.refl _ _ | with_reducible assumption | with_reducible refine Below.drew ?_ | with_reducible refine below_drewN ?_ _ | with_reducible refine Below.alloc ?_ ?_ _ | with_reducible refine Below.setCell ?_ ?_ _ | with_reducible refine Below.trans ?_ (Below.mono (by assumption) ?_) | omega | (simp <;> omega)))⟩

set_option maxRecDepth 100000 in
theorem compare_any (a b : Int) (w : World) : Calls Try.prog 125 #[.int .u64 a, .int .u64 b] w fun e w' => e = .returned (.int .i64 (cmpI a b)) ∧ w = w' := by
  go_enter Try.func125, Try.ntmps125
  go_wp2
  all_goals
    go_ret
    exact ⟨by simp [cmpI, *] <;> (repeat (split <;> first | rfl | omega)), rfl⟩

set_option maxRecDepth 100000 in
theorem compareSets_any (X Y : Nat) (hX : Vs X) (hY : Vs Y) (w : World) : Calls Try.prog 108 #[.int .u64 (X : Int), .int .u64 (Y : Int)] w fun e w' => e = .returned (.int .i64 (cmpB X Y)) ∧ Below w.heap.size w w' := by
  have rX0 := row_u64 X 0 hX.lt
  have rX1 := row_u64 X 1 hX.lt
  have rX2 := row_u64 X 2 hX.lt
  have rX3 := row_u64 X 3 hX.lt
  have rX4 := row_u64 X 4 hX.lt
  have rX5 := row_u64 X 5 hX.lt
  have rY0 := row_u64 Y 0 hY.lt
  have rY1 := row_u64 Y 1 hY.lt
  have rY2 := row_u64 Y 2 hY.lt
  have rY3 := row_u64 Y 3 hY.lt
  have rY4 := row_u64 Y 4 hY.lt
  have rY5 := row_u64 Y 5 hY.lt
  simp only [Nat.reducePow, Int.natCast_one, Int.ediv_one, Int.cast_ofNat_Int] at rX0 rX1 rX2 rX3 rX4 rX5 rY0 rY1 rY2 rY3 rY4 rY5
  have h1 := hX.lt
  have h2 := hY.lt
  go_enter Try.func108, Try.ntmps108
  go_wp2
  refine wp_loop_rounds 7 ?_
  any_goals (rw [rounds_succ]; go_wp2; go_quiet ((go_at_call 125; first | exact quiet_left (compare_any _ _ _) | exact quiet_add_left (compare_any _ _ _))); go_wp2)
  any_goals (rw [rounds_succ]; go_wp2; go_quiet ((go_at_call 125; first | exact quiet_left (compare_any _ _ _) | exact quiet_add_left (compare_any _ _ _))); go_wp2)
  any_goals (rw [rounds_succ]; go_wp2; go_quiet ((go_at_call 125; first | exact quiet_left (compare_any _ _ _) | exact quiet_add_left (compare_any _ _ _))); go_wp2)
  any_goals (rw [rounds_succ]; go_wp2; go_quiet ((go_at_call 125; first | exact quiet_left (compare_any _ _ _) | exact quiet_add_left (compare_any _ _ _))); go_wp2)
  any_goals (rw [rounds_succ]; go_wp2; go_quiet ((go_at_call 125; first | exact quiet_left (compare_any _ _ _) | exact quiet_add_left (compare_any _ _ _))); go_wp2)
  any_goals (rw [rounds_succ]; go_wp2; go_quiet ((go_at_call 125; first | exact quiet_left (compare_any _ _ _) | exact quiet_add_left (compare_any _ _ _))); go_wp2)
  any_goals (rw [rounds_succ]; go_wp2)
  all_goals
    go_ret
    exact ⟨by simp only [cmpB, *, Bool.false_eq_true, ↓reduceIte]; rfl, (by repeat (first | with_reducible exact Below.refl _ _ | with_reducible assumption | with_reducible refine Below.drew ?_ | with_reducible refine below_drewN ?_ _ | with_reducible refine Below.alloc ?_ ?_ _ | with_reducible refine Below.setCell ?_ ?_ _ | with_reducible refine Below.trans ?_ (Below.mono (by assumption) ?_) | omega | (simp <;> omega)))⟩

set_option maxRecDepth 100000 in
theorem implLessSheet_ok (X Y : Nat) (hX : Vs X) (hY : Vs Y) (w : World) : Calls Try.prog 63 #[(.agg #[.int .i64 (row X 0), .int .i64 (row X 1), .int .i64 (row X 2), .int .i64 (row X 3), .int .i64 (row X 4), .int .i64 (row X 5)]), (.agg #[.int .i64 (row Y 0), .int .i64 (row Y 1), .int .i64 (row Y 2), .int .i64 (row Y 3), .int .i64 (row Y 4), .int .i64 (row Y 5)])] w fun e w' => e = .returned (.tuple #[.bool (lessB X Y), .bool true]) ∧ Below w.heap.size w w' := by
  have hr := Lib.hid (cmpB_neg X Y)
  go_enter Try.func63, Try.ntmps63
  go_wp2_with (first | (go_at_call 97; (with_reducible refine (twoSets_ok _ _ (by assumption) (by assumption) _).mono ?_); rintro e w1 ⟨rfl, hb⟩; obtain ⟨hc, hf, hT, hz⟩ := bfacts hb; (try simp only [World.size_alloc, World.size_setCell, World.size_drew, size_drewN] at hc hf hT hz); (try (have hzA := Nat.lt_of_succ_le hz)); (try (have hl0 : w.heap.size ≤ w1.heap.size := by omega)); (try (have hz0 : w.heap.size < w1.heap.size := by omega)); (try (have hz1 : w.heap.size + 1 < w1.heap.size := by omega)); (try (have hz2 : w.heap.size + 1 + 1 < w1.heap.size := by omega)); (try (have hz3 : w.heap.size + 1 + 1 + 1 < w1.heap.size := by omega)); (try (have hz4 : w.heap.size + 1 + 1 + 1 + 1 < w1.heap.size := by omega))) | (go_at_call 108; (with_reducible refine (compareSets_any _ _ (by assumption) (by assumption) _).mono ?_); rintro e w1 ⟨rfl, hb⟩; obtain ⟨hc, hf, hT, hz⟩ := bfacts hb; (try simp only [World.size_alloc, World.size_setCell, World.size_drew, size_drewN] at hc hf hT hz); (try (have hzA := Nat.lt_of_succ_le hz)); (try (have hl0 : w.heap.size ≤ w1.heap.size := by omega)); (try (have hz0 : w.heap.size < w1.heap.size := by omega)); (try (have hz1 : w.heap.size + 1 < w1.heap.size := by omega)); (try (have hz2 : w.heap.size + 1 + 1 < w1.heap.size := by omega)); (try (have hz3 : w.heap.size + 1 + 1 + 1 < w1.heap.size := by omega)); (try (have hz4 : w.heap.size + 1 + 1 + 1 + 1 < w1.heap.size := by omega))))
  go_ret2
  exact ⟨by simp [hr.out], (by repeat (first | with_reducible exact Below.refl _ _ | with_reducible assumption | with_reducible refine Below.drew ?_ | with_reducible refine below_drewN ?_ _ | with_reducible refine Below.alloc ?_ ?_ _ | with_reducible refine Below.setCell ?_ ?_ _ | with_reducible refine Below.trans ?_ (Below.mono (by assumption) ?_) | omega | (simp <;> omega)))⟩
set_option maxRecDepth 100000 in
theorem implLessSheet_no (a0 a1 a2 a3 a4 a5 b0 b1 b2 b3 b4 b5 : Int) (hn : ¬ (Ok6 a0 a1 a2 a3 a4 a5 ∧ Ok6 b0 b1 b2 b3 b4 b5)) (w : World) :
    Calls Try.prog 63 #[(.agg #[.int .i64 a0, .int .i64 a1, .int .i64 a2, .int .i64 a3, .int .i64 a4, .int .i64 a5]), (.agg #[.int .i64 b0, .int .i64 b1, .int .i64 b2, .int .i64 b3, .int .i64 b4, .int .i64 b5])] w fun e w' => e = .returned (.tuple #[.bool false, .bool false]) ∧ Below w.heap.size w w' := by
  go_enter Try.func63, Try.ntmps63
  go_wp2_with (go_at_call 97; (with_reducible refine (twoSets_no _ _ _ _ _ _ _ _ _ _ _ _ (by assumption) _).mono ?_); rintro e w1 ⟨x1, y1, rfl, hb⟩; obtain ⟨hc, hf, hT, hz⟩ := bfacts hb; (try simp only [World.size_alloc, World.size_setCell, World.size_drew, size_drewN] at hc hf hT hz); (try (have hzA := Nat.lt_of_succ_le hz)); (try (have hl0 : w.heap.size ≤ w1.heap.size := by omega)); (try (have hz0 : w.heap.size < w1.heap.size := by omega)); (try (have hz1 : w.heap.size + 1 < w1.heap.size := by omega)); (try (have hz2 : w.heap.size + 1 + 1 < w1.heap.size := by omega)); (try (have hz3 : w.heap.size + 1 + 1 + 1 < w1.heap.size := by omega)); (try (have hz4 : w.heap.size + 1 + 1 + 1 + 1 < w1.heap.size := by omega)))
  go_ret2
  exact ⟨rfl, (by repeat (first | with_reducible exact Below.refl _ _ | with_reducible assumption | with_reducible refine Below.drew ?_ | with_reducible refine below_drewN ?_ _ | with_reducible refine Below.alloc ?_ ?_ _ | with_reducible refine Below.setCell ?_ ?_ _ | with_reducible refine Below.trans ?_ (Below.mono (by assumption) ?_) | omega | (simp <;> omega)))⟩
end Go.Proofs.Ytidaoalnngmoaaa
