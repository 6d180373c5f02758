/-
  Contracts of the small functions on sheets that most claims of this seat use, fourth part. No conditions.
-/
import Derived.Test.YtlemkphajmnbdaaDoorCc
namespace Go.Proofs.YtlemkphajmnbdaaDoor
open Go.RowKit
set_option linter.unusedSimpArgs false
set_option linter.unusedVariables false

theorem and63 (n : Nat) (h : n < 2 ^ 36) : wrap64 (bits .and .u64 (n : Int) 63) = ((n % 64 : Nat) : Int) := by
  have h1 := u64_and_nat n 63 (by omega) (by omega)
  rw [nat_mask6] at h1
  rw [show ((63 : Nat) : Int) = 63 from rfl] at h1
  rw [h1]
  exact IntWalk.wrap64_in _ ⟨by omega, by omega⟩

theorem sheet_rows (X : Nat) (hX : X < 2 ^ 36) : wrap64 (bits BinOp.and IntKind.u64 (↑X) 63) = row X 0 ∧
    wrap64 (bits BinOp.and IntKind.u64 (↑X / 64) 63) = row X 1 ∧
      wrap64 (bits BinOp.and IntKind.u64 (↑X / 4096) 63) = row X 2 ∧
        wrap64 (bits BinOp.and IntKind.u64 (↑X / 262144) 63) = row X 3 ∧
          wrap64 (bits BinOp.and IntKind.u64 (↑X / 16777216) 63) = row X 4 ∧
            wrap64 (bits BinOp.and IntKind.u64 (↑X / 1073741824) 63) = row X 5 := by
  have e0 := and63 X hX
  have e1 := and63 (X / 64) (by omega)
  have e2 := and63 (X / 4096) (by omega)
  have e3 := and63 (X / 262144) (by omega)
  have e4 := and63 (X / 16777216) (by omega)
  have e5 := and63 (X / 1073741824) (by omega)
  simp only [Int.natCast_ediv] at e1 e2 e3 e4 e5
  exact ⟨by rw [e0]; simp [row], by rw [show (64 : Int) = ((64 : Nat) : Int) from rfl, e1]; simp [row], by rw [show (4096 : Int) = ((4096 : Nat) : Int) from rfl, e2]; simp [row],
    by rw [show (262144 : Int) = ((262144 : Nat) : Int) from rfl, e3]; simp [row], by rw [show (16777216 : Int) = ((16777216 : Nat) : Int) from rfl, e4]; simp [row],
    by rw [show (1073741824 : Int) = ((1073741824 : Nat) : Int) from rfl, e5]; simp [row]⟩

set_option maxRecDepth 100000 in
theorem sheet_any (X : Nat) (hX : Vs X) (w : World) :
    Calls Tryd.prog 12 #[.int .u64 (X : Int)] w fun e w' => e = .returned (.agg #[.int .i64 (row X 0), .int .i64 (row X 1), .int .i64 (row X 2), .int .i64 (row X 3), .int .i64 (row X 4), .int .i64 (row X 5)]) ∧ Below w.heap.size w w' := by
  go_enter Tryd.func12, Tryd.ntmps12
  go_wp2
  refine wp_loop_rounds 7 ?_
  rw [rounds_succ]
  go_wp2
  rw [rounds_succ]
  go_wp2
  rw [rounds_succ]
  go_wp2
  rw [rounds_succ]
  go_wp2
  rw [rounds_succ]
  go_wp2
  rw [rounds_succ]
  go_wp2
  rw [rounds_succ]
  go_wp2
  exact bodyPost_ret (v := (.agg #[.int .i64 (row X 0), .int .i64 (row X 1), .int .i64 (row X 2), .int .i64 (row X 3), .int .i64 (row X 4), .int .i64 (row X 5)])) (by simp [results, Tryd.results12, go_sem]; exact sheet_rows X hX.lt) rfl ⟨rfl, (by repeat (first | with_reducible exact Below.refl _ _ | with_reducible assumption | with_reducible refine Below.drew ?_ | with_reducible refine below_drewN ?_ _ | with_reducible refine Below.alloc ?_ ?_ _ | with_reducible refine Below.setCell ?_ ?_ _ | with_reducible refine Below.trans ?_ (Below.mono (by assumption) ?_) | omega | (simp <;> omega)))⟩

set_option maxRecDepth 100000 in
theorem eqIntA6_same (a0 a1 a2 a3 a4 a5 : Int) (w : World) :
    Calls Tryd.prog 13 #[(.agg #[.int .i64 a0, .int .i64 a1, .int .i64 a2, .int .i64 a3, .int .i64 a4, .int .i64 a5]), (.agg #[.int .i64 a0, .int .i64 a1, .int .i64 a2, .int .i64 a3, .int .i64 a4, .int .i64 a5])] w fun e w' => e = .returned (.bool true) ∧ Below w.heap.size w w' := by
  go_enter Tryd.func13, Tryd.ntmps13
  go_wp2
  refine wp_loop_rounds 7 ?_
  rw [rounds_succ]
  go_wp2
  go_quiet (fail)
  go_wp2
  rw [rounds_succ]
  go_wp2
  go_quiet (fail)
  go_wp2
  rw [rounds_succ]
  go_wp2
  go_quiet (fail)
  go_wp2
  rw [rounds_succ]
  go_wp2
  go_quiet (fail)
  go_wp2
  rw [rounds_succ]
  go_wp2
  go_quiet (fail)
  go_wp2
  rw [rounds_succ]
  go_wp2
  go_quiet (fail)
  go_wp2
  rw [rounds_succ]
  go_wp2
  go_ret
  exact ⟨rfl, (by repeat (first | with_reducible exact Below.refl _ _ | with_reducible assumption | with_reducible refine Below.drew ?_ | with_reducible refine below_drewN ?_ _ | with_reducible refine Below.alloc ?_ ?_ _ | with_reducible refine Below.setCell ?_ ?_ _ | with_reducible refine Below.trans ?_ (Below.mono (by assumption) ?_) | omega | (simp <;> omega)))⟩

set_option maxRecDepth 100000 in
theorem eqSheet_same (a0 a1 a2 a3 a4 a5 : Int) (w : World) :
    Calls Tryd.prog 6 #[(.agg #[.int .i64 a0, .int .i64 a1, .int .i64 a2, .int .i64 a3, .int .i64 a4, .int .i64 a5]), (.agg #[.int .i64 a0, .int .i64 a1, .int .i64 a2, .int .i64 a3, .int .i64 a4, .int .i64 a5])] w fun e w' => e = .returned (.bool true) ∧ Below w.heap.size w w' := by
  go_enter Tryd.func6, Tryd.ntmps6
  go_wp2_with (go_at_call 13; (with_reducible refine (eqIntA6_same _ _ _ _ _ _ _).mono ?_); rintro e w1 ⟨rfl, hb⟩; obtain ⟨hc, hf, hT, hz⟩ := bfacts hb; (try simp only [World.size_alloc, World.size_setCell, World.size_drew, size_drewN] at hc hf hT hz); (try (have hzA := Nat.lt_of_succ_le hz)); (try (have hl0 : w.heap.size ≤ w1.heap.size := by omega)); (try (have hz0 : w.heap.size < w1.heap.size := by omega)); (try (have hz1 : w.heap.size + 1 < w1.heap.size := by omega)); (try (have hz2 : w.heap.size + 1 + 1 < w1.heap.size := by omega)); (try (have hz3 : w.heap.size + 1 + 1 + 1 < w1.heap.size := by omega)); (try (have hz4 : w.heap.size + 1 + 1 + 1 + 1 < w1.heap.size := by omega)))
  go_ret
  exact ⟨rfl, (by repeat (first | with_reducible exact Below.refl _ _ | with_reducible assumption | with_reducible refine Below.drew ?_ | with_reducible refine below_drewN ?_ _ | with_reducible refine Below.alloc ?_ ?_ _ | with_reducible refine Below.setCell ?_ ?_ _ | with_reducible refine Below.trans ?_ (Below.mono (by assumption) ?_) | omega | (simp <;> omega)))⟩

/-- three results of which the third is false -/
def TwoNo (w : World) (e : Ending) (w' : World) : Prop := ∃ x y : Int, e = .returned (.tuple #[.int .u64 x, .int .u64 y, .bool false]) ∧ Below w.heap.size w w'

end Go.Proofs.YtlemkphajmnbdaaDoor
