/-
  Contracts of sizes of sheets of the reference. No conditions.
-/
import Derived.Test.YtgjgefbcfcomcaaDoorEa
namespace Go.Proofs.YtgjgefbcfcomcaaDoor
open Go.RowKit
set_option linter.unusedSimpArgs false
set_option linter.unusedVariables false

def CtRel (X : Nat) (m i : Value) : Prop := ∃ y : Nat, y ≤ 6 ∧ i = .int .i64 (y : Int) ∧ m = .int .i64 ((dsN 1 (6 * y) X : Nat) : Int)
def CtIn (X y : Nat) (m r : Value) : Prop := ∃ a b : Nat, b < 64 ∧ m = .int .i64 (a : Int) ∧ r = .int .i64 (b : Int) ∧ Hid (a + dsN 1 6 b = dsN 1 (6 * (y + 1)) X)
set_option maxRecDepth 100000 in
set_option maxHeartbeats 1600000 in
theorem l2Count_any (X : Nat) (w : World) : Calls Tryd.prog 64 #[(.agg #[.int .i64 (row X 0), .int .i64 (row X 1), .int .i64 (row X 2), .int .i64 (row X 3), .int .i64 (row X 4), .int .i64 (row X 5)])] w fun e w' => e = .returned (.int .i64 ((popN X : Nat) : Int)) ∧ Below w.heap.size w w' := by
  have loX0 := row_lo X 0
  have loX1 := row_lo X 1
  have loX2 := row_lo X 2
  have loX3 := row_lo X 3
  have loX4 := row_lo X 4
  have loX5 := row_lo X 5
  have hiX0 := row_hi X 0
  have hiX1 := row_hi X 1
  have hiX2 := row_hi X 2
  have hiX3 := row_hi X 3
  have hiX4 := row_hi X 4
  have hiX5 := row_hi X 5
  go_enter Tryd.func64, Tryd.ntmps64
  go_wp2
  go_loop [3, 4] (CtRel X) (fun _ i => 6 - (intOf i).toNat)
  case atStart => exact ⟨0, by omega, rfl, rfl⟩
  case round =>
    obtain ⟨y, hy, rfl, rfl⟩ := hrel
    by_cases hlt : y < 6
    · have hlt' : (y : Int) < 6 := by omega
      have hle := ds1_le (6 * (y + 1)) X
      have hr := Lib.hid (pop_row y X)
      rcases (by omega : y = 0 ∨ y = 1 ∨ y = 2 ∨ y = 3 ∨ y = 4 ∨ y = 5) with rfl | rfl | rfl | rfl | rfl | rfl
      all_goals
        go_wp2
        go_loop [3, 5] (CtIn X _) (fun _ r => (intOf r).toNat)
        case atStart => exact ⟨_, _, Nat.mod_lt _ (by omega), rfl, rfl, Lib.hid hr.out.symm⟩
        case round =>
          obtain ⟨a, b, hb, rfl, rfl, hs⟩ := hrel
          have hs1 := hs.out
          by_cases hz : 0 < b
          · have hz' : 0 < (b : Int) := by omega
            have ha : a ≤ 36 := by omega
            have hh := pop_half b hb
            clear hs1
            have hH := Lib.hid hh
            clear hh
            go_wp2
            go_round
            case rel => exact ⟨a + b % 2, b / 2, by omega, by first | rfl | go_num, by first | rfl | go_num, Lib.hid (by have h1 := hs.out; have h2 := hH.out; omega)⟩
            case measure => simp [intOf]; omega
          · have e : b = 0 := by omega
            subst e
            have h0 : dsN 1 6 0 = 0 := rfl
            have ha := hs1
            rw [h0, Nat.add_zero] at ha
            clear hs1 h0
            have hA := Lib.hid ha
            clear ha
            go_wp2
            go_round
            case rel => first | exact ⟨1, by omega, by first | rfl | go_num, by rw [hA.out]⟩ | exact ⟨2, by omega, by first | rfl | go_num, by rw [hA.out]⟩ | exact ⟨3, by omega, by first | rfl | go_num, by rw [hA.out]⟩ | exact ⟨4, by omega, by first | rfl | go_num, by rw [hA.out]⟩ | exact ⟨5, by omega, by first | rfl | go_num, by rw [hA.out]⟩ | exact ⟨6, by omega, by first | rfl | go_num, by rw [hA.out]⟩
            case measure => simp [intOf] <;> omega
    · have e : y = 6 := by omega
      subst e
      go_wp2
      go_ret
      exact ⟨rfl, (by repeat (first | with_reducible exact Below.refl _ _ | with_reducible assumption | with_reducible refine Below.drew ?_ | with_reducible refine below_drewN ?_ _ | with_reducible refine Below.alloc ?_ ?_ _ | with_reducible refine Below.setCell ?_ ?_ _ | with_reducible refine Below.trans ?_ (Below.mono (by assumption) ?_) | omega | (simp <;> omega)))⟩
end Go.Proofs.YtgjgefbcfcomcaaDoor
