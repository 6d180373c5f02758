/-
  Contracts of the reference's l5Spread and l5Shrink. No conditions.
-/
import Derived.Test.YtgjgefbcfcomcaaDoorCl
import Derived.Deep.RegionWith
namespace Go.Proofs.YtgjgefbcfcomcaaDoor
open Go.RowKit
set_option linter.unusedSimpArgs false
set_option linter.unusedVariables false

theorem pairs_get (L : List Nat) : ∀ j, j < L.length → (pairs L)[2 * j]? = some (.int .i64 ((L.getD j 0 % 6 : Nat) : Int)) ∧ (pairs L)[2 * j + 1]? = some (.int .i64 ((L.getD j 0 / 6 : Nat) : Int)) := by
  induction L with
  | nil => intro j hj; simp at hj
  | cons a L ih =>
    intro j hj
    have e : pairs (a :: L) = Value.int .i64 ((a % 6 : Nat) : Int) :: Value.int .i64 ((a / 6 : Nat) : Int) :: pairs L := by unfold pairs; simp
    rw [e]
    cases j with
    | zero => simp
    | succ j =>
      have h := ih j (by simpa using hj)
      rw [show 2 * (j + 1) = 2 * j + 1 + 1 from by omega]
      simpa using h

theorem pairs_form {w : World} {B : Nat} {v : Value} {L : List Nat} (h : OwnsPairs w B v L) :
    ∃ g cap, v = .slice (some ⟨g, 0, none⟩) L.length cap ∧ B ≤ g ∧ g < w.heap.size ∧ ∀ j, j < L.length → w.cell? ⟨g, 2 * j, none⟩ = some (.int .i64 ((L.getD j 0 % 6 : Nat) : Int)) ∧ w.cell? ⟨g, 2 * j + 1, none⟩ = some (.int .i64 ((L.getD j 0 / 6 : Nat) : Int)) := by
  obtain ⟨hown, hnn⟩ := h
  rcases Joins.ownsRow_forms hown with ⟨rfl, _⟩ | ⟨g, cap, rfl⟩
  · exact absurd rfl hnn
  · have hl := hown.lt g rfl
    refine ⟨g, cap, rfl, hl.1, hl.2, fun j hj => ?_⟩
    rw [hown.cellAt (2 * j) (by omega), hown.cellAt (2 * j + 1) (by omega)]
    exact pairs_get L j hj

theorem zero_rows (i : Nat) : row 0 i = 0 := by unfold row; simp

/-- behind k cells of the loop of l5Spread: what came in stays, the sheet in block B is what is spread so far -/
def S5Rel (X : Nat) (L : List Nat) (w w1 : World) (B : Nat) (i : Value) (wr : World) : Prop :=
  ∃ k : Nat, k ≤ L.length ∧ i = .int .i64 (k : Int) ∧ Below w1.heap.size w1 wr ∧ w1.heap.size < wr.heap.size ∧
    HoldsA wr 27 w1.heap.size (row (orT X L k) 0) (row (orT X L k) 1) (row (orT X L k) 2) (row (orT X L k) 3) (row (orT X L k) 4) (row (orT X L k) 5)

end Go.Proofs.YtgjgefbcfcomcaaDoor
