/-
  Sheets in memory, and the contracts of the reference's l2Flip and l2Cells. No conditions.
-/
import Derived.Test.YtlemkphajmnbdaaDoorCg
import Derived.Test.YtlemkphajmnbdaaDoorCj
import Derived.Test.YtlemkphajmnbdaaDoorMathC
namespace Go.Proofs.YtlemkphajmnbdaaDoor
open Go.RowKit
set_option linter.unusedSimpArgs false
set_option linter.unusedVariables false

/-- block B is a row of six whole numbers -/
def HoldsA (w : World) (T B : Nat) (a0 a1 a2 a3 a4 a5 : Int) : Prop :=
  w.heap[B]? = some (.cells #[.int .i64 a0, .int .i64 a1, .int .i64 a2, .int .i64 a3, .int .i64 a4, .int .i64 a5] T (0, 0))
section
variable {w w' : World} {T B N : Nat} {a0 a1 a2 a3 a4 a5 : Int}
theorem HoldsA.c0 (h : HoldsA w T B a0 a1 a2 a3 a4 a5) : w.cell? ⟨B, 0, none⟩ = some (.int .i64 a0) := by unfold HoldsA at h; simp [World.cell?, h]
theorem HoldsA.c1 (h : HoldsA w T B a0 a1 a2 a3 a4 a5) : w.cell? ⟨B, 1, none⟩ = some (.int .i64 a1) := by unfold HoldsA at h; simp [World.cell?, h]
theorem HoldsA.c2 (h : HoldsA w T B a0 a1 a2 a3 a4 a5) : w.cell? ⟨B, 2, none⟩ = some (.int .i64 a2) := by unfold HoldsA at h; simp [World.cell?, h]
theorem HoldsA.c3 (h : HoldsA w T B a0 a1 a2 a3 a4 a5) : w.cell? ⟨B, 3, none⟩ = some (.int .i64 a3) := by unfold HoldsA at h; simp [World.cell?, h]
theorem HoldsA.c4 (h : HoldsA w T B a0 a1 a2 a3 a4 a5) : w.cell? ⟨B, 4, none⟩ = some (.int .i64 a4) := by unfold HoldsA at h; simp [World.cell?, h]
theorem HoldsA.c5 (h : HoldsA w T B a0 a1 a2 a3 a4 a5) : w.cell? ⟨B, 5, none⟩ = some (.int .i64 a5) := by unfold HoldsA at h; simp [World.cell?, h]
theorem HoldsA.free (h : HoldsA w T B a0 a1 a2 a3 a4 a5) (o : Nat) : w.frozen? ⟨B, o, none⟩ = false := by unfold HoldsA at h; simp [World.frozen?, h]
theorem HoldsA.lt (h : HoldsA w T B a0 a1 a2 a3 a4 a5) : B < w.heap.size := World.block_lt_of_cell? w _ h.c0
theorem HoldsA.below (h : HoldsA w T B a0 a1 a2 a3 a4 a5) (hb : Below N w w') (hB : B < N) : HoldsA w' T B a0 a1 a2 a3 a4 a5 := (hb.block B hB).trans h
theorem HoldsA.made (w : World) (T : Nat) (a0 a1 a2 a3 a4 a5 : Int) : HoldsA (w.alloc (.cells #[.int .i64 a0, .int .i64 a1, .int .i64 a2, .int .i64 a3, .int .i64 a4, .int .i64 a5] T)) T w.heap.size a0 a1 a2 a3 a4 a5 :=
  heap_alloc_new w _
theorem HoldsA.alloc (h : HoldsA w T B a0 a1 a2 a3 a4 a5) (o : Obj) : HoldsA (w.alloc o) T B a0 a1 a2 a3 a4 a5 := by
  unfold HoldsA at *; rw [Below.heap_alloc _ _ _ (by simpa using HoldsA.lt (T := T) h)]; exact h
theorem HoldsA.drew (h : HoldsA w T B a0 a1 a2 a3 a4 a5) : HoldsA w.drew T B a0 a1 a2 a3 a4 a5 := h
theorem HoldsA.drewN (h : HoldsA w T B a0 a1 a2 a3 a4 a5) (n : Nat) : HoldsA (w.drewN n) T B a0 a1 a2 a3 a4 a5 := h
theorem HoldsA.far (h : HoldsA w T B a0 a1 a2 a3 a4 a5) (p : Addr) (v : Value) (hp : B ≠ p.block) : HoldsA (w.setCell p v) T B a0 a1 a2 a3 a4 a5 := by
  unfold HoldsA at *; rw [Below.heap_setCell _ _ _ _ hp]; exact h
theorem HoldsA.store (h : HoldsA w T B a0 a1 a2 a3 a4 a5) (b0 b1 b2 b3 b4 b5 : Int) :
    HoldsA ((((((w.setCell ⟨B, 0, none⟩ (.int .i64 b0)).setCell ⟨B, 1, none⟩ (.int .i64 b1)).setCell ⟨B, 2, none⟩ (.int .i64 b2)).setCell ⟨B, 3, none⟩ (.int .i64 b3)).setCell ⟨B, 4, none⟩ (.int .i64 b4)).setCell ⟨B, 5, none⟩ (.int .i64 b5)) T B b0 b1 b2 b3 b4 b5 := by
  unfold HoldsA at *
  simp [World.setCell, Array.getElem?_modify, h]
end

theorem flip_row (X y x : Nat) (hx : x < 6) : bits .xor .i64 (row X y) (wrap64 (2 ^ x)) = row (X ^^^ 2 ^ (6 * y + x)) y := by
  unfold row
  rw [row_flip_same X y x hx]
  have h1 : 2 ^ x ≤ 2 ^ 5 := Nat.pow_le_pow_right (by omega) (by omega)
  have h2 := xor_i64 (X / 64 ^ y % 64) (2 ^ x) (by omega) (by omega)
  rw [← h2]
  congr 1
  rw [show (2 : Int) ^ x = ((2 ^ x : Nat) : Int) from by simp]
  generalize 2 ^ x = z at *
  exact IntWalk.wrap64_in _ ⟨by omega, by omega⟩

set_option maxRecDepth 100000 in
theorem l2Flip_any (X x y : Nat) (hx : x < 6) (hy : y < 6) (w : World) :
    Calls Tryd.prog 14 #[(.agg #[.int .i64 (row X 0), .int .i64 (row X 1), .int .i64 (row X 2), .int .i64 (row X 3), .int .i64 (row X 4), .int .i64 (row X 5)]), .int .i64 (x : Int), .int .i64 (y : Int)] w fun e w' => e = .returned (.agg #[.int .i64 (row (X ^^^ 2 ^ (6 * y + x)) 0), .int .i64 (row (X ^^^ 2 ^ (6 * y + x)) 1), .int .i64 (row (X ^^^ 2 ^ (6 * y + x)) 2), .int .i64 (row (X ^^^ 2 ^ (6 * y + x)) 3), .int .i64 (row (X ^^^ 2 ^ (6 * y + x)) 4), .int .i64 (row (X ^^^ 2 ^ (6 * y + x)) 5)]) ∧ Below w.heap.size w w' := by
  have hx1 : (x : Int) < 6 := by omega
  have hs := flip_row X y x hx
  have ho := fun i hi => row_flip_other X y x i hx hi
  generalize X ^^^ 2 ^ (6 * y + x) = Z at *
  rcases (by omega : y = 0 ∨ y = 1 ∨ y = 2 ∨ y = 3 ∨ y = 4 ∨ y = 5) with rfl | rfl | rfl | rfl | rfl | rfl
  · have e1 := (ho 1 (by omega)).symm
    have e2 := (ho 2 (by omega)).symm
    have e3 := (ho 3 (by omega)).symm
    have e4 := (ho 4 (by omega)).symm
    have e5 := (ho 5 (by omega)).symm
    clear ho
    go_enter Tryd.func14, Tryd.ntmps14
    go_wp2
    go_region
    all_goals
      go_wp2
      exact bodyPost_ret (v := (.agg #[.int .i64 (row Z 0), .int .i64 (row Z 1), .int .i64 (row Z 2), .int .i64 (row Z 3), .int .i64 (row Z 4), .int .i64 (row Z 5)])) (by simp [results, Tryd.results14, go_sem, *]) rfl ⟨rfl, (by repeat (first | with_reducible exact Below.refl _ _ | with_reducible assumption | with_reducible refine Below.drew ?_ | with_reducible refine below_drewN ?_ _ | with_reducible refine Below.alloc ?_ ?_ _ | with_reducible refine Below.setCell ?_ ?_ _ | with_reducible refine Below.trans ?_ (Below.mono (by assumption) ?_) | omega | (simp <;> omega)))⟩
  · have e0 := (ho 0 (by omega)).symm
    have e2 := (ho 2 (by omega)).symm
    have e3 := (ho 3 (by omega)).symm
    have e4 := (ho 4 (by omega)).symm
    have e5 := (ho 5 (by omega)).symm
    clear ho
    go_enter Tryd.func14, Tryd.ntmps14
    go_wp2
    go_region
    all_goals
      go_wp2
      exact bodyPost_ret (v := (.agg #[.int .i64 (row Z 0), .int .i64 (row Z 1), .int .i64 (row Z 2), .int .i64 (row Z 3), .int .i64 (row Z 4), .int .i64 (row Z 5)])) (by simp [results, Tryd.results14, go_sem, *]) rfl ⟨rfl, (by repeat (first | with_reducible exact Below.refl _ _ | with_reducible assumption | with_reducible refine Below.drew ?_ | with_reducible refine below_drewN ?_ _ | with_reducible refine Below.alloc ?_ ?_ _ | with_reducible refine Below.setCell ?_ ?_ _ | with_reducible refine Below.trans ?_ (Below.mono (by assumption) ?_) | omega | (simp <;> omega)))⟩
  · have e0 := (ho 0 (by omega)).symm
    have e1 := (ho 1 (by omega)).symm
    have e3 := (ho 3 (by omega)).symm
    have e4 := (ho 4 (by omega)).symm
    have e5 := (ho 5 (by omega)).symm
    clear ho
    go_enter Tryd.func14, Tryd.ntmps14
    go_wp2
    go_region
    all_goals
      go_wp2
      exact bodyPost_ret (v := (.agg #[.int .i64 (row Z 0), .int .i64 (row Z 1), .int .i64 (row Z 2), .int .i64 (row Z 3), .int .i64 (row Z 4), .int .i64 (row Z 5)])) (by simp [results, Tryd.results14, go_sem, *]) rfl ⟨rfl, (by repeat (first | with_reducible exact Below.refl _ _ | with_reducible assumption | with_reducible refine Below.drew ?_ | with_reducible refine below_drewN ?_ _ | with_reducible refine Below.alloc ?_ ?_ _ | with_reducible refine Below.setCell ?_ ?_ _ | with_reducible refine Below.trans ?_ (Below.mono (by assumption) ?_) | omega | (simp <;> omega)))⟩
  · have e0 := (ho 0 (by omega)).symm
    have e1 := (ho 1 (by omega)).symm
    have e2 := (ho 2 (by omega)).symm
    have e4 := (ho 4 (by omega)).symm
    have e5 := (ho 5 (by omega)).symm
    clear ho
    go_enter Tryd.func14, Tryd.ntmps14
    go_wp2
    go_region
    all_goals
      go_wp2
      exact bodyPost_ret (v := (.agg #[.int .i64 (row Z 0), .int .i64 (row Z 1), .int .i64 (row Z 2), .int .i64 (row Z 3), .int .i64 (row Z 4), .int .i64 (row Z 5)])) (by simp [results, Tryd.results14, go_sem, *]) rfl ⟨rfl, (by repeat (first | with_reducible exact Below.refl _ _ | with_reducible assumption | with_reducible refine Below.drew ?_ | with_reducible refine below_drewN ?_ _ | with_reducible refine Below.alloc ?_ ?_ _ | with_reducible refine Below.setCell ?_ ?_ _ | with_reducible refine Below.trans ?_ (Below.mono (by assumption) ?_) | omega | (simp <;> omega)))⟩
  · have e0 := (ho 0 (by omega)).symm
    have e1 := (ho 1 (by omega)).symm
    have e2 := (ho 2 (by omega)).symm
    have e3 := (ho 3 (by omega)).symm
    have e5 := (ho 5 (by omega)).symm
    clear ho
    go_enter Tryd.func14, Tryd.ntmps14
    go_wp2
    go_region
    all_goals
      go_wp2
      exact bodyPost_ret (v := (.agg #[.int .i64 (row Z 0), .int .i64 (row Z 1), .int .i64 (row Z 2), .int .i64 (row Z 3), .int .i64 (row Z 4), .int .i64 (row Z 5)])) (by simp [results, Tryd.results14, go_sem, *]) rfl ⟨rfl, (by repeat (first | with_reducible exact Below.refl _ _ | with_reducible assumption | with_reducible refine Below.drew ?_ | with_reducible refine below_drewN ?_ _ | with_reducible refine Below.alloc ?_ ?_ _ | with_reducible refine Below.setCell ?_ ?_ _ | with_reducible refine Below.trans ?_ (Below.mono (by assumption) ?_) | omega | (simp <;> omega)))⟩
  · have e0 := (ho 0 (by omega)).symm
    have e1 := (ho 1 (by omega)).symm
    have e2 := (ho 2 (by omega)).symm
    have e3 := (ho 3 (by omega)).symm
    have e4 := (ho 4 (by omega)).symm
    clear ho
    go_enter Tryd.func14, Tryd.ntmps14
    go_wp2
    go_region
    all_goals
      go_wp2
      exact bodyPost_ret (v := (.agg #[.int .i64 (row Z 0), .int .i64 (row Z 1), .int .i64 (row Z 2), .int .i64 (row Z 3), .int .i64 (row Z 4), .int .i64 (row Z 5)])) (by simp [results, Tryd.results14, go_sem, *]) rfl ⟨rfl, (by repeat (first | with_reducible exact Below.refl _ _ | with_reducible assumption | with_reducible refine Below.drew ?_ | with_reducible refine below_drewN ?_ _ | with_reducible refine Below.alloc ?_ ?_ _ | with_reducible refine Below.setCell ?_ ?_ _ | with_reducible refine Below.trans ?_ (Below.mono (by assumption) ?_) | omega | (simp <;> omega)))⟩

/-- the cells of a list, as pairs -/
def pairs (L : List Nat) : List Value := L.flatMap fun n : Nat => [Value.int .i64 ((n % 6 : Nat) : Int), Value.int .i64 ((n / 6 : Nat) : Int)]
theorem pairs_len (L : List Nat) : (pairs L).length = L.length * 2 := by
  unfold pairs
  induction L with
  | nil => rfl
  | cons a L ih =>
    rw [List.flatMap_cons, List.length_append, ih]
    simp only [List.length_cons, List.length_nil]
    omega
theorem pairs_snoc (L : List Nat) (n : Nat) : pairs (L ++ [n]) = pairs L ++ [Value.int .i64 ((n % 6 : Nat) : Int), Value.int .i64 ((n / 6 : Nat) : Int)] := by
  unfold pairs; simp
end Go.Proofs.YtlemkphajmnbdaaDoor
