/-
  Contracts of the program's pressed, spread, where/shrunk, reflected and of the reference's l2At. No conditions.
-/
import Derived.Test.YtidaoalnngmoaaaCk
import Derived.Test.YtidaoalnngmoaaaCh
namespace Go.Proofs.Ytidaoalnngmoaaa
open Go.RowKit
set_option linter.unusedSimpArgs false
set_option linter.unusedVariables false

theorem ret_u64 {a b : Int} (h : a = b) : Ending.returned (.int .u64 a) = .returned (.int .u64 b) := by rw [h]

set_option maxRecDepth 100000 in
theorem pressed_any (X k : Nat) (hX : Vs X) (hk : k < 36) (w : World) : Calls Try.prog 91 #[.int .u64 (X : Int), .int .i64 (k : Int)] w fun e w' => e = .returned (.int .u64 ((pressN X k : Nat) : Int)) ∧ Below w.heap.size w w' := by
  have hk1 : (k : Int) < 36 := by omega
  go_enter Try.func91, Try.ntmps91
  go_wp2_with (go_at_call 104; (with_reducible refine (shifted_any _ _ _ (by assumption) _).mono ?_); rintro e w1 ⟨rfl, hb⟩; obtain ⟨hc, hf, hT, hz⟩ := bfacts hb; (try simp only [World.size_alloc, World.size_setCell, World.size_drew, size_drewN] at hc hf hT hz); (try (have hzA := Nat.lt_of_succ_le hz)); (try (have hl0 : w.heap.size ≤ w1.heap.size := by omega)); (try (have hz0 : w.heap.size < w1.heap.size := by omega)); (try (have hz1 : w.heap.size + 1 < w1.heap.size := by omega)); (try (have hz2 : w.heap.size + 1 + 1 < w1.heap.size := by omega)); (try (have hz3 : w.heap.size + 1 + 1 + 1 < w1.heap.size := by omega)); (try (have hz4 : w.heap.size + 1 + 1 + 1 + 1 < w1.heap.size := by omega)))
  go_ret
  exact ⟨ret_u64 (by unfold pressN; congr 2 <;> omega), (by repeat (first | with_reducible exact Below.refl _ _ | with_reducible assumption | with_reducible refine Below.drew ?_ | with_reducible refine below_drewN ?_ _ | with_reducible refine Below.alloc ?_ ?_ _ | with_reducible refine Below.setCell ?_ ?_ _ | with_reducible refine Below.trans ?_ (Below.mono (by assumption) ?_) | omega | (simp <;> omega)))⟩

theorem ints_form {w : World} {B : Nat} {v : Value} {L : List Nat} (h : OwnsInts w B v L) :
    ∃ g cap, v = .slice (some ⟨g, 0, none⟩) L.length cap ∧ B ≤ g ∧ g < w.heap.size ∧ ∀ j, j < L.length → w.cell? ⟨g, j, none⟩ = some (.int .i64 ((L.getD j 0 : Nat) : Int)) := by
  obtain ⟨hown, hnn⟩ := h
  rcases Joins.ownsRow_forms hown with ⟨rfl, _⟩ | ⟨g, cap, rfl⟩
  · exact absurd rfl hnn
  · have hl := hown.lt g rfl
    refine ⟨g, cap, rfl, hl.1, hl.2, fun j hj => ?_⟩
    rw [hown.cellAt j (by omega)]
    simp [List.getElem?_eq_getElem hj]

theorem getD_lt (X j : Nat) (h : j < (cellsL X).length) : (cellsL X).getD j 0 < 36 := by
  have : (cellsL X).getD j 0 ∈ cellsL X := by
    rw [List.getD_eq_getElem?_getD, List.getElem?_eq_getElem h]
    exact List.getElem_mem h
  exact cellsN_lt X 36 _ this

def SpRel (X : Nat) (L : List Nat) (w : World) (o i : Value) (wr : World) : Prop :=
  ∃ k : Nat, k ≤ L.length ∧ i = .int .i64 (k : Int) ∧ o = .int .u64 ((orT X L k : Nat) : Int) ∧ Below w.heap.size w wr

theorem or_vs_u64 {X Y : Nat} (hX : Vs X) (hY : Vs Y) : bits .or .u64 (X : Int) (Y : Int) = ((X ||| Y : Nat) : Int) :=
  or_u64 X Y (by have := hX.lt; omega) (by have := hY.lt; omega)

theorem mkN_step (p : Nat → Bool) (k : Nat) (h : p k = true) (hk : k < 36) :
    bits .or .u64 ((mkN p k : Nat) : Int) (IntKind.u64.wrap (2 ^ k)) = ((mkN p (k + 1) : Nat) : Int) := by
  have h1 := (mkN_vs p k (by omega)).lt
  have h2 : 2 ^ k < 2 ^ 36 := Nat.pow_lt_pow_right (by omega) hk
  have h3 := or_u64 (mkN p k) (2 ^ k) (by omega) (by omega)
  have h4 : IntKind.u64.wrap (2 ^ k) = ((2 ^ k : Nat) : Int) := by
    rw [show (2 : Int) ^ k = ((2 ^ k : Nat) : Int) from by simp]
    simp only [IntKind.wrap, IntKind.bits, IntKind.signed]
    simp only [Bool.false_and, Bool.false_eq_true, if_false]
    generalize 2 ^ k = z at h2
    exact Int.emod_eq_of_lt (by omega) (by omega)
  rw [mkN, if_pos h, ← h3, h4]

/-- a loop's relation of the program's where: k cells are asked -/
def WhRel (p : Nat → Bool) (w : World) (o i : Value) (wr : World) : Prop :=
  ∃ k : Nat, k ≤ 36 ∧ i = .int .i64 (k : Int) ∧ o = .int .u64 ((mkN p k : Nat) : Int) ∧ Below w.heap.size w wr

theorem neg_mod (k : Int) (h0 : 0 ≤ k) (h1 : k < 6) : -k % 6 = (6 - k) % 6 := by omega

end Go.Proofs.Ytidaoalnngmoaaa
