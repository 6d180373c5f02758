/-
  The walk of the law FnExactCellsOf: whatever the arguments, it returns true. No conditions.
-/
import Derived.Test.YtphoapmmliiimaaF2d
import Derived.Deep.CutRange
import Derived.Deep.DeepCutAuto
import Derived.Deep.RegionHeld3
namespace Go.Proofs.Ytphoapmmliiimaa
open Go.RowKit
set_option linter.unusedSimpArgs false
set_option linter.unusedVariables false
set_option maxRecDepth 100000 in
set_option maxHeartbeats 2000000 in
theorem lawCellsOf (a0 a1 a2 a3 a4 a5 : Int) (w : World) : Calls Try.prog 12 #[(.agg #[.int .i64 a0, .int .i64 a1, .int .i64 a2, .int .i64 a3, .int .i64 a4, .int .i64 a5])] w fun e w' => e = .returned (.bool true) ∧ Below w.heap.size w w' := by
  by_cases ha : Ok6 a0 a1 a2 a3 a4 a5
  · obtain ⟨X, hX, rfl, rfl, rfl, rfl, rfl, rfl⟩ := set_of_rows a0 a1 a2 a3 a4 a5 ha.1 ha.2.1 ha.2.2.1 ha.2.2.2.1 ha.2.2.2.2.1 ha.2.2.2.2.2
    clear ha
    have hle : (cellsL X).length ≤ 300 := by have := cellsL_le X; omega
    go_enter Try.func12, Try.ntmps12
    go_wp2_with (go_at_call 15; (with_reducible refine (toSheet_any _ _ _ _ _ _ _).mono ?_); rintro e w1 ⟨rfl, hb⟩; obtain ⟨hc, hf, hT, hz⟩ := bfacts hb; (try simp only [World.size_alloc, World.size_setCell, World.size_drew, size_drewN] at hc hf hT hz); (try (have hzA := Nat.lt_of_succ_le hz)); (try (have hl0 : w.heap.size ≤ w1.heap.size := by omega)); (try (have hz0 : w.heap.size < w1.heap.size := by omega)); (try (have hz1 : w.heap.size + 1 < w1.heap.size := by omega)); (try (have hz2 : w.heap.size + 1 + 1 < w1.heap.size := by omega)); (try (have hz3 : w.heap.size + 1 + 1 + 1 < w1.heap.size := by omega)); (try (have hz4 : w.heap.size + 1 + 1 + 1 + 1 < w1.heap.size := by omega)))
    have hW1 : Below w.heap.size w w1 := (by repeat (first | with_reducible exact Below.refl _ _ | with_reducible assumption | with_reducible refine Below.drew ?_ | with_reducible refine below_drewN ?_ _ | with_reducible refine Below.alloc ?_ ?_ _ | with_reducible refine Below.setCell ?_ ?_ _ | with_reducible refine Below.trans ?_ (Below.mono (by assumption) ?_) | omega | (simp <;> omega)))
    have hb1 : HoldsA w1 24 w.heap.size (row X 0) (row X 1) (row X 2) (row X 3) (row X 4) (row X 5) := HoldsA.below (HoldsA.made w _ _ _ _ _ _ _) hb (by simp)
    have hx0 := hb1.c0
    have hx1 := hb1.c1
    have hx2 := hb1.c2
    have hx3 := hb1.c3
    have hx4 := hb1.c4
    have hx5 := hb1.c5
    have hxf := hb1.free
    go_wp2_with (go_at_call 34; (with_reducible refine (specCellsOf_ok X hX _).mono ?_); rintro e w1 ⟨gs, cs, rfl, js, hS, hb⟩; obtain ⟨hc, hf, hT, hz⟩ := bfacts hb; (try simp only [World.size_alloc, World.size_setCell, World.size_drew, size_drewN] at hc hf hT hz); (try (have hzA := Nat.lt_of_succ_le hz)); (try (have hl0 : w.heap.size ≤ w1.heap.size := by omega)); (try (have hz0 : w.heap.size < w1.heap.size := by omega)); (try (have hz1 : w.heap.size + 1 < w1.heap.size := by omega)); (try (have hz2 : w.heap.size + 1 + 1 < w1.heap.size := by omega)); (try (have hz3 : w.heap.size + 1 + 1 + 1 < w1.heap.size := by omega)); (try (have hz4 : w.heap.size + 1 + 1 + 1 + 1 < w1.heap.size := by omega)))
    have hW2 := hW1.trans (hb.mono hW1.size)
    have hb2 := hb1.below hb hb1.lt
    have hy0 := hb2.c0
    have hy1 := hb2.c1
    have hy2 := hb2.c2
    have hy3 := hb2.c3
    have hy4 := hb2.c4
    have hy5 := hb2.c5
    have hyf := hb2.free
    go_wp2_with (go_at_call 15; (with_reducible refine (toSheet_any _ _ _ _ _ _ _).mono ?_); rintro e w1 ⟨rfl, hb⟩; obtain ⟨hc, hf, hT, hz⟩ := bfacts hb; (try simp only [World.size_alloc, World.size_setCell, World.size_drew, size_drewN] at hc hf hT hz); (try (have hzA := Nat.lt_of_succ_le hz)); (try (have hl0 : w.heap.size ≤ w1.heap.size := by omega)); (try (have hz0 : w.heap.size < w1.heap.size := by omega)); (try (have hz1 : w.heap.size + 1 < w1.heap.size := by omega)); (try (have hz2 : w.heap.size + 1 + 1 < w1.heap.size := by omega)); (try (have hz3 : w.heap.size + 1 + 1 + 1 < w1.heap.size := by omega)); (try (have hz4 : w.heap.size + 1 + 1 + 1 + 1 < w1.heap.size := by omega)))
    have hW3 := hW2.trans (hb.mono hW2.size)
    have hb3 := hb2.below hb hb2.lt
    have hS3 := hS.below hb hS.2.2 hb.size
    go_wp2_with (go_at_call 35; (with_reducible refine (implCellsOf_ok X hX _).mono ?_); rintro e w1 ⟨gi, ci, rfl, ji, hG, hb⟩; obtain ⟨hc, hf, hT, hz⟩ := bfacts hb; (try simp only [World.size_alloc, World.size_setCell, World.size_drew, size_drewN] at hc hf hT hz); (try (have hzA := Nat.lt_of_succ_le hz)); (try (have hl0 : w.heap.size ≤ w1.heap.size := by omega)); (try (have hz0 : w.heap.size < w1.heap.size := by omega)); (try (have hz1 : w.heap.size + 1 < w1.heap.size := by omega)); (try (have hz2 : w.heap.size + 1 + 1 < w1.heap.size := by omega)); (try (have hz3 : w.heap.size + 1 + 1 + 1 < w1.heap.size := by omega)); (try (have hz4 : w.heap.size + 1 + 1 + 1 + 1 < w1.heap.size := by omega)))
    have hW4 := hW3.trans (hb.mono hW3.size)
    have hb4 := hb3.below hb hb3.lt
    have hS4 := hS3.below hb hS3.2.2 hb.size
    have hlt1 : gs < gi := Nat.lt_of_lt_of_le hS3.2.2 ji
    have hlt2 : w.heap.size < gi := Nat.lt_of_lt_of_le hb3.lt ji
    go_wp2_with (go_at_call 36; (with_reducible refine (eqS_any gi gs (cellsL X).length _ _ (prF (cellsL X)) hle _ hG hS4).mono ?_); rintro e w1 ⟨rfl, hb⟩; obtain ⟨hc, hf, hT, hz⟩ := bfacts hb; (try simp only [World.size_alloc, World.size_setCell, World.size_drew, size_drewN] at hc hf hT hz); (try (have hzA := Nat.lt_of_succ_le hz)); (try (have hl0 : w.heap.size ≤ w1.heap.size := by omega)); (try (have hz0 : w.heap.size < w1.heap.size := by omega)); (try (have hz1 : w.heap.size + 1 < w1.heap.size := by omega)); (try (have hz2 : w.heap.size + 1 + 1 < w1.heap.size := by omega)); (try (have hz3 : w.heap.size + 1 + 1 + 1 < w1.heap.size := by omega)); (try (have hz4 : w.heap.size + 1 + 1 + 1 + 1 < w1.heap.size := by omega)))
    have hW5 := hW4.trans (hb.mono hW4.size)
    have hb5 := hb4.below hb hb4.lt
    have hS5 := hS4.below hb hS4.2.2 hb.size
    have hG5 := hG.below hb hG.2.2 hb.size
    go_wp2_with (go_at_call 37; (with_reducible refine (mark_any gi (cellsL X).length _ (prF (cellsL X)) hle _ hG5).mono ?_); rintro e w1 ⟨rfl, hm⟩)
    have hbm := hm.2.2.2.1
    have hW6 : Below w.heap.size w w1 := hW5.trans (hbm.mono (by omega))
    have hb6 := hb5.below hbm hlt2
    have hS6 := hS5.below hbm hlt1 (by have := hm.2.2.2.2; have := hG5.2.2; omega)
    have hG6 : SlI w1 gi ((cellsL X).length * 2) (fun j => (j : Int) + 1) := ⟨hm.2.1, hm.2.2.1, by have := hm.2.2.2.2; have := hG5.2.2; omega⟩
    clear hbm hm
    have hz0 := hb6.c0
    have hz1 := hb6.c1
    have hz2 := hb6.c2
    have hz3 := hb6.c3
    have hz4 := hb6.c4
    have hz5 := hb6.c5
    have hzf := hb6.free
    have HG6 := Lib.hid hG6
    go_wp2_with (first | (go_at_call 38; (with_reducible refine (held_any gi (cellsL X).length _ hle _ HG6.out).mono ?_); rintro e w1 ⟨rfl, rfl⟩) | (go_at_call 15; (with_reducible refine (toSheet_any _ _ _ _ _ _ _).mono ?_); rintro e w1 ⟨rfl, hb⟩; obtain ⟨hc, hf, hT, hz⟩ := bfacts hb; (try simp only [World.size_alloc, World.size_setCell, World.size_drew, size_drewN] at hc hf hT hz); (try (have hzA := Nat.lt_of_succ_le hz)); (try (have hl0 : w.heap.size ≤ w1.heap.size := by omega)); (try (have hz0 : w.heap.size < w1.heap.size := by omega)); (try (have hz1 : w.heap.size + 1 < w1.heap.size := by omega)); (try (have hz2 : w.heap.size + 1 + 1 < w1.heap.size := by omega)); (try (have hz3 : w.heap.size + 1 + 1 + 1 < w1.heap.size := by omega)); (try (have hz4 : w.heap.size + 1 + 1 + 1 + 1 < w1.heap.size := by omega))))
    have hW7 := hW6.trans (hb.mono hW6.size)
    have hb7 := hb6.below hb hb6.lt
    have hS7 := hS6.below hb hS6.2.2 hb.size
    have hG7 := hG6.below hb hG6.2.2 hb.size
    go_wp2_with (go_at_call 35; (with_reducible refine (implCellsOf_ok X hX _).mono ?_); rintro e w1 ⟨gk, ck, rfl, jk, hK, hb⟩; obtain ⟨hc, hf, hT, hz⟩ := bfacts hb; (try simp only [World.size_alloc, World.size_setCell, World.size_drew, size_drewN] at hc hf hT hz); (try (have hzA := Nat.lt_of_succ_le hz)); (try (have hl0 : w.heap.size ≤ w1.heap.size := by omega)); (try (have hz0 : w.heap.size < w1.heap.size := by omega)); (try (have hz1 : w.heap.size + 1 < w1.heap.size := by omega)); (try (have hz2 : w.heap.size + 1 + 1 < w1.heap.size := by omega)); (try (have hz3 : w.heap.size + 1 + 1 + 1 < w1.heap.size := by omega)); (try (have hz4 : w.heap.size + 1 + 1 + 1 + 1 < w1.heap.size := by omega)))
    have hW8 := hW7.trans (hb.mono hW7.size)
    have hS8 := hS7.below hb hS7.2.2 hb.size
    have hG8 := hG7.below hb hG7.2.2 hb.size
    go_wp2_with (go_at_call 36; (with_reducible refine (eqS_any gk gs (cellsL X).length _ _ (prF (cellsL X)) hle _ hK hS8).mono ?_); rintro e w1 ⟨rfl, hb⟩; obtain ⟨hc, hf, hT, hz⟩ := bfacts hb; (try simp only [World.size_alloc, World.size_setCell, World.size_drew, size_drewN] at hc hf hT hz); (try (have hzA := Nat.lt_of_succ_le hz)); (try (have hl0 : w.heap.size ≤ w1.heap.size := by omega)); (try (have hz0 : w.heap.size < w1.heap.size := by omega)); (try (have hz1 : w.heap.size + 1 < w1.heap.size := by omega)); (try (have hz2 : w.heap.size + 1 + 1 < w1.heap.size := by omega)); (try (have hz3 : w.heap.size + 1 + 1 + 1 < w1.heap.size := by omega)); (try (have hz4 : w.heap.size + 1 + 1 + 1 + 1 < w1.heap.size := by omega)))
    have hW9 := hW8.trans (hb.mono hW8.size)
    have hG9 := hG8.below hb hG8.2.2 hb.size
    have HG9 := Lib.hid hG9
    go_wp2_with (go_at_call 38; (with_reducible refine (held_any gi (cellsL X).length _ hle _ HG9.out).mono ?_); rintro e w1 ⟨rfl, rfl⟩)
    go_ret
    exact ⟨rfl, hW9⟩
  · have hn := ha
    clear ha
    go_enter Try.func12, Try.ntmps12
    go_wp2_with (first | (go_at_call 15; (with_reducible refine (toSheet_any _ _ _ _ _ _ _).mono ?_); rintro e w1 ⟨rfl, hb⟩; obtain ⟨hc, hf, hT, hz⟩ := bfacts hb; (try simp only [World.size_alloc, World.size_setCell, World.size_drew, size_drewN] at hc hf hT hz); (try (have hzA := Nat.lt_of_succ_le hz)); (try (have hl0 : w.heap.size ≤ w1.heap.size := by omega)); (try (have hz0 : w.heap.size < w1.heap.size := by omega)); (try (have hz1 : w.heap.size + 1 < w1.heap.size := by omega)); (try (have hz2 : w.heap.size + 1 + 1 < w1.heap.size := by omega)); (try (have hz3 : w.heap.size + 1 + 1 + 1 < w1.heap.size := by omega)); (try (have hz4 : w.heap.size + 1 + 1 + 1 + 1 < w1.heap.size := by omega))) | (go_at_call 34; (with_reducible refine (specCellsOf_no _ _ _ _ _ _ hn _).mono ?_); rintro e w1 ⟨as1, cs1, rfl, hb⟩; obtain ⟨hc, hf, hT, hz⟩ := bfacts hb; (try simp only [World.size_alloc, World.size_setCell, World.size_drew, size_drewN] at hc hf hT hz); (try (have hzA := Nat.lt_of_succ_le hz)); (try (have hl0 : w.heap.size ≤ w1.heap.size := by omega)); (try (have hz0 : w.heap.size < w1.heap.size := by omega)); (try (have hz1 : w.heap.size + 1 < w1.heap.size := by omega)); (try (have hz2 : w.heap.size + 1 + 1 < w1.heap.size := by omega)); (try (have hz3 : w.heap.size + 1 + 1 + 1 < w1.heap.size := by omega)); (try (have hz4 : w.heap.size + 1 + 1 + 1 + 1 < w1.heap.size := by omega))) | (go_at_call 35; (with_reducible refine (implCellsOf_no _ _ _ _ _ _ hn _).mono ?_); rintro e w1 ⟨as1, cs1, rfl, hb⟩; obtain ⟨hc, hf, hT, hz⟩ := bfacts hb; (try simp only [World.size_alloc, World.size_setCell, World.size_drew, size_drewN] at hc hf hT hz); (try (have hzA := Nat.lt_of_succ_le hz)); (try (have hl0 : w.heap.size ≤ w1.heap.size := by omega)); (try (have hz0 : w.heap.size < w1.heap.size := by omega)); (try (have hz1 : w.heap.size + 1 < w1.heap.size := by omega)); (try (have hz2 : w.heap.size + 1 + 1 < w1.heap.size := by omega)); (try (have hz3 : w.heap.size + 1 + 1 + 1 < w1.heap.size := by omega)); (try (have hz4 : w.heap.size + 1 + 1 + 1 + 1 < w1.heap.size := by omega))) | (go_at_call 36; (with_reducible refine (eqS_nil _ _ _ _ _).mono ?_); rintro e w1 ⟨rfl, rfl⟩) | (go_at_call 37; (with_reducible refine (mark_nil _ _ _).mono ?_); rintro e w1 ⟨rfl, rfl⟩) | (go_at_call 38; (with_reducible refine (held_nil _ _ _).mono ?_); rintro e w1 ⟨rfl, rfl⟩))
    go_ret
    exact ⟨rfl, (by repeat (first | with_reducible exact Below.refl _ _ | with_reducible assumption | with_reducible refine Below.drew ?_ | with_reducible refine below_drewN ?_ _ | with_reducible refine Below.alloc ?_ ?_ _ | with_reducible refine Below.setCell ?_ ?_ _ | with_reducible refine Below.trans ?_ (Below.mono (by assumption) ?_) | omega | (simp <;> omega)))⟩
end Go.Proofs.Ytphoapmmliiimaa
