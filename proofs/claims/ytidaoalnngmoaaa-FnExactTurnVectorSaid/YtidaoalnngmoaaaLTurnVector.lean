/-
  The walk of the law FnExactTurnVector: whatever the arguments, it returns true. No conditions.
-/
import Derived.Test.YtidaoalnngmoaaaDd
import Derived.Deep.CutRange
import Derived.Deep.DeepCutAuto
import Derived.Deep.RegionHeld3
namespace Go.Proofs.Ytidaoalnngmoaaa
open Go.RowKit
set_option linter.unusedSimpArgs false
set_option linter.unusedVariables false
set_option maxRecDepth 100000 in
set_option maxHeartbeats 2000000 in
theorem lawTurnVector (k x y : Int) (w : World) : Calls Try.prog 3 #[.int .i64 k, .int .i64 x, .int .i64 y] w fun e w' => e = .returned (.bool true) ∧ Below w.heap.size w w' := by
  by_cases hm : Mot k x y
  · obtain ⟨⟨k0, k1⟩, hx, hy⟩ := hm
    obtain ⟨t, rfl⟩ : ∃ n : Nat, k = (n : Int) := ⟨k.toNat, by omega⟩
    have ht : t < 8 := by omega
    clear k0 k1
    go_enter Try.func3, Try.ntmps3
    go_upto_region 1 with fail
    go_cut [7, 8, 9] from 13 (fun s7 s8 s9 wx => s7 = .int .i64 (vT t (x, y)).1 ∧ s8 = .int .i64 (vT t (x, y)).2 ∧ s9 = .bool true ∧ Below w.heap.size w wx ∧ w.heap.size ≤ wx.heap.size)
    case first =>
      go_wp2_with (first | (go_at_call 18; (with_reducible refine (specTurnVector_ok _ _ _ ht hx hy _).mono ?_); rintro e w1 ⟨rfl, hb⟩; obtain ⟨hc, hf, hT, hz⟩ := bfacts hb; (try simp only [World.size_alloc, World.size_setCell, World.size_drew, size_drewN] at hc hf hT hz); (try (have hzA := Nat.lt_of_succ_le hz)); (try (have hl0 : w.heap.size ≤ w1.heap.size := by omega)); (try (have hz0 : w.heap.size < w1.heap.size := by omega)); (try (have hz1 : w.heap.size + 1 < w1.heap.size := by omega)); (try (have hz2 : w.heap.size + 1 + 1 < w1.heap.size := by omega)); (try (have hz3 : w.heap.size + 1 + 1 + 1 < w1.heap.size := by omega)); (try (have hz4 : w.heap.size + 1 + 1 + 1 + 1 < w1.heap.size := by omega))))
      all_goals (go_wp2_with fail; go_meet; refine ⟨rfl, rfl, rfl, ?_, ?_⟩ <;> first | with_reducible assumption | (simp [*, World.cell?_alloc_lt, World.cell?_setCell_far, Nat.ne_of_gt]; done) | (simp [go_sem, *]; done) | omega | (simp (maxDischargeDepth := 8) [*, World.cell?_alloc_lt, World.cell?_setCell_far, Nat.ne_of_gt]; done) | (simp (maxDischargeDepth := 8) [go_sem, *]; done) | exact (by repeat (first | with_reducible exact Below.refl _ _ | with_reducible assumption | with_reducible refine Below.drew ?_ | with_reducible refine below_drewN ?_ _ | with_reducible refine Below.alloc ?_ ?_ _ | with_reducible refine Below.setCell ?_ ?_ _ | with_reducible refine Below.trans ?_ (Below.mono (by assumption) ?_) | omega | (simp <;> omega))))
    case rest =>
      obtain ⟨rfl, rfl, rfl, fs0, fs1⟩ := hcut
      go_upto_region 2 with fail
      go_cut [10, 11, 12] from 13 (fun s10 s11 s12 wx => s10 = .int .i64 (vT t (x, y)).1 ∧ s11 = .int .i64 (vT t (x, y)).2 ∧ s12 = .bool true ∧ Below w.heap.size w wx ∧ w.heap.size ≤ wx.heap.size)
      case first =>
        go_wp2_with (first | (go_at_call 19; (with_reducible refine (implTurnVector_ok _ _ _ ht hx hy _).mono ?_); rintro e w1 ⟨rfl, hb⟩; obtain ⟨hc, hf, hT, hz⟩ := bfacts hb; (try simp only [World.size_alloc, World.size_setCell, World.size_drew, size_drewN] at hc hf hT hz); (try (have hzA := Nat.lt_of_succ_le hz)); (try (have hl0 : w.heap.size ≤ w1.heap.size := by omega)); (try (have hz0 : w.heap.size < w1.heap.size := by omega)); (try (have hz1 : w.heap.size + 1 < w1.heap.size := by omega)); (try (have hz2 : w.heap.size + 1 + 1 < w1.heap.size := by omega)); (try (have hz3 : w.heap.size + 1 + 1 + 1 < w1.heap.size := by omega)); (try (have hz4 : w.heap.size + 1 + 1 + 1 + 1 < w1.heap.size := by omega)); (try (have gxwcheapsize : wc.heap.size < w1.heap.size := by omega))))
        all_goals (go_wp2_with fail; go_meet; refine ⟨rfl, rfl, rfl, ?_, ?_⟩ <;> first | with_reducible assumption | (simp [*, World.cell?_alloc_lt, World.cell?_setCell_far, Nat.ne_of_gt]; done) | (simp [go_sem, *]; done) | omega | (simp (maxDischargeDepth := 8) [*, World.cell?_alloc_lt, World.cell?_setCell_far, Nat.ne_of_gt]; done) | (simp (maxDischargeDepth := 8) [go_sem, *]; done) | exact (by repeat (first | with_reducible exact Below.refl _ _ | with_reducible assumption | with_reducible refine Below.drew ?_ | with_reducible refine below_drewN ?_ _ | with_reducible refine Below.alloc ?_ ?_ _ | with_reducible refine Below.setCell ?_ ?_ _ | with_reducible refine Below.trans ?_ (Below.mono (by assumption) ?_) | omega | (simp <;> omega))))
      case rest =>
        obtain ⟨rfl, rfl, rfl, fi0, fi1⟩ := hcut
        go_wp2_with fail
        go_ret
        exact ⟨rfl, (by repeat (first | with_reducible exact Below.refl _ _ | with_reducible assumption | with_reducible refine Below.drew ?_ | with_reducible refine below_drewN ?_ _ | with_reducible refine Below.alloc ?_ ?_ _ | with_reducible refine Below.setCell ?_ ?_ _ | with_reducible refine Below.trans ?_ (Below.mono (by assumption) ?_) | omega | (simp <;> omega)))⟩
  · go_enter Try.func3, Try.ntmps3
    go_upto_region 1 with fail
    go_cut [7, 8, 9] from 13 (fun s7 s8 s9 wx => s7 = .int .i64 0 ∧ s8 = .int .i64 0 ∧ s9 = .bool false ∧ Below w.heap.size w wx ∧ w.heap.size ≤ wx.heap.size)
    case first =>
      go_wp2_with (first | (go_at_call 18; (with_reducible refine (specTurnVector_no _ _ _ hm _).mono ?_); rintro e w1 ⟨rfl, hb⟩; obtain ⟨hc, hf, hT, hz⟩ := bfacts hb; (try simp only [World.size_alloc, World.size_setCell, World.size_drew, size_drewN] at hc hf hT hz); (try (have hzA := Nat.lt_of_succ_le hz)); (try (have hl0 : w.heap.size ≤ w1.heap.size := by omega)); (try (have hz0 : w.heap.size < w1.heap.size := by omega)); (try (have hz1 : w.heap.size + 1 < w1.heap.size := by omega)); (try (have hz2 : w.heap.size + 1 + 1 < w1.heap.size := by omega)); (try (have hz3 : w.heap.size + 1 + 1 + 1 < w1.heap.size := by omega)); (try (have hz4 : w.heap.size + 1 + 1 + 1 + 1 < w1.heap.size := by omega))))
      all_goals (go_wp2_with fail; go_meet; refine ⟨rfl, rfl, rfl, ?_, ?_⟩ <;> first | with_reducible assumption | (simp [*, World.cell?_alloc_lt, World.cell?_setCell_far, Nat.ne_of_gt]; done) | (simp [go_sem, *]; done) | omega | (simp (maxDischargeDepth := 8) [*, World.cell?_alloc_lt, World.cell?_setCell_far, Nat.ne_of_gt]; done) | (simp (maxDischargeDepth := 8) [go_sem, *]; done) | exact (by repeat (first | with_reducible exact Below.refl _ _ | with_reducible assumption | with_reducible refine Below.drew ?_ | with_reducible refine below_drewN ?_ _ | with_reducible refine Below.alloc ?_ ?_ _ | with_reducible refine Below.setCell ?_ ?_ _ | with_reducible refine Below.trans ?_ (Below.mono (by assumption) ?_) | omega | (simp <;> omega))))
    case rest =>
      obtain ⟨rfl, rfl, rfl, fs0, fs1⟩ := hcut
      go_upto_region 2 with fail
      go_cut [10, 11, 12] from 13 (fun s10 s11 s12 wx => s10 = .int .i64 0 ∧ s11 = .int .i64 0 ∧ s12 = .bool false ∧ Below w.heap.size w wx ∧ w.heap.size ≤ wx.heap.size)
      case first =>
        go_wp2_with (first | (go_at_call 19; (with_reducible refine (implTurnVector_no _ _ _ hm _).mono ?_); rintro e w1 ⟨rfl, hb⟩; obtain ⟨hc, hf, hT, hz⟩ := bfacts hb; (try simp only [World.size_alloc, World.size_setCell, World.size_drew, size_drewN] at hc hf hT hz); (try (have hzA := Nat.lt_of_succ_le hz)); (try (have hl0 : w.heap.size ≤ w1.heap.size := by omega)); (try (have hz0 : w.heap.size < w1.heap.size := by omega)); (try (have hz1 : w.heap.size + 1 < w1.heap.size := by omega)); (try (have hz2 : w.heap.size + 1 + 1 < w1.heap.size := by omega)); (try (have hz3 : w.heap.size + 1 + 1 + 1 < w1.heap.size := by omega)); (try (have hz4 : w.heap.size + 1 + 1 + 1 + 1 < w1.heap.size := by omega)); (try (have gxwcheapsize : wc.heap.size < w1.heap.size := by omega))))
        all_goals (go_wp2_with fail; go_meet; refine ⟨rfl, rfl, rfl, ?_, ?_⟩ <;> first | with_reducible assumption | (simp [*, World.cell?_alloc_lt, World.cell?_setCell_far, Nat.ne_of_gt]; done) | (simp [go_sem, *]; done) | omega | (simp (maxDischargeDepth := 8) [*, World.cell?_alloc_lt, World.cell?_setCell_far, Nat.ne_of_gt]; done) | (simp (maxDischargeDepth := 8) [go_sem, *]; done) | exact (by repeat (first | with_reducible exact Below.refl _ _ | with_reducible assumption | with_reducible refine Below.drew ?_ | with_reducible refine below_drewN ?_ _ | with_reducible refine Below.alloc ?_ ?_ _ | with_reducible refine Below.setCell ?_ ?_ _ | with_reducible refine Below.trans ?_ (Below.mono (by assumption) ?_) | omega | (simp <;> omega))))
      case rest =>
        obtain ⟨rfl, rfl, rfl, fi0, fi1⟩ := hcut
        go_wp2_with fail
        go_ret
        exact ⟨rfl, (by repeat (first | with_reducible exact Below.refl _ _ | with_reducible assumption | with_reducible refine Below.drew ?_ | with_reducible refine below_drewN ?_ _ | with_reducible refine Below.alloc ?_ ?_ _ | with_reducible refine Below.setCell ?_ ?_ _ | with_reducible refine Below.trans ?_ (Below.mono (by assumption) ?_) | omega | (simp <;> omega)))⟩
end Go.Proofs.Ytidaoalnngmoaaa
