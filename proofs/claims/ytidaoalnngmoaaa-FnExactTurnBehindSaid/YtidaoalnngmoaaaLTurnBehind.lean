/-
  The walk of the law FnExactTurnBehind: whatever the arguments, it returns true. No conditions.
-/
import Derived.Test.YtidaoalnngmoaaaDe
import Derived.Deep.CutRange
import Derived.Deep.DeepCutAuto
import Derived.Deep.RegionHeld3
namespace Go.Proofs.Ytidaoalnngmoaaa
open Go.RowKit
set_option linter.unusedSimpArgs false
set_option linter.unusedVariables false
set_option maxRecDepth 100000 in
set_option maxHeartbeats 2000000 in
theorem lawTurnBehind (k m : Int) (w : World) : Calls Try.prog 4 #[.int .i64 k, .int .i64 m] w fun e w' => e = .returned (.bool true) ∧ Below w.heap.size w w' := by
  by_cases hm : (0 ≤ k ∧ k < 8) ∧ (0 ≤ m ∧ m < 8)
  · obtain ⟨t, rfl⟩ : ∃ n : Nat, k = (n : Int) := ⟨k.toNat, by omega⟩
    obtain ⟨u, rfl⟩ : ∃ n : Nat, m = (n : Int) := ⟨m.toNat, by omega⟩
    have ht : t < 8 := by omega
    have hu : u < 8 := by omega
    clear hm
    go_enter Try.func4, Try.ntmps4
    go_upto_region 1 with fail
    go_cut [5, 6] from 9 (fun s5 s6 wx => s5 = .int .i64 ((tbN t u : Nat) : Int) ∧ s6 = .bool true ∧ Below w.heap.size w wx ∧ w.heap.size ≤ wx.heap.size)
    case first =>
      go_wp2_with (first | (go_at_call 20; (with_reducible refine (specTurnBehind_ok _ _ ht hu _).mono ?_); rintro e w1 ⟨rfl, hb⟩; obtain ⟨hc, hf, hT, hz⟩ := bfacts hb; (try simp only [World.size_alloc, World.size_setCell, World.size_drew, size_drewN] at hc hf hT hz); (try (have hzA := Nat.lt_of_succ_le hz)); (try (have hl0 : w.heap.size ≤ w1.heap.size := by omega)); (try (have hz0 : w.heap.size < w1.heap.size := by omega)); (try (have hz1 : w.heap.size + 1 < w1.heap.size := by omega)); (try (have hz2 : w.heap.size + 1 + 1 < w1.heap.size := by omega)); (try (have hz3 : w.heap.size + 1 + 1 + 1 < w1.heap.size := by omega)); (try (have hz4 : w.heap.size + 1 + 1 + 1 + 1 < w1.heap.size := by omega))))
      all_goals (go_wp2_with fail; go_meet; refine ⟨rfl, rfl, ?_, ?_⟩ <;> first | with_reducible assumption | (simp [*, World.cell?_alloc_lt, World.cell?_setCell_far, Nat.ne_of_gt]; done) | (simp [go_sem, *]; done) | omega | (simp (maxDischargeDepth := 8) [*, World.cell?_alloc_lt, World.cell?_setCell_far, Nat.ne_of_gt]; done) | (simp (maxDischargeDepth := 8) [go_sem, *]; done) | exact (by repeat (first | with_reducible exact Below.refl _ _ | with_reducible assumption | with_reducible refine Below.drew ?_ | with_reducible refine below_drewN ?_ _ | with_reducible refine Below.alloc ?_ ?_ _ | with_reducible refine Below.setCell ?_ ?_ _ | with_reducible refine Below.trans ?_ (Below.mono (by assumption) ?_) | omega | (simp <;> omega))))
    case rest =>
      obtain ⟨rfl, rfl, fs0, fs1⟩ := hcut
      go_upto_region 2 with fail
      go_cut [7, 8] from 9 (fun s7 s8 wx => s7 = .int .i64 ((tbN t u : Nat) : Int) ∧ s8 = .bool true ∧ Below w.heap.size w wx ∧ w.heap.size ≤ wx.heap.size)
      case first =>
        go_wp2_with (first | (go_at_call 21; (with_reducible refine (implTurnBehind_ok _ _ ht hu _).mono ?_); rintro e w1 ⟨rfl, hb⟩; obtain ⟨hc, hf, hT, hz⟩ := bfacts hb; (try simp only [World.size_alloc, World.size_setCell, World.size_drew, size_drewN] at hc hf hT hz); (try (have hzA := Nat.lt_of_succ_le hz)); (try (have hl0 : w.heap.size ≤ w1.heap.size := by omega)); (try (have hz0 : w.heap.size < w1.heap.size := by omega)); (try (have hz1 : w.heap.size + 1 < w1.heap.size := by omega)); (try (have hz2 : w.heap.size + 1 + 1 < w1.heap.size := by omega)); (try (have hz3 : w.heap.size + 1 + 1 + 1 < w1.heap.size := by omega)); (try (have hz4 : w.heap.size + 1 + 1 + 1 + 1 < w1.heap.size := by omega)); (try (have gxwcheapsize : wc.heap.size < w1.heap.size := by omega))))
        all_goals (go_wp2_with fail; go_meet; refine ⟨rfl, rfl, ?_, ?_⟩ <;> first | with_reducible assumption | (simp [*, World.cell?_alloc_lt, World.cell?_setCell_far, Nat.ne_of_gt]; done) | (simp [go_sem, *]; done) | omega | (simp (maxDischargeDepth := 8) [*, World.cell?_alloc_lt, World.cell?_setCell_far, Nat.ne_of_gt]; done) | (simp (maxDischargeDepth := 8) [go_sem, *]; done) | exact (by repeat (first | with_reducible exact Below.refl _ _ | with_reducible assumption | with_reducible refine Below.drew ?_ | with_reducible refine below_drewN ?_ _ | with_reducible refine Below.alloc ?_ ?_ _ | with_reducible refine Below.setCell ?_ ?_ _ | with_reducible refine Below.trans ?_ (Below.mono (by assumption) ?_) | omega | (simp <;> omega))))
      case rest =>
        obtain ⟨rfl, rfl, fi0, fi1⟩ := hcut
        go_wp2_with fail
        go_ret
        exact ⟨rfl, (by repeat (first | with_reducible exact Below.refl _ _ | with_reducible assumption | with_reducible refine Below.drew ?_ | with_reducible refine below_drewN ?_ _ | with_reducible refine Below.alloc ?_ ?_ _ | with_reducible refine Below.setCell ?_ ?_ _ | with_reducible refine Below.trans ?_ (Below.mono (by assumption) ?_) | omega | (simp <;> omega)))⟩
  · go_enter Try.func4, Try.ntmps4
    go_upto_region 1 with fail
    go_cut [5, 6] from 9 (fun s5 s6 wx => s5 = .int .i64 0 ∧ s6 = .bool false ∧ Below w.heap.size w wx ∧ w.heap.size ≤ wx.heap.size)
    case first =>
      go_wp2_with (first | (go_at_call 20; (with_reducible refine (specTurnBehind_no _ _ hm _).mono ?_); rintro e w1 ⟨rfl, hb⟩; obtain ⟨hc, hf, hT, hz⟩ := bfacts hb; (try simp only [World.size_alloc, World.size_setCell, World.size_drew, size_drewN] at hc hf hT hz); (try (have hzA := Nat.lt_of_succ_le hz)); (try (have hl0 : w.heap.size ≤ w1.heap.size := by omega)); (try (have hz0 : w.heap.size < w1.heap.size := by omega)); (try (have hz1 : w.heap.size + 1 < w1.heap.size := by omega)); (try (have hz2 : w.heap.size + 1 + 1 < w1.heap.size := by omega)); (try (have hz3 : w.heap.size + 1 + 1 + 1 < w1.heap.size := by omega)); (try (have hz4 : w.heap.size + 1 + 1 + 1 + 1 < w1.heap.size := by omega))))
      all_goals (go_wp2_with fail; go_meet; refine ⟨rfl, rfl, ?_, ?_⟩ <;> first | with_reducible assumption | (simp [*, World.cell?_alloc_lt, World.cell?_setCell_far, Nat.ne_of_gt]; done) | (simp [go_sem, *]; done) | omega | (simp (maxDischargeDepth := 8) [*, World.cell?_alloc_lt, World.cell?_setCell_far, Nat.ne_of_gt]; done) | (simp (maxDischargeDepth := 8) [go_sem, *]; done) | exact (by repeat (first | with_reducible exact Below.refl _ _ | with_reducible assumption | with_reducible refine Below.drew ?_ | with_reducible refine below_drewN ?_ _ | with_reducible refine Below.alloc ?_ ?_ _ | with_reducible refine Below.setCell ?_ ?_ _ | with_reducible refine Below.trans ?_ (Below.mono (by assumption) ?_) | omega | (simp <;> omega))))
    case rest =>
      obtain ⟨rfl, rfl, fs0, fs1⟩ := hcut
      go_upto_region 2 with fail
      go_cut [7, 8] from 9 (fun s7 s8 wx => s7 = .int .i64 0 ∧ s8 = .bool false ∧ Below w.heap.size w wx ∧ w.heap.size ≤ wx.heap.size)
      case first =>
        go_wp2_with (first | (go_at_call 21; (with_reducible refine (implTurnBehind_no _ _ hm _).mono ?_); rintro e w1 ⟨rfl, hb⟩; obtain ⟨hc, hf, hT, hz⟩ := bfacts hb; (try simp only [World.size_alloc, World.size_setCell, World.size_drew, size_drewN] at hc hf hT hz); (try (have hzA := Nat.lt_of_succ_le hz)); (try (have hl0 : w.heap.size ≤ w1.heap.size := by omega)); (try (have hz0 : w.heap.size < w1.heap.size := by omega)); (try (have hz1 : w.heap.size + 1 < w1.heap.size := by omega)); (try (have hz2 : w.heap.size + 1 + 1 < w1.heap.size := by omega)); (try (have hz3 : w.heap.size + 1 + 1 + 1 < w1.heap.size := by omega)); (try (have hz4 : w.heap.size + 1 + 1 + 1 + 1 < w1.heap.size := by omega)); (try (have gxwcheapsize : wc.heap.size < w1.heap.size := by omega))))
        all_goals (go_wp2_with fail; go_meet; refine ⟨rfl, rfl, ?_, ?_⟩ <;> first | with_reducible assumption | (simp [*, World.cell?_alloc_lt, World.cell?_setCell_far, Nat.ne_of_gt]; done) | (simp [go_sem, *]; done) | omega | (simp (maxDischargeDepth := 8) [*, World.cell?_alloc_lt, World.cell?_setCell_far, Nat.ne_of_gt]; done) | (simp (maxDischargeDepth := 8) [go_sem, *]; done) | exact (by repeat (first | with_reducible exact Below.refl _ _ | with_reducible assumption | with_reducible refine Below.drew ?_ | with_reducible refine below_drewN ?_ _ | with_reducible refine Below.alloc ?_ ?_ _ | with_reducible refine Below.setCell ?_ ?_ _ | with_reducible refine Below.trans ?_ (Below.mono (by assumption) ?_) | omega | (simp <;> omega))))
      case rest =>
        obtain ⟨rfl, rfl, fi0, fi1⟩ := hcut
        go_wp2_with fail
        go_ret
        exact ⟨rfl, (by repeat (first | with_reducible exact Below.refl _ _ | with_reducible assumption | with_reducible refine Below.drew ?_ | with_reducible refine below_drewN ?_ _ | with_reducible refine Below.alloc ?_ ?_ _ | with_reducible refine Below.setCell ?_ ?_ _ | with_reducible refine Below.trans ?_ (Below.mono (by assumption) ?_) | omega | (simp <;> omega)))⟩
end Go.Proofs.Ytidaoalnngmoaaa
