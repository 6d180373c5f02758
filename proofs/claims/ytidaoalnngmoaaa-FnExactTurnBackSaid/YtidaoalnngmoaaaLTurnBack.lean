/-
  The walk of the law FnExactTurnBack: whatever the arguments, it returns true. No conditions.
-/
import Derived.Test.YtidaoalnngmoaaaDf
import Derived.Deep.CutRange
import Derived.Deep.DeepCutAuto
import Derived.Deep.RegionHeld3
namespace Go.Proofs.Ytidaoalnngmoaaa
open Go.RowKit
set_option linter.unusedSimpArgs false
set_option linter.unusedVariables false
set_option maxRecDepth 100000 in
set_option maxHeartbeats 2000000 in
theorem lawTurnBack (k : Int) (w : World) : Calls Try.prog 5 #[.int .i64 k] w fun e w' => e = .returned (.bool true) ∧ Below w.heap.size w w' := by
  by_cases hm : 0 ≤ k ∧ k < 8
  · obtain ⟨t, rfl⟩ : ∃ n : Nat, k = (n : Int) := ⟨k.toNat, by omega⟩
    have ht : t < 8 := by omega
    clear hm
    go_enter Try.func5, Try.ntmps5
    go_upto_region 1 with fail
    go_cut [3, 4] from 7 (fun s3 s4 wx => s3 = .int .i64 ((bkN t : Nat) : Int) ∧ s4 = .bool true ∧ Below w.heap.size w wx ∧ w.heap.size ≤ wx.heap.size)
    case first =>
      go_wp2_with (first | (go_at_call 22; (with_reducible refine (specTurnBack_ok _ ht _).mono ?_); rintro e w1 ⟨rfl, hb⟩; obtain ⟨hc, hf, hT, hz⟩ := bfacts hb; (try simp only [World.size_alloc, World.size_setCell, World.size_drew, size_drewN] at hc hf hT hz); (try (have hzA := Nat.lt_of_succ_le hz)); (try (have hl0 : w.heap.size ≤ w1.heap.size := by omega)); (try (have hz0 : w.heap.size < w1.heap.size := by omega)); (try (have hz1 : w.heap.size + 1 < w1.heap.size := by omega)); (try (have hz2 : w.heap.size + 1 + 1 < w1.heap.size := by omega)); (try (have hz3 : w.heap.size + 1 + 1 + 1 < w1.heap.size := by omega)); (try (have hz4 : w.heap.size + 1 + 1 + 1 + 1 < w1.heap.size := by omega))))
      all_goals (go_wp2_with fail; go_meet; refine ⟨rfl, rfl, ?_, ?_⟩ <;> first | with_reducible assumption | (simp [*, World.cell?_alloc_lt, World.cell?_setCell_far, Nat.ne_of_gt]; done) | (simp [go_sem, *]; done) | omega | (simp (maxDischargeDepth := 8) [*, World.cell?_alloc_lt, World.cell?_setCell_far, Nat.ne_of_gt]; done) | (simp (maxDischargeDepth := 8) [go_sem, *]; done) | exact (by repeat (first | with_reducible exact Below.refl _ _ | with_reducible assumption | with_reducible refine Below.drew ?_ | with_reducible refine below_drewN ?_ _ | with_reducible refine Below.alloc ?_ ?_ _ | with_reducible refine Below.setCell ?_ ?_ _ | with_reducible refine Below.trans ?_ (Below.mono (by assumption) ?_) | omega | (simp <;> omega))))
    case rest =>
      obtain ⟨rfl, rfl, fs0, fs1⟩ := hcut
      go_upto_region 2 with fail
      go_cut [5, 6] from 7 (fun s5 s6 wx => s5 = .int .i64 ((bkN t : Nat) : Int) ∧ s6 = .bool true ∧ Below w.heap.size w wx ∧ w.heap.size ≤ wx.heap.size)
      case first =>
        go_wp2_with (first | (go_at_call 23; (with_reducible refine (implTurnBack_ok _ ht _).mono ?_); rintro e w1 ⟨rfl, hb⟩; obtain ⟨hc, hf, hT, hz⟩ := bfacts hb; (try simp only [World.size_alloc, World.size_setCell, World.size_drew, size_drewN] at hc hf hT hz); (try (have hzA := Nat.lt_of_succ_le hz)); (try (have hl0 : w.heap.size ≤ w1.heap.size := by omega)); (try (have hz0 : w.heap.size < w1.heap.size := by omega)); (try (have hz1 : w.heap.size + 1 < w1.heap.size := by omega)); (try (have hz2 : w.heap.size + 1 + 1 < w1.heap.size := by omega)); (try (have hz3 : w.heap.size + 1 + 1 + 1 < w1.heap.size := by omega)); (try (have hz4 : w.heap.size + 1 + 1 + 1 + 1 < w1.heap.size := by omega)); (try (have gxwcheapsize : wc.heap.size < w1.heap.size := by omega))))
        all_goals (go_wp2_with fail; go_meet; refine ⟨rfl, rfl, ?_, ?_⟩ <;> first | with_reducible assumption | (simp [*, World.cell?_alloc_lt, World.cell?_setCell_far, Nat.ne_of_gt]; done) | (simp [go_sem, *]; done) | omega | (simp (maxDischargeDepth := 8) [*, World.cell?_alloc_lt, World.cell?_setCell_far, Nat.ne_of_gt]; done) | (simp (maxDischargeDepth := 8) [go_sem, *]; done) | exact (by repeat (first | with_reducible exact Below.refl _ _ | with_reducible assumption | with_reducible refine Below.drew ?_ | with_reducible refine below_drewN ?_ _ | with_reducible refine Below.alloc ?_ ?_ _ | with_reducible refine Below.setCell ?_ ?_ _ | with_reducible refine Below.trans ?_ (Below.mono (by assumption) ?_) | omega | (simp <;> omega))))
      case rest =>
        obtain ⟨rfl, rfl, fi0, fi1⟩ := hcut
        go_wp2_with fail
        go_ret
        exact ⟨rfl, (by repeat (first | with_reducible exact Below.refl _ _ | with_reducible assumption | with_reducible refine Below.drew ?_ | with_reducible refine below_drewN ?_ _ | with_reducible refine Below.alloc ?_ ?_ _ | with_reducible refine Below.setCell ?_ ?_ _ | with_reducible refine Below.trans ?_ (Below.mono (by assumption) ?_) | omega | (simp <;> omega)))⟩
  · go_enter Try.func5, Try.ntmps5
    go_upto_region 1 with fail
    go_cut [3, 4] from 7 (fun s3 s4 wx => s3 = .int .i64 0 ∧ s4 = .bool false ∧ Below w.heap.size w wx ∧ w.heap.size ≤ wx.heap.size)
    case first =>
      go_wp2_with (first | (go_at_call 22; (with_reducible refine (specTurnBack_no _ hm _).mono ?_); rintro e w1 ⟨rfl, hb⟩; obtain ⟨hc, hf, hT, hz⟩ := bfacts hb; (try simp only [World.size_alloc, World.size_setCell, World.size_drew, size_drewN] at hc hf hT hz); (try (have hzA := Nat.lt_of_succ_le hz)); (try (have hl0 : w.heap.size ≤ w1.heap.size := by omega)); (try (have hz0 : w.heap.size < w1.heap.size := by omega)); (try (have hz1 : w.heap.size + 1 < w1.heap.size := by omega)); (try (have hz2 : w.heap.size + 1 + 1 < w1.heap.size := by omega)); (try (have hz3 : w.heap.size + 1 + 1 + 1 < w1.heap.size := by omega)); (try (have hz4 : w.heap.size + 1 + 1 + 1 + 1 < w1.heap.size := by omega))))
      all_goals (go_wp2_with fail; go_meet; refine ⟨rfl, rfl, ?_, ?_⟩ <;> first | with_reducible assumption | (simp [*, World.cell?_alloc_lt, World.cell?_setCell_far, Nat.ne_of_gt]; done) | (simp [go_sem, *]; done) | omega | (simp (maxDischargeDepth := 8) [*, World.cell?_alloc_lt, World.cell?_setCell_far, Nat.ne_of_gt]; done) | (simp (maxDischargeDepth := 8) [go_sem, *]; done) | exact (by repeat (first | with_reducible exact Below.refl _ _ | with_reducible assumption | with_reducible refine Below.drew ?_ | with_reducible refine below_drewN ?_ _ | with_reducible refine Below.alloc ?_ ?_ _ | with_reducible refine Below.setCell ?_ ?_ _ | with_reducible refine Below.trans ?_ (Below.mono (by assumption) ?_) | omega | (simp <;> omega))))
    case rest =>
      obtain ⟨rfl, rfl, fs0, fs1⟩ := hcut
      go_upto_region 2 with fail
      go_cut [5, 6] from 7 (fun s5 s6 wx => s5 = .int .i64 0 ∧ s6 = .bool false ∧ Below w.heap.size w wx ∧ w.heap.size ≤ wx.heap.size)
      case first =>
        go_wp2_with (first | (go_at_call 23; (with_reducible refine (implTurnBack_no _ hm _).mono ?_); rintro e w1 ⟨rfl, hb⟩; obtain ⟨hc, hf, hT, hz⟩ := bfacts hb; (try simp only [World.size_alloc, World.size_setCell, World.size_drew, size_drewN] at hc hf hT hz); (try (have hzA := Nat.lt_of_succ_le hz)); (try (have hl0 : w.heap.size ≤ w1.heap.size := by omega)); (try (have hz0 : w.heap.size < w1.heap.size := by omega)); (try (have hz1 : w.heap.size + 1 < w1.heap.size := by omega)); (try (have hz2 : w.heap.size + 1 + 1 < w1.heap.size := by omega)); (try (have hz3 : w.heap.size + 1 + 1 + 1 < w1.heap.size := by omega)); (try (have hz4 : w.heap.size + 1 + 1 + 1 + 1 < w1.heap.size := by omega)); (try (have gxwcheapsize : wc.heap.size < w1.heap.size := by omega))))
        all_goals (go_wp2_with fail; go_meet; refine ⟨rfl, rfl, ?_, ?_⟩ <;> first | with_reducible assumption | (simp [*, World.cell?_alloc_lt, World.cell?_setCell_far, Nat.ne_of_gt]; done) | (simp [go_sem, *]; done) | omega | (simp (maxDischargeDepth := 8) [*, World.cell?_alloc_lt, World.cell?_setCell_far, Nat.ne_of_gt]; done) | (simp (maxDischargeDepth := 8) [go_sem, *]; done) | exact (by repeat (first | with_reducible exact Below.refl _ _ | with_reducible assumption | with_reducible refine Below.drew ?_ | with_reducible refine below_drewN ?_ _ | with_reducible refine Below.alloc ?_ ?_ _ | with_reducible refine Below.setCell ?_ ?_ _ | with_reducible refine Below.trans ?_ (Below.mono (by assumption) ?_) | omega | (simp <;> omega))))
      case rest =>
        obtain ⟨rfl, rfl, fi0, fi1⟩ := hcut
        go_wp2_with fail
        go_ret
        exact ⟨rfl, (by repeat (first | with_reducible exact Below.refl _ _ | with_reducible assumption | with_reducible refine Below.drew ?_ | with_reducible refine below_drewN ?_ _ | with_reducible refine Below.alloc ?_ ?_ _ | with_reducible refine Below.setCell ?_ ?_ _ | with_reducible refine Below.trans ?_ (Below.mono (by assumption) ?_) | omega | (simp <;> omega)))⟩
end Go.Proofs.Ytidaoalnngmoaaa
