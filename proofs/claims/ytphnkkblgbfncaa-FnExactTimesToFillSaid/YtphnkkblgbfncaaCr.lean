/-
  Contracts of TimesToFill, of the program and of the reference. No conditions.
-/
import Derived.Test.YtphnkkblgbfncaaCp
namespace Go.Proofs.Ytphnkkblgbfncaa
open Go.RowKit
set_option linter.unusedSimpArgs false
set_option linter.unusedVariables false

/-- how often X has to be spread by Y till all is black; fuel, count so far -/
def fillR (Y : Nat) : Nat → Nat → Nat → Nat × Bool
  | 0, _, _ => (0, false)
  | f + 1, n, X => if X = 68719476735 then (n, true) else fillR Y f (n + 1) (spreadS X Y)
theorem fill_hit (X Y k : Nat) (hk : k ≤ 12) (h : itS X Y k = 68719476735) : fillR Y (13 - k) k (itS X Y k) = (k, true) := by
  rw [show 13 - k = (12 - k) + 1 from by omega, fillR, if_pos h]
theorem fill_step (X Y k : Nat) (hk : k ≤ 12) (h : ¬ itS X Y k = 68719476735) : fillR Y (13 - k) k (itS X Y k) = fillR Y (13 - (k + 1)) (k + 1) (itS X Y (k + 1)) := by
  rw [show 13 - k = (12 - k) + 1 from by omega, fillR, if_neg h, show 13 - (k + 1) = 12 - k from by omega]; rfl
theorem l2Not_zero (w : World) : Calls Try.prog 50 #[.agg #[.int .i64 0, .int .i64 0, .int .i64 0, .int .i64 0, .int .i64 0, .int .i64 0]] w fun e w' => e = .returned (.agg #[.int .i64 (row (oth 0) 0), .int .i64 (row (oth 0) 1), .int .i64 (row (oth 0) 2), .int .i64 (row (oth 0) 3), .int .i64 (row (oth 0) 4), .int .i64 (row (oth 0) 5)]) ∧ Below w.heap.size w w' := by
  have h := l2Not_any 0 (by unfold Vs; omega) w
  simp only [zero_rows] at h
  exact h
def TfRel (X Y : Nat) (w : World) (i : Value) (wr : World) : Prop :=
  ∃ k : Nat, k ≤ 13 ∧ i = .int .i64 (k : Int) ∧ Below w.heap.size w wr ∧ HoldsA wr 25 (w.heap.size) (row (itS X Y k) 0) (row (itS X Y k) 1) (row (itS X Y k) 2) (row (itS X Y k) 3) (row (itS X Y k) 4) (row (itS X Y k) 5) ∧ HoldsA wr 25 (w.heap.size + 1) (row Y 0) (row Y 1) (row Y 2) (row Y 3) (row Y 4) (row Y 5) ∧ fillR Y (13 - k) k (itS X Y k) = fillR Y 13 0 X

set_option maxRecDepth 100000 in
set_option maxHeartbeats 800000 in
theorem specTimesToFill_ok (X Y : Nat) (hX : Vs X) (hY : Vs Y) (w : World) : Calls Try.prog 20 #[(.agg #[.int .i64 (row X 0), .int .i64 (row X 1), .int .i64 (row X 2), .int .i64 (row X 3), .int .i64 (row X 4), .int .i64 (row X 5)]), (.agg #[.int .i64 (row Y 0), .int .i64 (row Y 1), .int .i64 (row Y 2), .int .i64 (row Y 3), .int .i64 (row Y 4), .int .i64 (row Y 5)])] w fun e w' => e = .returned (.tuple #[.int .i64 (((fillR Y 13 0 X).1 : Nat) : Int), .bool (fillR Y 13 0 X).2]) ∧ Below w.heap.size w w' := by
  go_enter Try.func20, Try.ntmps20
  go_wp2_with (go_at_call 38; (with_reducible refine (l2Sheet_ok _ _).mono ?_); rintro e w1 ⟨rfl, hb⟩; obtain ⟨hc, hf, hT, hz⟩ := bfacts hb; (try simp only [World.size_alloc, World.size_setCell, World.size_drew, size_drewN] at hc hf hT hz); (try (have hzA := Nat.lt_of_succ_le hz)); (try (have hl0 : w.heap.size ≤ w1.heap.size := by omega)); (try (have hz0 : w.heap.size < w1.heap.size := by omega)); (try (have hz1 : w.heap.size + 1 < w1.heap.size := by omega)); (try (have hz2 : w.heap.size + 1 + 1 < w1.heap.size := by omega)); (try (have hz3 : w.heap.size + 1 + 1 + 1 < w1.heap.size := by omega)); (try (have hz4 : w.heap.size + 1 + 1 + 1 + 1 < w1.heap.size := by omega)))
  go_loopw [6] (TfRel X Y w) (fun i _ => 13 - (intOf i).toNat)
  case atStart =>
    refine ⟨0, Nat.zero_le _, rfl, (by repeat (first | with_reducible exact Below.refl _ _ | with_reducible assumption | with_reducible refine Below.drew ?_ | with_reducible refine below_drewN ?_ _ | with_reducible refine Below.alloc ?_ ?_ _ | with_reducible refine Below.setCell ?_ ?_ _ | with_reducible refine Below.trans ?_ (Below.mono (by assumption) ?_) | omega | (simp <;> omega))), ?_, ?_, rfl⟩
    · show HoldsA _ 25 (w.heap.size) (row X 0) (row X 1) (row X 2) (row X 3) (row X 4) (row X 5)
      (repeat (first | with_reducible assumption | (with_reducible refine HoldsA.made' ?_; (simp; done)) | with_reducible refine HoldsA.alloc ?_ _ | with_reducible refine HoldsA.drew ?_ | with_reducible refine HoldsA.drewN ?_ _ | (with_reducible refine HoldsA.far ?_ _ _ (by first | (simp; done) | (simp; omega))) | (with_reducible refine HoldsA.below ?_ (by with_reducible assumption) (by first | (simp; done) | (simp; omega) | omega))))
    · (repeat (first | with_reducible assumption | (with_reducible refine HoldsA.made' ?_; (simp; done)) | with_reducible refine HoldsA.alloc ?_ _ | with_reducible refine HoldsA.drew ?_ | with_reducible refine HoldsA.drewN ?_ _ | (with_reducible refine HoldsA.far ?_ _ _ (by first | (simp; done) | (simp; omega))) | (with_reducible refine HoldsA.below ?_ (by with_reducible assumption) (by first | (simp; done) | (simp; omega) | omega))))
  case round =>
    obtain ⟨k, hk, rfl, hbw, h0, h1, hfl⟩ := hrel
    have hV := itS_vs hX Y k
    by_cases hlt : k ≤ 12
    · have hlt' : (k : Int) ≤ 12 := by omega
      have hx0 := h0.c0
      have hx1 := h0.c1
      have hx2 := h0.c2
      have hx3 := h0.c3
      have hx4 := h0.c4
      have hx5 := h0.c5
      have hxf := h0.free
      have hy0 := h1.c0
      have hy1 := h1.c1
      have hy2 := h1.c2
      have hy3 := h1.c3
      have hy4 := h1.c4
      have hy5 := h1.c5
      have hyf := h1.free
      have hlw := h0.lt
      have hlw1 := h1.lt
      by_cases hfull : itS X Y k = 68719476735
      · have hres : fillR Y 13 0 X = (k, true) := by rw [← hfl, fill_hit X Y k hlt hfull]
        have hd : decide (row (itS X Y k) 0 = row (oth 0) 0 ∧ row (itS X Y k) 1 = row (oth 0) 1 ∧ row (itS X Y k) 2 = row (oth 0) 2 ∧ row (itS X Y k) 3 = row (oth 0) 3 ∧ row (itS X Y k) 4 = row (oth 0) 4 ∧ row (itS X Y k) 5 = row (oth 0) 5) = true := by
          rw [decide_eq_true_eq, rows_iff _ _ hV (oth_vs 0)]; exact hfull
        have hRS := Lib.hid hres
        clear hres hfull hfl
        go_wp2
        go_region_held3 (fun w' => w'.cell? ⟨w.heap.size, 0, none⟩ = some (.int .i64 (row (itS X Y k) 0)) ∧ w'.cell? ⟨w.heap.size, 1, none⟩ = some (.int .i64 (row (itS X Y k) 1)) ∧ w'.cell? ⟨w.heap.size, 2, none⟩ = some (.int .i64 (row (itS X Y k) 2)) ∧ w'.cell? ⟨w.heap.size, 3, none⟩ = some (.int .i64 (row (itS X Y k) 3)) ∧ w'.cell? ⟨w.heap.size, 4, none⟩ = some (.int .i64 (row (itS X Y k) 4)) ∧ w'.cell? ⟨w.heap.size, 5, none⟩ = some (.int .i64 (row (itS X Y k) 5))) (simp [*, World.cell?_alloc_some, World.cell?_setCell_far, Nat.ne_of_gt]) (first | (go_at_call 50; (with_reducible refine (l2Not_zero _).mono ?_); rintro e w1 ⟨rfl, hb⟩; obtain ⟨hc, hf, hT, hz⟩ := bfacts hb; (try simp only [World.size_alloc, World.size_setCell, World.size_drew, size_drewN] at hc hf hT hz); (try (have hzA := Nat.lt_of_succ_le hz)); (try (have hl0 : w.heap.size ≤ w1.heap.size := by omega)); (try (have hz0 : w.heap.size < w1.heap.size := by omega)); (try (have hz1 : w.heap.size + 1 < w1.heap.size := by omega)); (try (have hz2 : w.heap.size + 1 + 1 < w1.heap.size := by omega)); (try (have hz3 : w.heap.size + 1 + 1 + 1 < w1.heap.size := by omega)); (try (have hz4 : w.heap.size + 1 + 1 + 1 + 1 < w1.heap.size := by omega))))
        all_goals
          go_wp2
          go_ret2
          exact ⟨by rw [hRS.out]; rfl, (by repeat (first | with_reducible exact Below.refl _ _ | with_reducible assumption | with_reducible refine Below.drew ?_ | with_reducible refine below_drewN ?_ _ | with_reducible refine Below.alloc ?_ ?_ _ | with_reducible refine Below.setCell ?_ ?_ _ | with_reducible refine Below.trans ?_ (Below.mono (by assumption) ?_) | omega | (simp <;> omega)))⟩
      · have hst : fillR Y (13 - (k + 1)) (k + 1) (itS X Y (k + 1)) = fillR Y 13 0 X := by rw [← hfl, fill_step X Y k hlt hfull]
        have hd : decide (row (itS X Y k) 0 = row (oth 0) 0 ∧ row (itS X Y k) 1 = row (oth 0) 1 ∧ row (itS X Y k) 2 = row (oth 0) 2 ∧ row (itS X Y k) 3 = row (oth 0) 3 ∧ row (itS X Y k) 4 = row (oth 0) 4 ∧ row (itS X Y k) 5 = row (oth 0) 5) = false := by
          rw [decide_eq_false_iff_not, rows_iff _ _ hV (oth_vs 0)]; exact hfull
        have hST := Lib.hid hst
        clear hst hfull hfl
        go_wp2
        go_region_held3 (fun w' => w'.cell? ⟨w.heap.size, 0, none⟩ = some (.int .i64 (row (itS X Y k) 0)) ∧ w'.cell? ⟨w.heap.size, 1, none⟩ = some (.int .i64 (row (itS X Y k) 1)) ∧ w'.cell? ⟨w.heap.size, 2, none⟩ = some (.int .i64 (row (itS X Y k) 2)) ∧ w'.cell? ⟨w.heap.size, 3, none⟩ = some (.int .i64 (row (itS X Y k) 3)) ∧ w'.cell? ⟨w.heap.size, 4, none⟩ = some (.int .i64 (row (itS X Y k) 4)) ∧ w'.cell? ⟨w.heap.size, 5, none⟩ = some (.int .i64 (row (itS X Y k) 5)) ∧ w'.cell? ⟨w.heap.size + 1, 0, none⟩ = some (.int .i64 (row Y 0)) ∧ w'.cell? ⟨w.heap.size + 1, 1, none⟩ = some (.int .i64 (row Y 1)) ∧ w'.cell? ⟨w.heap.size + 1, 2, none⟩ = some (.int .i64 (row Y 2)) ∧ w'.cell? ⟨w.heap.size + 1, 3, none⟩ = some (.int .i64 (row Y 3)) ∧ w'.cell? ⟨w.heap.size + 1, 4, none⟩ = some (.int .i64 (row Y 4)) ∧ w'.cell? ⟨w.heap.size + 1, 5, none⟩ = some (.int .i64 (row Y 5))) (simp [*, World.cell?_alloc_some, World.cell?_setCell_far, Nat.ne_of_gt]) (first | (go_at_call 50; (with_reducible refine (l2Not_zero _).mono ?_); rintro e w1 ⟨rfl, hb⟩; obtain ⟨hc, hf, hT, hz⟩ := bfacts hb; (try simp only [World.size_alloc, World.size_setCell, World.size_drew, size_drewN] at hc hf hT hz); (try (have hzA := Nat.lt_of_succ_le hz)); (try (have hl0 : w.heap.size ≤ w1.heap.size := by omega)); (try (have hz0 : w.heap.size < w1.heap.size := by omega)); (try (have hz1 : w.heap.size + 1 < w1.heap.size := by omega)); (try (have hz2 : w.heap.size + 1 + 1 < w1.heap.size := by omega)); (try (have hz3 : w.heap.size + 1 + 1 + 1 < w1.heap.size := by omega)); (try (have hz4 : w.heap.size + 1 + 1 + 1 + 1 < w1.heap.size := by omega))))
        all_goals
          have hBA : Below wr.heap.size wr w1 := (by repeat (first | with_reducible exact Below.refl _ _ | with_reducible assumption | with_reducible refine Below.drew ?_ | with_reducible refine below_drewN ?_ _ | with_reducible refine Below.alloc ?_ ?_ _ | with_reducible refine Below.setCell ?_ ?_ _ | with_reducible refine Below.trans ?_ (Below.mono (by assumption) ?_) | omega | (simp <;> omega)))
          have p0 := h0.below hBA h0.lt
          have p1 := h1.below hBA h1.lt
          have px0 := p0.c0
          have px1 := p0.c1
          have px2 := p0.c2
          have px3 := p0.c3
          have px4 := p0.c4
          have px5 := p0.c5
          have pxf := p0.free
          have py0 := p1.c0
          have py1 := p1.c1
          have py2 := p1.c2
          have py3 := p1.c3
          have py4 := p1.c4
          have py5 := p1.c5
          have pyf := p1.free
          have hpl := p0.lt
          have hpl1 := p1.lt
          go_wp2_with (go_at_call 51; (with_reducible refine (l5Spread_any _ _ _).mono ?_); rintro e w1 ⟨rfl, hb⟩; obtain ⟨hc, hf, hT, hz⟩ := bfacts hb; (try simp only [World.size_alloc, World.size_setCell, World.size_drew, size_drewN] at hc hf hT hz); (try (have hzA := Nat.lt_of_succ_le hz)); (try (have hl0 : w.heap.size ≤ w1.heap.size := by omega)); (try (have hz0 : w.heap.size < w1.heap.size := by omega)); (try (have hz1 : w.heap.size + 1 < w1.heap.size := by omega)); (try (have hz2 : w.heap.size + 1 + 1 < w1.heap.size := by omega)); (try (have hz3 : w.heap.size + 1 + 1 + 1 < w1.heap.size := by omega)); (try (have hz4 : w.heap.size + 1 + 1 + 1 + 1 < w1.heap.size := by omega)))
          have hBB : Below wr.heap.size wr w1 := (by repeat (first | with_reducible exact Below.refl _ _ | with_reducible assumption | with_reducible refine Below.drew ?_ | with_reducible refine below_drewN ?_ _ | with_reducible refine Below.alloc ?_ ?_ _ | with_reducible refine Below.setCell ?_ ?_ _ | with_reducible refine Below.trans ?_ (Below.mono (by assumption) ?_) | omega | (simp <;> omega)))
          have e0 := (h0.below hBB h0.lt).store (row (itS X Y (k + 1)) 0) (row (itS X Y (k + 1)) 1) (row (itS X Y (k + 1)) 2) (row (itS X Y (k + 1)) 3) (row (itS X Y (k + 1)) 4) (row (itS X Y (k + 1)) 5)
          have e1 := h1.below hBB h1.lt
          have hB3 := hbw.trans (hBB.mono hbw.size)
          have hzz := hBB.size
          clear hBB
          go_roundw
          case rel =>
            refine ⟨k + 1, by omega, by go_num, (by repeat (first | with_reducible exact Below.refl _ _ | with_reducible assumption | with_reducible refine Below.drew ?_ | with_reducible refine below_drewN ?_ _ | with_reducible refine Below.alloc ?_ ?_ _ | with_reducible refine Below.setCell ?_ ?_ _ | with_reducible refine Below.trans ?_ (Below.mono (by assumption) ?_) | omega | (simp <;> omega))), e0, ?_, hST.out⟩
            (repeat (first | with_reducible assumption | (with_reducible refine HoldsA.made' ?_; (simp; done)) | with_reducible refine HoldsA.alloc ?_ _ | with_reducible refine HoldsA.drew ?_ | with_reducible refine HoldsA.drewN ?_ _ | (with_reducible refine HoldsA.far ?_ _ _ (by first | (simp; done) | (simp; omega))) | (with_reducible refine HoldsA.below ?_ (by with_reducible assumption) (by first | (simp; done) | (simp; omega) | omega))))
          case measure => simp [intOf]; omega
    · have e : k = 13 := by omega
      subst e
      have hres : fillR Y 13 0 X = (0, false) := by rw [← hfl]; rfl
      have hRS := Lib.hid hres
      clear hres hfl
      go_wp2
      go_ret2
      exact ⟨by rw [hRS.out]; rfl, (by repeat (first | with_reducible exact Below.refl _ _ | with_reducible assumption | with_reducible refine Below.drew ?_ | with_reducible refine below_drewN ?_ _ | with_reducible refine Below.alloc ?_ ?_ _ | with_reducible refine Below.setCell ?_ ?_ _ | with_reducible refine Below.trans ?_ (Below.mono (by assumption) ?_) | omega | (simp <;> omega)))⟩

set_option maxRecDepth 100000 in
theorem specTimesToFill_no (a0 a1 a2 a3 a4 a5 b0 b1 b2 b3 b4 b5 : Int) (hn : ¬ (Ok6 a0 a1 a2 a3 a4 a5 ∧ Ok6 b0 b1 b2 b3 b4 b5)) (w : World) :
    Calls Try.prog 20 #[(.agg #[.int .i64 a0, .int .i64 a1, .int .i64 a2, .int .i64 a3, .int .i64 a4, .int .i64 a5]), (.agg #[.int .i64 b0, .int .i64 b1, .int .i64 b2, .int .i64 b3, .int .i64 b4, .int .i64 b5])] w fun e w' => e = .returned (.tuple #[.int .i64 0, .bool false]) ∧ Below w.heap.size w w' := by
  by_cases ha : Ok6 a0 a1 a2 a3 a4 a5
  · have hb : ¬ Ok6 b0 b1 b2 b3 b4 b5 := fun h => hn ⟨ha, h⟩
    clear hn
    obtain ⟨X, hX, rfl, rfl, rfl, rfl, rfl, rfl⟩ := set_of_rows a0 a1 a2 a3 a4 a5 ha.1 ha.2.1 ha.2.2.1 ha.2.2.2.1 ha.2.2.2.2.1 ha.2.2.2.2.2
    clear ha
    go_enter Try.func20, Try.ntmps20
    go_wp2_with (go_at_call 38; (first | (with_reducible refine (l2Sheet_ok _ _).mono ?_) | (with_reducible refine (l2Sheet_no _ _ _ _ _ _ (by assumption) _).mono ?_)); rintro e w1 ⟨rfl, hb⟩; obtain ⟨hc, hf, hT, hz⟩ := bfacts hb; (try simp only [World.size_alloc, World.size_setCell, World.size_drew, size_drewN] at hc hf hT hz); (try (have hzA := Nat.lt_of_succ_le hz)); (try (have hl0 : w.heap.size ≤ w1.heap.size := by omega)); (try (have hz0 : w.heap.size < w1.heap.size := by omega)); (try (have hz1 : w.heap.size + 1 < w1.heap.size := by omega)); (try (have hz2 : w.heap.size + 1 + 1 < w1.heap.size := by omega)); (try (have hz3 : w.heap.size + 1 + 1 + 1 < w1.heap.size := by omega)); (try (have hz4 : w.heap.size + 1 + 1 + 1 + 1 < w1.heap.size := by omega)))
    exact bodyPost_ret (v := .tuple #[.int .i64 0, .bool false]) (by simp [results, Try.results20, go_sem, *]) rfl ⟨rfl, (by repeat (first | with_reducible exact Below.refl _ _ | with_reducible assumption | with_reducible refine Below.drew ?_ | with_reducible refine below_drewN ?_ _ | with_reducible refine Below.alloc ?_ ?_ _ | with_reducible refine Below.setCell ?_ ?_ _ | with_reducible refine Below.trans ?_ (Below.mono (by assumption) ?_) | omega | (simp <;> omega)))⟩
  · clear hn
    go_enter Try.func20, Try.ntmps20
    go_wp2_with (go_at_call 38; (with_reducible refine (l2Sheet_no _ _ _ _ _ _ (by assumption) _).mono ?_); rintro e w1 ⟨rfl, hb⟩; obtain ⟨hc, hf, hT, hz⟩ := bfacts hb; (try simp only [World.size_alloc, World.size_setCell, World.size_drew, size_drewN] at hc hf hT hz); (try (have hzA := Nat.lt_of_succ_le hz)); (try (have hl0 : w.heap.size ≤ w1.heap.size := by omega)); (try (have hz0 : w.heap.size < w1.heap.size := by omega)); (try (have hz1 : w.heap.size + 1 < w1.heap.size := by omega)); (try (have hz2 : w.heap.size + 1 + 1 < w1.heap.size := by omega)); (try (have hz3 : w.heap.size + 1 + 1 + 1 < w1.heap.size := by omega)); (try (have hz4 : w.heap.size + 1 + 1 + 1 + 1 < w1.heap.size := by omega)))
    exact bodyPost_ret (v := .tuple #[.int .i64 0, .bool false]) (by simp [results, Try.results20, go_sem, *]) rfl ⟨rfl, (by repeat (first | with_reducible exact Below.refl _ _ | with_reducible assumption | with_reducible refine Below.drew ?_ | with_reducible refine below_drewN ?_ _ | with_reducible refine Below.alloc ?_ ?_ _ | with_reducible refine Below.setCell ?_ ?_ _ | with_reducible refine Below.trans ?_ (Below.mono (by assumption) ?_) | omega | (simp <;> omega)))⟩

def T1Rel (X Y : Nat) (w : World) (x ok i : Value) (wr : World) : Prop :=
  ∃ k : Nat, k ≤ 13 ∧ i = .int .i64 (k : Int) ∧ x = .int .u64 ((itS X Y k : Nat) : Int) ∧ Below w.heap.size w wr ∧ fillR Y (13 - k) k (itS X Y k) = fillR Y 13 0 X
set_option maxRecDepth 100000 in
theorem implTimesToFill_ok (X Y : Nat) (hX : Vs X) (hY : Vs Y) (w : World) : Calls Try.prog 21 #[(.agg #[.int .i64 (row X 0), .int .i64 (row X 1), .int .i64 (row X 2), .int .i64 (row X 3), .int .i64 (row X 4), .int .i64 (row X 5)]), (.agg #[.int .i64 (row Y 0), .int .i64 (row Y 1), .int .i64 (row Y 2), .int .i64 (row Y 3), .int .i64 (row Y 4), .int .i64 (row Y 5)])] w fun e w' => e = .returned (.tuple #[.int .i64 (((fillR Y 13 0 X).1 : Nat) : Int), .bool (fillR Y 13 0 X).2]) ∧ Below w.heap.size w w' := by
  go_enter Try.func21, Try.ntmps21
  go_wp2_with (go_at_call 52; (with_reducible refine (twoSets_ok _ _ (by assumption) (by assumption) _).mono ?_); rintro e w1 ⟨rfl, hb⟩; obtain ⟨hc, hf, hT, hz⟩ := bfacts hb; (try simp only [World.size_alloc, World.size_setCell, World.size_drew, size_drewN] at hc hf hT hz); (try (have hzA := Nat.lt_of_succ_le hz)); (try (have hl0 : w.heap.size ≤ w1.heap.size := by omega)); (try (have hz0 : w.heap.size < w1.heap.size := by omega)); (try (have hz1 : w.heap.size + 1 < w1.heap.size := by omega)); (try (have hz2 : w.heap.size + 1 + 1 < w1.heap.size := by omega)); (try (have hz3 : w.heap.size + 1 + 1 + 1 < w1.heap.size := by omega)); (try (have hz4 : w.heap.size + 1 + 1 + 1 + 1 < w1.heap.size := by omega)))
  go_loopw [6, 9, 19] (T1Rel X Y w) (fun _ _ i _ => 13 - (intOf i).toNat)
  case atStart => exact ⟨0, Nat.zero_le _, rfl, rfl, (by repeat (first | with_reducible exact Below.refl _ _ | with_reducible assumption | with_reducible refine Below.drew ?_ | with_reducible refine below_drewN ?_ _ | with_reducible refine Below.alloc ?_ ?_ _ | with_reducible refine Below.setCell ?_ ?_ _ | with_reducible refine Below.trans ?_ (Below.mono (by assumption) ?_) | omega | (simp <;> omega))), rfl⟩
  case round =>
    obtain ⟨k, hk, rfl, rfl, hbw, hfl⟩ := hrel
    have hV := itS_vs hX Y k
    by_cases hlt : k ≤ 12
    · have hlt' : (k : Int) < 13 := by omega
      by_cases hfull : itS X Y k = 68719476735
      · have hres : fillR Y 13 0 X = (k, true) := by rw [← hfl, fill_hit X Y k hlt hfull]
        have hRS := Lib.hid hres
        rw [hfull]
        clear hres hfull hfl
        go_wp2
        go_ret2
        exact ⟨by rw [hRS.out]; rfl, (by repeat (first | with_reducible exact Below.refl _ _ | with_reducible assumption | with_reducible refine Below.drew ?_ | with_reducible refine below_drewN ?_ _ | with_reducible refine Below.alloc ?_ ?_ _ | with_reducible refine Below.setCell ?_ ?_ _ | with_reducible refine Below.trans ?_ (Below.mono (by assumption) ?_) | omega | (simp <;> omega)))⟩
      · have hst : fillR Y (13 - (k + 1)) (k + 1) (itS X Y (k + 1)) = fillR Y 13 0 X := by rw [← hfl, fill_step X Y k hlt hfull]
        have hfi : ¬ ((itS X Y k : Nat) : Int) = 68719476735 := by omega
        have hd : (((itS X Y k : Nat) : Int) == 68719476735) = false := by rw [beq_eq_false_iff_ne]; exact hfi
        have hST := Lib.hid hst
        clear hst hfl
        go_wp2_with (go_at_call 53; (with_reducible refine (spread_any _ _ hV hY _).mono ?_); rintro e w1 ⟨rfl, hb⟩; obtain ⟨hc, hf, hT, hz⟩ := bfacts hb; (try simp only [World.size_alloc, World.size_setCell, World.size_drew, size_drewN] at hc hf hT hz); (try (have hzA := Nat.lt_of_succ_le hz)); (try (have hl0 : w.heap.size ≤ w1.heap.size := by omega)); (try (have hz0 : w.heap.size < w1.heap.size := by omega)); (try (have hz1 : w.heap.size + 1 < w1.heap.size := by omega)); (try (have hz2 : w.heap.size + 1 + 1 < w1.heap.size := by omega)); (try (have hz3 : w.heap.size + 1 + 1 + 1 < w1.heap.size := by omega)); (try (have hz4 : w.heap.size + 1 + 1 + 1 + 1 < w1.heap.size := by omega)))
        go_roundw
        case rel => exact ⟨k + 1, by omega, by go_num, rfl, hbw.trans (hb.mono hbw.size), hST.out⟩
        case measure => simp [intOf]; omega
    · have e : k = 13 := by omega
      subst e
      have hres : fillR Y 13 0 X = (0, false) := by rw [← hfl]; rfl
      have hRS := Lib.hid hres
      clear hres hfl
      go_wp2
      go_ret2
      exact ⟨by rw [hRS.out]; rfl, (by repeat (first | with_reducible exact Below.refl _ _ | with_reducible assumption | with_reducible refine Below.drew ?_ | with_reducible refine below_drewN ?_ _ | with_reducible refine Below.alloc ?_ ?_ _ | with_reducible refine Below.setCell ?_ ?_ _ | with_reducible refine Below.trans ?_ (Below.mono (by assumption) ?_) | omega | (simp <;> omega)))⟩

set_option maxRecDepth 100000 in
theorem implTimesToFill_no (a0 a1 a2 a3 a4 a5 b0 b1 b2 b3 b4 b5 : Int) (hn : ¬ (Ok6 a0 a1 a2 a3 a4 a5 ∧ Ok6 b0 b1 b2 b3 b4 b5)) (w : World) :
    Calls Try.prog 21 #[(.agg #[.int .i64 a0, .int .i64 a1, .int .i64 a2, .int .i64 a3, .int .i64 a4, .int .i64 a5]), (.agg #[.int .i64 b0, .int .i64 b1, .int .i64 b2, .int .i64 b3, .int .i64 b4, .int .i64 b5])] w fun e w' => e = .returned (.tuple #[.int .i64 0, .bool false]) ∧ Below w.heap.size w w' := by
  go_enter Try.func21, Try.ntmps21
  go_wp2_with (go_at_call 52; (with_reducible refine (twoSets_no _ _ _ _ _ _ _ _ _ _ _ _ (by assumption) _).mono ?_); rintro e w1 ⟨x1, y1, rfl, hb⟩; obtain ⟨hc, hf, hT, hz⟩ := bfacts hb; (try simp only [World.size_alloc, World.size_setCell, World.size_drew, size_drewN] at hc hf hT hz); (try (have hzA := Nat.lt_of_succ_le hz)); (try (have hl0 : w.heap.size ≤ w1.heap.size := by omega)); (try (have hz0 : w.heap.size < w1.heap.size := by omega)); (try (have hz1 : w.heap.size + 1 < w1.heap.size := by omega)); (try (have hz2 : w.heap.size + 1 + 1 < w1.heap.size := by omega)); (try (have hz3 : w.heap.size + 1 + 1 + 1 < w1.heap.size := by omega)); (try (have hz4 : w.heap.size + 1 + 1 + 1 + 1 < w1.heap.size := by omega)))
  exact bodyPost_ret (v := .tuple #[.int .i64 0, .bool false]) (by simp [results, Try.results21, go_sem, *]) rfl ⟨rfl, (by repeat (first | with_reducible exact Below.refl _ _ | with_reducible assumption | with_reducible refine Below.drew ?_ | with_reducible refine below_drewN ?_ _ | with_reducible refine Below.alloc ?_ ?_ _ | with_reducible refine Below.setCell ?_ ?_ _ | with_reducible refine Below.trans ?_ (Below.mono (by assumption) ?_) | omega | (simp <;> omega)))⟩
end Go.Proofs.Ytphnkkblgbfncaa
