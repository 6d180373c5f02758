/-
  Contracts of motions behind motions and back, of the program and of the reference. No conditions.
-/
import Derived.Test.YtidaoalnngmoaaaDf
import Derived.Test.YtidaoalnngmoaaaMot
namespace Go.Proofs.Ytidaoalnngmoaaa
open Go.RowKit
set_option linter.unusedSimpArgs false
set_option linter.unusedVariables false

def mbX (m1 m2 n0 n1 : Nat) : Nat := (((vT n0 ((m1 : Int), (m2 : Int))).1 + (n1 : Int)) % 6).toNat
def mbY (m1 m2 n0 n2 : Nat) : Nat := (((vT n0 ((m1 : Int), (m2 : Int))).2 + (n2 : Int)) % 6).toNat
def mkX (m0 m1 m2 : Nat) : Nat := (-(vT (bkN m0) ((m1 : Int), (m2 : Int))).1 % 6).toNat
def mkY (m0 m1 m2 : Nat) : Nat := (-(vT (bkN m0) ((m1 : Int), (m2 : Int))).2 % 6).toNat
theorem mbX_lt (m1 m2 n0 n1 : Nat) : mbX m1 m2 n0 n1 < 6 := by unfold mbX; omega
theorem mbY_lt (m1 m2 n0 n2 : Nat) : mbY m1 m2 n0 n2 < 6 := by unfold mbY; omega
theorem mkX_lt (m0 m1 m2 : Nat) : mkX m0 m1 m2 < 6 := by unfold mkX; omega
theorem mkY_lt (m0 m1 m2 : Nat) : mkY m0 m1 m2 < 6 := by unfold mkY; omega
theorem mot_nat' {t x y : Nat} (ht : t < 8) (hx : x < 6) (hy : y < 6) : decide (Mot (t : Int) (x : Int) (y : Int)) = true := decide_eq_true ⟨by omega, by omega, by omega⟩

set_option maxRecDepth 100000 in
set_option maxHeartbeats 800000 in
theorem l3Behind_any (m0 m1 m2 n0 n1 n2 : Nat) (hm0 : m0 < 8) (hm1 : m1 < 6) (hm2 : m2 < 6) (hn0 : n0 < 8) (hn1 : n1 < 6) (hn2 : n2 < 6) (w : World) : Calls Try.prog 83 #[.agg #[.int .i64 (m0 : Int), .int .i64 (m1 : Int), .int .i64 (m2 : Int)], .agg #[.int .i64 (n0 : Int), .int .i64 (n1 : Int), .int .i64 (n2 : Int)]] w fun e w' => e = .returned (.agg #[.int .i64 ((tbN m0 n0 : Nat) : Int), .int .i64 ((mbX m1 m2 n0 n1 : Nat) : Int), .int .i64 ((mbY m1 m2 n0 n2 : Nat) : Int)]) ∧ Below w.heap.size w w' := by
  have hv := l3Vector_any n0 hn0 (m1 : Int) (m2 : Int) (by omega) (by omega)
  have hbd := vT_bd (m1 : Int) (m2 : Int) (by omega) (by omega) n0
  have ex : ((mbX m1 m2 n0 n1 : Nat) : Int) = ((vT n0 ((m1 : Int), (m2 : Int))).1 + (n1 : Int)) % 6 := by unfold mbX; omega
  have ey : ((mbY m1 m2 n0 n2 : Nat) : Int) = ((vT n0 ((m1 : Int), (m2 : Int))).2 + (n2 : Int)) % 6 := by unfold mbY; omega
  rw [ex, ey]
  clear ex ey
  generalize vT n0 ((m1 : Int), (m2 : Int)) = p at *
  obtain ⟨p1, p2⟩ := p
  dsimp only at hv hbd ⊢
  obtain ⟨⟨c0, c1⟩, c2, c3⟩ := hbd
  have hx : IntKind.i64.wrap (p1 + (n1 : Int)) = p1 + (n1 : Int) := IntWalk.i64_in _ (by omega)
  have hy : IntKind.i64.wrap (p2 + (n2 : Int)) = p2 + (n2 : Int) := IntWalk.i64_in _ (by omega)
  have hX := Lib.hid hx
  have hY := Lib.hid hy
  have hV := Lib.hid hv
  have hTa := Lib.hid (l3Turn_any 75 m0 vs75 hm0)
  have hUa := Lib.hid (l3Turn_again m0 n0 75 hm0 hn0)
  have hNN := Lib.hid (l3Number_any (tbN m0 n0) (tbN_lt m0 n0))
  clear hv hx hy
  go_enter Try.func83, Try.ntmps83
  go_wp2_with (go_at_call 66; (with_reducible refine (hV.out _).mono ?_); rintro e w1 ⟨rfl, rfl⟩)
  go_region_held3 (fun w' => w'.cell? ⟨w.heap.size, 0, none⟩ = some (.int .i64 (↑m0)) ∧ w'.cell? ⟨w.heap.size, 1, none⟩ = some (.int .i64 (↑m1)) ∧ w'.cell? ⟨w.heap.size, 2, none⟩ = some (.int .i64 (↑m2)) ∧ w'.cell? ⟨w.heap.size + 1, 0, none⟩ = some (.int .i64 (↑n0)) ∧ w'.cell? ⟨w.heap.size + 1, 1, none⟩ = some (.int .i64 (↑n1)) ∧ w'.cell? ⟨w.heap.size + 1, 2, none⟩ = some (.int .i64 (↑n2))) (simp [*, World.cell?_alloc_some, World.cell?_setCell_far, Nat.ne_of_gt]) (first | (first | (go_at_call 85; (with_reducible refine (l2Mod_any _ _).mono ?_); rintro e w1 ⟨rfl, rfl⟩) | (go_at_call 72; (with_reducible refine (l3Marked_any _).mono ?_); rintro e w1 ⟨rfl, hb⟩; obtain ⟨hc, hf, hT, hz⟩ := bfacts hb; (try simp only [World.size_alloc, World.size_setCell, World.size_drew, size_drewN] at hc hf hT hz); (try (have hzA := Nat.lt_of_succ_le hz)); (try (have hl0 : w.heap.size ≤ w1.heap.size := by omega)); (try (have hz0 : w.heap.size < w1.heap.size := by omega)); (try (have hz1 : w.heap.size + 1 < w1.heap.size := by omega)); (try (have hz2 : w.heap.size + 1 + 1 < w1.heap.size := by omega)); (try (have hz3 : w.heap.size + 1 + 1 + 1 < w1.heap.size := by omega)); (try (have hz4 : w.heap.size + 1 + 1 + 1 + 1 < w1.heap.size := by omega))) | (go_at_call 71; (first | (with_reducible refine (hTa.out _).mono ?_) | (with_reducible refine (hUa.out _).mono ?_)); rintro e w1 ⟨rfl, hb⟩; obtain ⟨hc, hf, hT, hz⟩ := bfacts hb; (try simp only [World.size_alloc, World.size_setCell, World.size_drew, size_drewN] at hc hf hT hz); (try (have hzA := Nat.lt_of_succ_le hz)); (try (have hl0 : w.heap.size ≤ w1.heap.size := by omega)); (try (have hz0 : w.heap.size < w1.heap.size := by omega)); (try (have hz1 : w.heap.size + 1 < w1.heap.size := by omega)); (try (have hz2 : w.heap.size + 1 + 1 < w1.heap.size := by omega)); (try (have hz3 : w.heap.size + 1 + 1 + 1 < w1.heap.size := by omega)); (try (have hz4 : w.heap.size + 1 + 1 + 1 + 1 < w1.heap.size := by omega))) | (go_at_call 70; (with_reducible refine (hNN.out _).mono ?_); rintro e w1 ⟨rfl, hb⟩; obtain ⟨hc, hf, hT, hz⟩ := bfacts hb; (try simp only [World.size_alloc, World.size_setCell, World.size_drew, size_drewN] at hc hf hT hz); (try (have hzA := Nat.lt_of_succ_le hz)); (try (have hl0 : w.heap.size ≤ w1.heap.size := by omega)); (try (have hz0 : w.heap.size < w1.heap.size := by omega)); (try (have hz1 : w.heap.size + 1 < w1.heap.size := by omega)); (try (have hz2 : w.heap.size + 1 + 1 < w1.heap.size := by omega)); (try (have hz3 : w.heap.size + 1 + 1 + 1 < w1.heap.size := by omega)); (try (have hz4 : w.heap.size + 1 + 1 + 1 + 1 < w1.heap.size := by omega)))))
  all_goals
    go_wp2
    exact bodyPost_ret (v := .agg #[.int .i64 ((tbN m0 n0 : Nat) : Int), .int .i64 ((p1 + (n1 : Int)) % 6), .int .i64 ((p2 + (n2 : Int)) % 6)]) (by simp [results, Try.results83, go_sem, *, hX.out, hY.out]) rfl ⟨rfl, (by repeat (first | with_reducible exact Below.refl _ _ | with_reducible assumption | with_reducible refine Below.drew ?_ | with_reducible refine below_drewN ?_ _ | with_reducible refine Below.alloc ?_ ?_ _ | with_reducible refine Below.setCell ?_ ?_ _ | with_reducible refine Below.trans ?_ (Below.mono (by assumption) ?_) | omega | (simp <;> omega)))⟩

set_option maxRecDepth 100000 in
set_option maxHeartbeats 800000 in
theorem motionBehind_any (m0 m1 m2 n0 n1 n2 : Nat) (hm0 : m0 < 8) (hm1 : m1 < 6) (hm2 : m2 < 6) (hn0 : n0 < 8) (hn1 : n1 < 6) (hn2 : n2 < 6) (w : World) : Calls Try.prog 84 #[.agg #[.int .i64 (m0 : Int), .int .i64 (m1 : Int), .int .i64 (m2 : Int)], .agg #[.int .i64 (n0 : Int), .int .i64 (n1 : Int), .int .i64 (n2 : Int)]] w fun e w' => e = .returned (.agg #[.int .i64 ((tbN m0 n0 : Nat) : Int), .int .i64 ((mbX m1 m2 n0 n1 : Nat) : Int), .int .i64 ((mbY m1 m2 n0 n2 : Nat) : Int)]) ∧ Below w.heap.size w w' := by
  have hv := turnVector_any n0 hn0 (m1 : Int) (m2 : Int) (by omega) (by omega)
  have hbd := vT_bd (m1 : Int) (m2 : Int) (by omega) (by omega) n0
  have ex : ((mbX m1 m2 n0 n1 : Nat) : Int) = ((vT n0 ((m1 : Int), (m2 : Int))).1 + (n1 : Int)) % 6 := by unfold mbX; omega
  have ey : ((mbY m1 m2 n0 n2 : Nat) : Int) = ((vT n0 ((m1 : Int), (m2 : Int))).2 + (n2 : Int)) % 6 := by unfold mbY; omega
  rw [ex, ey]
  clear ex ey
  generalize vT n0 ((m1 : Int), (m2 : Int)) = p at *
  obtain ⟨p1, p2⟩ := p
  dsimp only at hv hbd ⊢
  obtain ⟨⟨c0, c1⟩, c2, c3⟩ := hbd
  have hx : IntKind.i64.wrap (p1 + (n1 : Int)) = p1 + (n1 : Int) := IntWalk.i64_in _ (by omega)
  have hy : IntKind.i64.wrap (p2 + (n2 : Int)) = p2 + (n2 : Int) := IntWalk.i64_in _ (by omega)
  have hX := Lib.hid hx
  have hY := Lib.hid hy
  have hV := Lib.hid hv
  have hNN := Lib.hid (turnBehind_any m0 n0 hm0 hn0)
  clear hv hx hy
  go_enter Try.func84, Try.ntmps84
  go_wp2_with (go_at_call 68; (with_reducible refine (hV.out _).mono ?_); rintro e w1 ⟨rfl, rfl⟩)
  go_region_held3 (fun w' => w'.cell? ⟨w.heap.size, 0, none⟩ = some (.int .i64 (↑m0)) ∧ w'.cell? ⟨w.heap.size, 1, none⟩ = some (.int .i64 (↑m1)) ∧ w'.cell? ⟨w.heap.size, 2, none⟩ = some (.int .i64 (↑m2)) ∧ w'.cell? ⟨w.heap.size + 1, 0, none⟩ = some (.int .i64 (↑n0)) ∧ w'.cell? ⟨w.heap.size + 1, 1, none⟩ = some (.int .i64 (↑n1)) ∧ w'.cell? ⟨w.heap.size + 1, 2, none⟩ = some (.int .i64 (↑n2))) (simp [*, World.cell?_alloc_some, World.cell?_setCell_far, Nat.ne_of_gt]) (first | (first | (go_at_call 86; (with_reducible refine (rest_any _ _).mono ?_); rintro e w1 ⟨rfl, rfl⟩) | (go_at_call 74; (with_reducible refine (hNN.out _).mono ?_); rintro e w1 ⟨rfl, hb⟩; obtain ⟨hc, hf, hT, hz⟩ := bfacts hb; (try simp only [World.size_alloc, World.size_setCell, World.size_drew, size_drewN] at hc hf hT hz); (try (have hzA := Nat.lt_of_succ_le hz)); (try (have hl0 : w.heap.size ≤ w1.heap.size := by omega)); (try (have hz0 : w.heap.size < w1.heap.size := by omega)); (try (have hz1 : w.heap.size + 1 < w1.heap.size := by omega)); (try (have hz2 : w.heap.size + 1 + 1 < w1.heap.size := by omega)); (try (have hz3 : w.heap.size + 1 + 1 + 1 < w1.heap.size := by omega)); (try (have hz4 : w.heap.size + 1 + 1 + 1 + 1 < w1.heap.size := by omega)))))
  all_goals
    go_wp2
    exact bodyPost_ret (v := .agg #[.int .i64 ((tbN m0 n0 : Nat) : Int), .int .i64 ((p1 + (n1 : Int)) % 6), .int .i64 ((p2 + (n2 : Int)) % 6)]) (by simp [results, Try.results84, go_sem, *, hX.out, hY.out]) rfl ⟨rfl, (by repeat (first | with_reducible exact Below.refl _ _ | with_reducible assumption | with_reducible refine Below.drew ?_ | with_reducible refine below_drewN ?_ _ | with_reducible refine Below.alloc ?_ ?_ _ | with_reducible refine Below.setCell ?_ ?_ _ | with_reducible refine Below.trans ?_ (Below.mono (by assumption) ?_) | omega | (simp <;> omega)))⟩

set_option maxRecDepth 100000 in
theorem specMotionBehind_ok (m0 m1 m2 n0 n1 n2 : Nat) (hm0 : m0 < 8) (hm1 : m1 < 6) (hm2 : m2 < 6) (hn0 : n0 < 8) (hn1 : n1 < 6) (hn2 : n2 < 6) (w : World) : Calls Try.prog 28 #[.agg #[.int .i64 (m0 : Int), .int .i64 (m1 : Int), .int .i64 (m2 : Int)], .agg #[.int .i64 (n0 : Int), .int .i64 (n1 : Int), .int .i64 (n2 : Int)]] w fun e w' => e = .returned (.tuple #[(.agg #[.int .i64 ((tbN m0 n0 : Nat) : Int), .int .i64 ((mbX m1 m2 n0 n1 : Nat) : Int), .int .i64 ((mbY m1 m2 n0 n2 : Nat) : Int)]), .bool true]) ∧ Below w.heap.size w w' := by
  have hl := l3Motion_any (m0 : Int) (m1 : Int) (m2 : Int)
  rw [mot_nat' hm0 hm1 hm2] at hl
  have hl2 := l3Motion_any (n0 : Int) (n1 : Int) (n2 : Int)
  rw [mot_nat' hn0 hn1 hn2] at hl2
  have hL := Lib.hid hl
  have hL2 := Lib.hid hl2
  have hN := Lib.hid (l3Behind_any m0 m1 m2 n0 n1 n2 hm0 hm1 hm2 hn0 hn1 hn2)
  clear hl hl2
  go_enter Try.func28, Try.ntmps28
  go_wp2_with (first | (go_at_call 65; (first | (with_reducible refine (hL.out _).mono ?_) | (with_reducible refine (hL2.out _).mono ?_)); rintro e w1 ⟨rfl, hb⟩; obtain ⟨hc, hf, hT, hz⟩ := bfacts hb; (try simp only [World.size_alloc, World.size_setCell, World.size_drew, size_drewN] at hc hf hT hz); (try (have hzA := Nat.lt_of_succ_le hz)); (try (have hl0 : w.heap.size ≤ w1.heap.size := by omega)); (try (have hz0 : w.heap.size < w1.heap.size := by omega)); (try (have hz1 : w.heap.size + 1 < w1.heap.size := by omega)); (try (have hz2 : w.heap.size + 1 + 1 < w1.heap.size := by omega)); (try (have hz3 : w.heap.size + 1 + 1 + 1 < w1.heap.size := by omega)); (try (have hz4 : w.heap.size + 1 + 1 + 1 + 1 < w1.heap.size := by omega))) | (go_at_call 83; (with_reducible refine (hN.out _).mono ?_); rintro e w1 ⟨rfl, hb⟩; obtain ⟨hc, hf, hT, hz⟩ := bfacts hb; (try simp only [World.size_alloc, World.size_setCell, World.size_drew, size_drewN] at hc hf hT hz); (try (have hzA := Nat.lt_of_succ_le hz)); (try (have hl0 : w.heap.size ≤ w1.heap.size := by omega)); (try (have hz0 : w.heap.size < w1.heap.size := by omega)); (try (have hz1 : w.heap.size + 1 < w1.heap.size := by omega)); (try (have hz2 : w.heap.size + 1 + 1 < w1.heap.size := by omega)); (try (have hz3 : w.heap.size + 1 + 1 + 1 < w1.heap.size := by omega)); (try (have hz4 : w.heap.size + 1 + 1 + 1 + 1 < w1.heap.size := by omega))))
  exact bodyPost_ret (v := .tuple #[(.agg #[.int .i64 ((tbN m0 n0 : Nat) : Int), .int .i64 ((mbX m1 m2 n0 n1 : Nat) : Int), .int .i64 ((mbY m1 m2 n0 n2 : Nat) : Int)]), .bool true]) (by simp [results, Try.results28, go_sem, *]) rfl ⟨rfl, (by repeat (first | with_reducible exact Below.refl _ _ | with_reducible assumption | with_reducible refine Below.drew ?_ | with_reducible refine below_drewN ?_ _ | with_reducible refine Below.alloc ?_ ?_ _ | with_reducible refine Below.setCell ?_ ?_ _ | with_reducible refine Below.trans ?_ (Below.mono (by assumption) ?_) | omega | (simp <;> omega)))⟩
theorem specMotionBehind_no (a0 a1 a2 b0 b1 b2 : Int) (hn : ¬ (Mot a0 a1 a2 ∧ Mot b0 b1 b2)) (w : World) : Calls Try.prog 28 #[.agg #[.int .i64 a0, .int .i64 a1, .int .i64 a2], .agg #[.int .i64 b0, .int .i64 b1, .int .i64 b2]] w fun e w' => e = .returned (.tuple #[(.agg #[.int .i64 0, .int .i64 0, .int .i64 0]), .bool false]) ∧ Below w.heap.size w w' := by
  have hl := l3Motion_any a0 a1 a2
  have hl2 := l3Motion_any b0 b1 b2
  by_cases h : Mot a0 a1 a2
  · have h2 : ¬ Mot b0 b1 b2 := fun x => hn ⟨h, x⟩
    rw [decide_eq_true h] at hl
    rw [decide_eq_false h2] at hl2
    have hL := Lib.hid hl
    have hL2 := Lib.hid hl2
    clear hl hl2 hn h h2
    go_enter Try.func28, Try.ntmps28
    go_wp2_with (go_at_call 65; (first | (with_reducible refine (hL.out _).mono ?_) | (with_reducible refine (hL2.out _).mono ?_)); rintro e w1 ⟨rfl, hb⟩; obtain ⟨hc, hf, hT, hz⟩ := bfacts hb; (try simp only [World.size_alloc, World.size_setCell, World.size_drew, size_drewN] at hc hf hT hz); (try (have hzA := Nat.lt_of_succ_le hz)); (try (have hl0 : w.heap.size ≤ w1.heap.size := by omega)); (try (have hz0 : w.heap.size < w1.heap.size := by omega)); (try (have hz1 : w.heap.size + 1 < w1.heap.size := by omega)); (try (have hz2 : w.heap.size + 1 + 1 < w1.heap.size := by omega)); (try (have hz3 : w.heap.size + 1 + 1 + 1 < w1.heap.size := by omega)); (try (have hz4 : w.heap.size + 1 + 1 + 1 + 1 < w1.heap.size := by omega)))
    exact bodyPost_ret (v := .tuple #[(.agg #[.int .i64 0, .int .i64 0, .int .i64 0]), .bool false]) (by simp [results, Try.results28, go_sem, *]) rfl ⟨rfl, (by repeat (first | with_reducible exact Below.refl _ _ | with_reducible assumption | with_reducible refine Below.drew ?_ | with_reducible refine below_drewN ?_ _ | with_reducible refine Below.alloc ?_ ?_ _ | with_reducible refine Below.setCell ?_ ?_ _ | with_reducible refine Below.trans ?_ (Below.mono (by assumption) ?_) | omega | (simp <;> omega)))⟩
  · rw [decide_eq_false h] at hl
    have hL := Lib.hid hl
    clear hl hl2 hn h
    go_enter Try.func28, Try.ntmps28
    go_wp2_with (go_at_call 65; (with_reducible refine (hL.out _).mono ?_); rintro e w1 ⟨rfl, hb⟩; obtain ⟨hc, hf, hT, hz⟩ := bfacts hb; (try simp only [World.size_alloc, World.size_setCell, World.size_drew, size_drewN] at hc hf hT hz); (try (have hzA := Nat.lt_of_succ_le hz)); (try (have hl0 : w.heap.size ≤ w1.heap.size := by omega)); (try (have hz0 : w.heap.size < w1.heap.size := by omega)); (try (have hz1 : w.heap.size + 1 < w1.heap.size := by omega)); (try (have hz2 : w.heap.size + 1 + 1 < w1.heap.size := by omega)); (try (have hz3 : w.heap.size + 1 + 1 + 1 < w1.heap.size := by omega)); (try (have hz4 : w.heap.size + 1 + 1 + 1 + 1 < w1.heap.size := by omega)))
    exact bodyPost_ret (v := .tuple #[(.agg #[.int .i64 0, .int .i64 0, .int .i64 0]), .bool false]) (by simp [results, Try.results28, go_sem, *]) rfl ⟨rfl, (by repeat (first | with_reducible exact Below.refl _ _ | with_reducible assumption | with_reducible refine Below.drew ?_ | with_reducible refine below_drewN ?_ _ | with_reducible refine Below.alloc ?_ ?_ _ | with_reducible refine Below.setCell ?_ ?_ _ | with_reducible refine Below.trans ?_ (Below.mono (by assumption) ?_) | omega | (simp <;> omega)))⟩

set_option maxRecDepth 100000 in
theorem implMotionBehind_ok (m0 m1 m2 n0 n1 n2 : Nat) (hm0 : m0 < 8) (hm1 : m1 < 6) (hm2 : m2 < 6) (hn0 : n0 < 8) (hn1 : n1 < 6) (hn2 : n2 < 6) (w : World) : Calls Try.prog 30 #[.agg #[.int .i64 (m0 : Int), .int .i64 (m1 : Int), .int .i64 (m2 : Int)], .agg #[.int .i64 (n0 : Int), .int .i64 (n1 : Int), .int .i64 (n2 : Int)]] w fun e w' => e = .returned (.tuple #[(.agg #[.int .i64 ((tbN m0 n0 : Nat) : Int), .int .i64 ((mbX m1 m2 n0 n1 : Nat) : Int), .int .i64 ((mbY m1 m2 n0 n2 : Nat) : Int)]), .bool true]) ∧ Below w.heap.size w w' := by
  have hl := isMotion_any (m0 : Int) (m1 : Int) (m2 : Int)
  rw [mot_nat' hm0 hm1 hm2] at hl
  have hl2 := isMotion_any (n0 : Int) (n1 : Int) (n2 : Int)
  rw [mot_nat' hn0 hn1 hn2] at hl2
  have hL := Lib.hid hl
  have hL2 := Lib.hid hl2
  have hN := Lib.hid (motionBehind_any m0 m1 m2 n0 n1 n2 hm0 hm1 hm2 hn0 hn1 hn2)
  clear hl hl2
  go_enter Try.func30, Try.ntmps30
  go_wp2_with (first | (go_at_call 67; (first | (with_reducible refine (hL.out _).mono ?_) | (with_reducible refine (hL2.out _).mono ?_)); rintro e w1 ⟨rfl, hb⟩; obtain ⟨hc, hf, hT, hz⟩ := bfacts hb; (try simp only [World.size_alloc, World.size_setCell, World.size_drew, size_drewN] at hc hf hT hz); (try (have hzA := Nat.lt_of_succ_le hz)); (try (have hl0 : w.heap.size ≤ w1.heap.size := by omega)); (try (have hz0 : w.heap.size < w1.heap.size := by omega)); (try (have hz1 : w.heap.size + 1 < w1.heap.size := by omega)); (try (have hz2 : w.heap.size + 1 + 1 < w1.heap.size := by omega)); (try (have hz3 : w.heap.size + 1 + 1 + 1 < w1.heap.size := by omega)); (try (have hz4 : w.heap.size + 1 + 1 + 1 + 1 < w1.heap.size := by omega))) | (go_at_call 84; (with_reducible refine (hN.out _).mono ?_); rintro e w1 ⟨rfl, hb⟩; obtain ⟨hc, hf, hT, hz⟩ := bfacts hb; (try simp only [World.size_alloc, World.size_setCell, World.size_drew, size_drewN] at hc hf hT hz); (try (have hzA := Nat.lt_of_succ_le hz)); (try (have hl0 : w.heap.size ≤ w1.heap.size := by omega)); (try (have hz0 : w.heap.size < w1.heap.size := by omega)); (try (have hz1 : w.heap.size + 1 < w1.heap.size := by omega)); (try (have hz2 : w.heap.size + 1 + 1 < w1.heap.size := by omega)); (try (have hz3 : w.heap.size + 1 + 1 + 1 < w1.heap.size := by omega)); (try (have hz4 : w.heap.size + 1 + 1 + 1 + 1 < w1.heap.size := by omega))))
  exact bodyPost_ret (v := .tuple #[(.agg #[.int .i64 ((tbN m0 n0 : Nat) : Int), .int .i64 ((mbX m1 m2 n0 n1 : Nat) : Int), .int .i64 ((mbY m1 m2 n0 n2 : Nat) : Int)]), .bool true]) (by simp [results, Try.results30, go_sem, *]) rfl ⟨rfl, (by repeat (first | with_reducible exact Below.refl _ _ | with_reducible assumption | with_reducible refine Below.drew ?_ | with_reducible refine below_drewN ?_ _ | with_reducible refine Below.alloc ?_ ?_ _ | with_reducible refine Below.setCell ?_ ?_ _ | with_reducible refine Below.trans ?_ (Below.mono (by assumption) ?_) | omega | (simp <;> omega)))⟩
theorem implMotionBehind_no (a0 a1 a2 b0 b1 b2 : Int) (hn : ¬ (Mot a0 a1 a2 ∧ Mot b0 b1 b2)) (w : World) : Calls Try.prog 30 #[.agg #[.int .i64 a0, .int .i64 a1, .int .i64 a2], .agg #[.int .i64 b0, .int .i64 b1, .int .i64 b2]] w fun e w' => e = .returned (.tuple #[(.agg #[.int .i64 0, .int .i64 0, .int .i64 0]), .bool false]) ∧ Below w.heap.size w w' := by
  have hl := isMotion_any a0 a1 a2
  have hl2 := isMotion_any b0 b1 b2
  by_cases h : Mot a0 a1 a2
  · have h2 : ¬ Mot b0 b1 b2 := fun x => hn ⟨h, x⟩
    rw [decide_eq_true h] at hl
    rw [decide_eq_false h2] at hl2
    have hL := Lib.hid hl
    have hL2 := Lib.hid hl2
    clear hl hl2 hn h h2
    go_enter Try.func30, Try.ntmps30
    go_wp2_with (go_at_call 67; (first | (with_reducible refine (hL.out _).mono ?_) | (with_reducible refine (hL2.out _).mono ?_)); rintro e w1 ⟨rfl, hb⟩; obtain ⟨hc, hf, hT, hz⟩ := bfacts hb; (try simp only [World.size_alloc, World.size_setCell, World.size_drew, size_drewN] at hc hf hT hz); (try (have hzA := Nat.lt_of_succ_le hz)); (try (have hl0 : w.heap.size ≤ w1.heap.size := by omega)); (try (have hz0 : w.heap.size < w1.heap.size := by omega)); (try (have hz1 : w.heap.size + 1 < w1.heap.size := by omega)); (try (have hz2 : w.heap.size + 1 + 1 < w1.heap.size := by omega)); (try (have hz3 : w.heap.size + 1 + 1 + 1 < w1.heap.size := by omega)); (try (have hz4 : w.heap.size + 1 + 1 + 1 + 1 < w1.heap.size := by omega)))
    exact bodyPost_ret (v := .tuple #[(.agg #[.int .i64 0, .int .i64 0, .int .i64 0]), .bool false]) (by simp [results, Try.results30, go_sem, *]) rfl ⟨rfl, (by repeat (first | with_reducible exact Below.refl _ _ | with_reducible assumption | with_reducible refine Below.drew ?_ | with_reducible refine below_drewN ?_ _ | with_reducible refine Below.alloc ?_ ?_ _ | with_reducible refine Below.setCell ?_ ?_ _ | with_reducible refine Below.trans ?_ (Below.mono (by assumption) ?_) | omega | (simp <;> omega)))⟩
  · rw [decide_eq_false h] at hl
    have hL := Lib.hid hl
    clear hl hl2 hn h
    go_enter Try.func30, Try.ntmps30
    go_wp2_with (go_at_call 67; (with_reducible refine (hL.out _).mono ?_); rintro e w1 ⟨rfl, hb⟩; obtain ⟨hc, hf, hT, hz⟩ := bfacts hb; (try simp only [World.size_alloc, World.size_setCell, World.size_drew, size_drewN] at hc hf hT hz); (try (have hzA := Nat.lt_of_succ_le hz)); (try (have hl0 : w.heap.size ≤ w1.heap.size := by omega)); (try (have hz0 : w.heap.size < w1.heap.size := by omega)); (try (have hz1 : w.heap.size + 1 < w1.heap.size := by omega)); (try (have hz2 : w.heap.size + 1 + 1 < w1.heap.size := by omega)); (try (have hz3 : w.heap.size + 1 + 1 + 1 < w1.heap.size := by omega)); (try (have hz4 : w.heap.size + 1 + 1 + 1 + 1 < w1.heap.size := by omega)))
    exact bodyPost_ret (v := .tuple #[(.agg #[.int .i64 0, .int .i64 0, .int .i64 0]), .bool false]) (by simp [results, Try.results30, go_sem, *]) rfl ⟨rfl, (by repeat (first | with_reducible exact Below.refl _ _ | with_reducible assumption | with_reducible refine Below.drew ?_ | with_reducible refine below_drewN ?_ _ | with_reducible refine Below.alloc ?_ ?_ _ | with_reducible refine Below.setCell ?_ ?_ _ | with_reducible refine Below.trans ?_ (Below.mono (by assumption) ?_) | omega | (simp <;> omega)))⟩

set_option maxRecDepth 100000 in
theorem specMotionBack_ok (m0 m1 m2 : Nat) (hm0 : m0 < 8) (hm1 : m1 < 6) (hm2 : m2 < 6) (w : World) : Calls Try.prog 32 #[.agg #[.int .i64 (m0 : Int), .int .i64 (m1 : Int), .int .i64 (m2 : Int)]] w fun e w' => e = .returned (.tuple #[(.agg #[.int .i64 ((bkN m0 : Nat) : Int), .int .i64 ((mkX m0 m1 m2 : Nat) : Int), .int .i64 ((mkY m0 m1 m2 : Nat) : Int)]), .bool true]) ∧ Below w.heap.size w w' := by
  have hl := l3Motion_any (m0 : Int) (m1 : Int) (m2 : Int)
  rw [mot_nat' hm0 hm1 hm2] at hl
  have hk := l3Back_any m0 hm0
  have hv := l3Vector_any (bkN m0) (bkN_lt m0 hm0) (m1 : Int) (m2 : Int) (by omega) (by omega)
  have hbd := vT_bd (m1 : Int) (m2 : Int) (by omega) (by omega) (bkN m0)
  have ex : ((mkX m0 m1 m2 : Nat) : Int) = -(vT (bkN m0) ((m1 : Int), (m2 : Int))).1 % 6 := by unfold mkX; omega
  have ey : ((mkY m0 m1 m2 : Nat) : Int) = -(vT (bkN m0) ((m1 : Int), (m2 : Int))).2 % 6 := by unfold mkY; omega
  rw [ex, ey]
  clear ex ey
  have hb8 := bkN_lt m0 hm0
  generalize vT (bkN m0) ((m1 : Int), (m2 : Int)) = p at *
  generalize bkN m0 = k at *
  obtain ⟨p1, p2⟩ := p
  dsimp only at hv hbd ⊢
  obtain ⟨⟨c0, c1⟩, c2, c3⟩ := hbd
  have hx : IntKind.i64.wrap (-p1) = -p1 := IntWalk.i64_in _ (by omega)
  have hy : IntKind.i64.wrap (-p2) = -p2 := IntWalk.i64_in _ (by omega)
  have hX := Lib.hid hx
  have hY := Lib.hid hy
  have hV := Lib.hid hv
  have hL := Lib.hid hl
  have hKK := Lib.hid hk
  clear hv hx hy hl hk
  go_enter Try.func32, Try.ntmps32
  go_wp2_with (first | (go_at_call 65; (with_reducible refine (hL.out _).mono ?_); rintro e w1 ⟨rfl, hb⟩; obtain ⟨hc, hf, hT, hz⟩ := bfacts hb; (try simp only [World.size_alloc, World.size_setCell, World.size_drew, size_drewN] at hc hf hT hz); (try (have hzA := Nat.lt_of_succ_le hz)); (try (have hl0 : w.heap.size ≤ w1.heap.size := by omega)); (try (have hz0 : w.heap.size < w1.heap.size := by omega)); (try (have hz1 : w.heap.size + 1 < w1.heap.size := by omega)); (try (have hz2 : w.heap.size + 1 + 1 < w1.heap.size := by omega)); (try (have hz3 : w.heap.size + 1 + 1 + 1 < w1.heap.size := by omega)); (try (have hz4 : w.heap.size + 1 + 1 + 1 + 1 < w1.heap.size := by omega))) | (go_at_call 75; (with_reducible refine (hKK.out _).mono ?_); rintro e w1 ⟨rfl, hb⟩; obtain ⟨hc, hf, hT, hz⟩ := bfacts hb; (try simp only [World.size_alloc, World.size_setCell, World.size_drew, size_drewN] at hc hf hT hz); (try (have hzA := Nat.lt_of_succ_le hz)); (try (have hl0 : w.heap.size ≤ w1.heap.size := by omega)); (try (have hz0 : w.heap.size < w1.heap.size := by omega)); (try (have hz1 : w.heap.size + 1 < w1.heap.size := by omega)); (try (have hz2 : w.heap.size + 1 + 1 < w1.heap.size := by omega)); (try (have hz3 : w.heap.size + 1 + 1 + 1 < w1.heap.size := by omega)); (try (have hz4 : w.heap.size + 1 + 1 + 1 + 1 < w1.heap.size := by omega))) | (go_at_call 66; (with_reducible refine (hV.out _).mono ?_); rintro e w1 ⟨rfl, rfl⟩) | (go_at_call 85; (with_reducible refine (l2Mod_any _ _).mono ?_); rintro e w1 ⟨rfl, rfl⟩))
  exact bodyPost_ret (v := .tuple #[.agg #[.int .i64 (k : Int), .int .i64 (-p1 % 6), .int .i64 (-p2 % 6)], .bool true]) (by simp [results, Try.results32, go_sem, *, hX.out, hY.out]) rfl ⟨rfl, (by repeat (first | with_reducible exact Below.refl _ _ | with_reducible assumption | with_reducible refine Below.drew ?_ | with_reducible refine below_drewN ?_ _ | with_reducible refine Below.alloc ?_ ?_ _ | with_reducible refine Below.setCell ?_ ?_ _ | with_reducible refine Below.trans ?_ (Below.mono (by assumption) ?_) | omega | (simp <;> omega)))⟩
set_option maxRecDepth 100000 in
theorem specMotionBack_no (a0 a1 a2 : Int) (hn : ¬ Mot a0 a1 a2) (w : World) : Calls Try.prog 32 #[.agg #[.int .i64 a0, .int .i64 a1, .int .i64 a2]] w fun e w' => e = .returned (.tuple #[(.agg #[.int .i64 0, .int .i64 0, .int .i64 0]), .bool false]) ∧ Below w.heap.size w w' := by
  have hl := l3Motion_any a0 a1 a2
  rw [decide_eq_false hn] at hl
  have hL := Lib.hid hl
  clear hl hn
  go_enter Try.func32, Try.ntmps32
  go_wp2_with (go_at_call 65; (with_reducible refine (hL.out _).mono ?_); rintro e w1 ⟨rfl, hb⟩; obtain ⟨hc, hf, hT, hz⟩ := bfacts hb; (try simp only [World.size_alloc, World.size_setCell, World.size_drew, size_drewN] at hc hf hT hz); (try (have hzA := Nat.lt_of_succ_le hz)); (try (have hl0 : w.heap.size ≤ w1.heap.size := by omega)); (try (have hz0 : w.heap.size < w1.heap.size := by omega)); (try (have hz1 : w.heap.size + 1 < w1.heap.size := by omega)); (try (have hz2 : w.heap.size + 1 + 1 < w1.heap.size := by omega)); (try (have hz3 : w.heap.size + 1 + 1 + 1 < w1.heap.size := by omega)); (try (have hz4 : w.heap.size + 1 + 1 + 1 + 1 < w1.heap.size := by omega)))
  exact bodyPost_ret (v := .tuple #[(.agg #[.int .i64 0, .int .i64 0, .int .i64 0]), .bool false]) (by simp [results, Try.results32, go_sem, *]) rfl ⟨rfl, (by repeat (first | with_reducible exact Below.refl _ _ | with_reducible assumption | with_reducible refine Below.drew ?_ | with_reducible refine below_drewN ?_ _ | with_reducible refine Below.alloc ?_ ?_ _ | with_reducible refine Below.setCell ?_ ?_ _ | with_reducible refine Below.trans ?_ (Below.mono (by assumption) ?_) | omega | (simp <;> omega)))⟩

set_option maxRecDepth 100000 in
theorem implMotionBack_ok (m0 m1 m2 : Nat) (hm0 : m0 < 8) (hm1 : m1 < 6) (hm2 : m2 < 6) (w : World) : Calls Try.prog 33 #[.agg #[.int .i64 (m0 : Int), .int .i64 (m1 : Int), .int .i64 (m2 : Int)]] w fun e w' => e = .returned (.tuple #[(.agg #[.int .i64 ((bkN m0 : Nat) : Int), .int .i64 ((mkX m0 m1 m2 : Nat) : Int), .int .i64 ((mkY m0 m1 m2 : Nat) : Int)]), .bool true]) ∧ Below w.heap.size w w' := by
  have hl := isMotion_any (m0 : Int) (m1 : Int) (m2 : Int)
  rw [mot_nat' hm0 hm1 hm2] at hl
  have hk := turnBack_any m0 hm0
  have hv := turnVector_any (bkN m0) (bkN_lt m0 hm0) (m1 : Int) (m2 : Int) (by omega) (by omega)
  have hbd := vT_bd (m1 : Int) (m2 : Int) (by omega) (by omega) (bkN m0)
  have ex : ((mkX m0 m1 m2 : Nat) : Int) = -(vT (bkN m0) ((m1 : Int), (m2 : Int))).1 % 6 := by unfold mkX; omega
  have ey : ((mkY m0 m1 m2 : Nat) : Int) = -(vT (bkN m0) ((m1 : Int), (m2 : Int))).2 % 6 := by unfold mkY; omega
  rw [ex, ey]
  clear ex ey
  have hb8 := bkN_lt m0 hm0
  generalize vT (bkN m0) ((m1 : Int), (m2 : Int)) = p at *
  generalize bkN m0 = k at *
  obtain ⟨p1, p2⟩ := p
  dsimp only at hv hbd ⊢
  obtain ⟨⟨c0, c1⟩, c2, c3⟩ := hbd
  have hx : IntKind.i64.wrap (-p1) = -p1 := IntWalk.i64_in _ (by omega)
  have hy : IntKind.i64.wrap (-p2) = -p2 := IntWalk.i64_in _ (by omega)
  have hX := Lib.hid hx
  have hY := Lib.hid hy
  have hV := Lib.hid hv
  have hL := Lib.hid hl
  have hKK := Lib.hid hk
  clear hv hx hy hl hk
  go_enter Try.func33, Try.ntmps33
  go_wp2_with (first | (go_at_call 67; (with_reducible refine (hL.out _).mono ?_); rintro e w1 ⟨rfl, hb⟩; obtain ⟨hc, hf, hT, hz⟩ := bfacts hb; (try simp only [World.size_alloc, World.size_setCell, World.size_drew, size_drewN] at hc hf hT hz); (try (have hzA := Nat.lt_of_succ_le hz)); (try (have hl0 : w.heap.size ≤ w1.heap.size := by omega)); (try (have hz0 : w.heap.size < w1.heap.size := by omega)); (try (have hz1 : w.heap.size + 1 < w1.heap.size := by omega)); (try (have hz2 : w.heap.size + 1 + 1 < w1.heap.size := by omega)); (try (have hz3 : w.heap.size + 1 + 1 + 1 < w1.heap.size := by omega)); (try (have hz4 : w.heap.size + 1 + 1 + 1 + 1 < w1.heap.size := by omega))) | (go_at_call 76; (with_reducible refine (hKK.out _).mono ?_); rintro e w1 ⟨rfl, hb⟩; obtain ⟨hc, hf, hT, hz⟩ := bfacts hb; (try simp only [World.size_alloc, World.size_setCell, World.size_drew, size_drewN] at hc hf hT hz); (try (have hzA := Nat.lt_of_succ_le hz)); (try (have hl0 : w.heap.size ≤ w1.heap.size := by omega)); (try (have hz0 : w.heap.size < w1.heap.size := by omega)); (try (have hz1 : w.heap.size + 1 < w1.heap.size := by omega)); (try (have hz2 : w.heap.size + 1 + 1 < w1.heap.size := by omega)); (try (have hz3 : w.heap.size + 1 + 1 + 1 < w1.heap.size := by omega)); (try (have hz4 : w.heap.size + 1 + 1 + 1 + 1 < w1.heap.size := by omega))) | (go_at_call 68; (with_reducible refine (hV.out _).mono ?_); rintro e w1 ⟨rfl, rfl⟩) | (go_at_call 86; (with_reducible refine (rest_any _ _).mono ?_); rintro e w1 ⟨rfl, rfl⟩))
  exact bodyPost_ret (v := .tuple #[.agg #[.int .i64 (k : Int), .int .i64 (-p1 % 6), .int .i64 (-p2 % 6)], .bool true]) (by simp [results, Try.results33, go_sem, *, hX.out, hY.out]) rfl ⟨rfl, (by repeat (first | with_reducible exact Below.refl _ _ | with_reducible assumption | with_reducible refine Below.drew ?_ | with_reducible refine below_drewN ?_ _ | with_reducible refine Below.alloc ?_ ?_ _ | with_reducible refine Below.setCell ?_ ?_ _ | with_reducible refine Below.trans ?_ (Below.mono (by assumption) ?_) | omega | (simp <;> omega)))⟩
set_option maxRecDepth 100000 in
theorem implMotionBack_no (a0 a1 a2 : Int) (hn : ¬ Mot a0 a1 a2) (w : World) : Calls Try.prog 33 #[.agg #[.int .i64 a0, .int .i64 a1, .int .i64 a2]] w fun e w' => e = .returned (.tuple #[(.agg #[.int .i64 0, .int .i64 0, .int .i64 0]), .bool false]) ∧ Below w.heap.size w w' := by
  have hl := isMotion_any a0 a1 a2
  rw [decide_eq_false hn] at hl
  have hL := Lib.hid hl
  clear hl hn
  go_enter Try.func33, Try.ntmps33
  go_wp2_with (go_at_call 67; (with_reducible refine (hL.out _).mono ?_); rintro e w1 ⟨rfl, hb⟩; obtain ⟨hc, hf, hT, hz⟩ := bfacts hb; (try simp only [World.size_alloc, World.size_setCell, World.size_drew, size_drewN] at hc hf hT hz); (try (have hzA := Nat.lt_of_succ_le hz)); (try (have hl0 : w.heap.size ≤ w1.heap.size := by omega)); (try (have hz0 : w.heap.size < w1.heap.size := by omega)); (try (have hz1 : w.heap.size + 1 < w1.heap.size := by omega)); (try (have hz2 : w.heap.size + 1 + 1 < w1.heap.size := by omega)); (try (have hz3 : w.heap.size + 1 + 1 + 1 < w1.heap.size := by omega)); (try (have hz4 : w.heap.size + 1 + 1 + 1 + 1 < w1.heap.size := by omega)))
  exact bodyPost_ret (v := .tuple #[(.agg #[.int .i64 0, .int .i64 0, .int .i64 0]), .bool false]) (by simp [results, Try.results33, go_sem, *]) rfl ⟨rfl, (by repeat (first | with_reducible exact Below.refl _ _ | with_reducible assumption | with_reducible refine Below.drew ?_ | with_reducible refine below_drewN ?_ _ | with_reducible refine Below.alloc ?_ ?_ _ | with_reducible refine Below.setCell ?_ ?_ _ | with_reducible refine Below.trans ?_ (Below.mono (by assumption) ?_) | omega | (simp <;> omega)))⟩
end Go.Proofs.Ytidaoalnngmoaaa
