/-
  Contracts of the checks of motions, and of TurnVector. No conditions.
-/
import Derived.Test.YtidaoalnngmoaaaDa
namespace Go.Proofs.Ytidaoalnngmoaaa
open Go.RowKit
set_option linter.unusedSimpArgs false
set_option linter.unusedVariables false

def Mot (k x y : Int) : Prop := (0 ≤ k ∧ k < 8) ∧ (0 ≤ x ∧ x < 6) ∧ (0 ≤ y ∧ y < 6)
instance (k x y : Int) : Decidable (Mot k x y) := by unfold Mot; infer_instance
set_option maxRecDepth 100000 in
theorem isCell_any (x y : Int) (w : World) : Calls Try.prog 110 #[.agg #[.int .i64 x, .int .i64 y]] w fun e w' => e = .returned (.bool (decide ((0 ≤ x ∧ x < 6) ∧ (0 ≤ y ∧ y < 6)))) ∧ Below w.heap.size w w' := by
  by_cases h0 : 0 ≤ x
  · by_cases h1 : x < 6
    · by_cases h2 : 0 ≤ y
      · by_cases h3 : y < 6
        · have hv : decide ((0 ≤ x ∧ x < 6) ∧ (0 ≤ y ∧ y < 6)) = true := by simp [*]
          rw [hv]
          clear hv
          go_enter Try.func110, Try.ntmps110
          go_wp2
          go_ret
          exact ⟨by first | rfl | simp [*], (by repeat (first | with_reducible exact Below.refl _ _ | with_reducible assumption | with_reducible refine Below.drew ?_ | with_reducible refine below_drewN ?_ _ | with_reducible refine Below.alloc ?_ ?_ _ | with_reducible refine Below.setCell ?_ ?_ _ | with_reducible refine Below.trans ?_ (Below.mono (by assumption) ?_) | omega | (simp <;> omega)))⟩
        · have hv : decide ((0 ≤ x ∧ x < 6) ∧ (0 ≤ y ∧ y < 6)) = false := by rw [decide_eq_false_iff_not]; omega
          rw [hv]
          clear hv
          go_enter Try.func110, Try.ntmps110
          go_wp2
          go_ret
          exact ⟨by first | rfl | simp [*], (by repeat (first | with_reducible exact Below.refl _ _ | with_reducible assumption | with_reducible refine Below.drew ?_ | with_reducible refine below_drewN ?_ _ | with_reducible refine Below.alloc ?_ ?_ _ | with_reducible refine Below.setCell ?_ ?_ _ | with_reducible refine Below.trans ?_ (Below.mono (by assumption) ?_) | omega | (simp <;> omega)))⟩
      · have hv : decide ((0 ≤ x ∧ x < 6) ∧ (0 ≤ y ∧ y < 6)) = false := by rw [decide_eq_false_iff_not]; omega
        rw [hv]
        clear hv
        go_enter Try.func110, Try.ntmps110
        go_wp2
        go_ret
        exact ⟨by first | rfl | simp [*], (by repeat (first | with_reducible exact Below.refl _ _ | with_reducible assumption | with_reducible refine Below.drew ?_ | with_reducible refine below_drewN ?_ _ | with_reducible refine Below.alloc ?_ ?_ _ | with_reducible refine Below.setCell ?_ ?_ _ | with_reducible refine Below.trans ?_ (Below.mono (by assumption) ?_) | omega | (simp <;> omega)))⟩
    · have hv : decide ((0 ≤ x ∧ x < 6) ∧ (0 ≤ y ∧ y < 6)) = false := by rw [decide_eq_false_iff_not]; omega
      rw [hv]
      clear hv
      go_enter Try.func110, Try.ntmps110
      go_wp2
      go_ret
      exact ⟨by first | rfl | simp [*], (by repeat (first | with_reducible exact Below.refl _ _ | with_reducible assumption | with_reducible refine Below.drew ?_ | with_reducible refine below_drewN ?_ _ | with_reducible refine Below.alloc ?_ ?_ _ | with_reducible refine Below.setCell ?_ ?_ _ | with_reducible refine Below.trans ?_ (Below.mono (by assumption) ?_) | omega | (simp <;> omega)))⟩
  · have hv : decide ((0 ≤ x ∧ x < 6) ∧ (0 ≤ y ∧ y < 6)) = false := by rw [decide_eq_false_iff_not]; omega
    rw [hv]
    clear hv
    go_enter Try.func110, Try.ntmps110
    go_wp2
    go_ret
    exact ⟨by first | rfl | simp [*], (by repeat (first | with_reducible exact Below.refl _ _ | with_reducible assumption | with_reducible refine Below.drew ?_ | with_reducible refine below_drewN ?_ _ | with_reducible refine Below.alloc ?_ ?_ _ | with_reducible refine Below.setCell ?_ ?_ _ | with_reducible refine Below.trans ?_ (Below.mono (by assumption) ?_) | omega | (simp <;> omega)))⟩

set_option maxRecDepth 100000 in
theorem isMotion_any (k x y : Int) (w : World) : Calls Try.prog 67 #[.agg #[.int .i64 k, .int .i64 x, .int .i64 y]] w fun e w' => e = .returned (.bool (decide (Mot k x y))) ∧ Below w.heap.size w w' := by
  have hl := isTurn_any k
  have hc := isCell_any x y
  by_cases hk : 0 ≤ k ∧ k < 8
  · rw [show decide (0 ≤ k ∧ k < 8) = true from decide_eq_true hk] at hl
    have hv : decide (Mot k x y) = decide ((0 ≤ x ∧ x < 6) ∧ (0 ≤ y ∧ y < 6)) := by rw [decide_eq_decide]; unfold Mot; simp [hk]
    rw [hv]
    generalize decide ((0 ≤ x ∧ x < 6) ∧ (0 ≤ y ∧ y < 6)) = b at *
    have hL := Lib.hid hl
    have hCC := Lib.hid hc
    clear hl hc hv hk
    go_enter Try.func67, Try.ntmps67
    go_wp2_with (first | (go_at_call 73; (with_reducible refine (hL.out _).mono ?_); rintro e w1 ⟨rfl, rfl⟩) | (go_at_call 110; (with_reducible refine (hCC.out _).mono ?_); rintro e w1 ⟨rfl, hb⟩; obtain ⟨hc, hf, hT, hz⟩ := bfacts hb; (try simp only [World.size_alloc, World.size_setCell, World.size_drew, size_drewN] at hc hf hT hz); (try (have hzA := Nat.lt_of_succ_le hz)); (try (have hl0 : w.heap.size ≤ w1.heap.size := by omega)); (try (have hz0 : w.heap.size < w1.heap.size := by omega)); (try (have hz1 : w.heap.size + 1 < w1.heap.size := by omega)); (try (have hz2 : w.heap.size + 1 + 1 < w1.heap.size := by omega)); (try (have hz3 : w.heap.size + 1 + 1 + 1 < w1.heap.size := by omega)); (try (have hz4 : w.heap.size + 1 + 1 + 1 + 1 < w1.heap.size := by omega))))
    go_ret
    exact ⟨by first | rfl | simp [*], (by repeat (first | with_reducible exact Below.refl _ _ | with_reducible assumption | with_reducible refine Below.drew ?_ | with_reducible refine below_drewN ?_ _ | with_reducible refine Below.alloc ?_ ?_ _ | with_reducible refine Below.setCell ?_ ?_ _ | with_reducible refine Below.trans ?_ (Below.mono (by assumption) ?_) | omega | (simp <;> omega)))⟩
  · rw [show decide (0 ≤ k ∧ k < 8) = false from decide_eq_false hk] at hl
    have hv : decide (Mot k x y) = false := decide_eq_false (fun h => hk h.1)
    rw [hv]
    have hL := Lib.hid hl
    clear hl hc hv hk
    go_enter Try.func67, Try.ntmps67
    go_wp2_with (go_at_call 73; (with_reducible refine (hL.out _).mono ?_); rintro e w1 ⟨rfl, rfl⟩)
    go_ret
    exact ⟨by first | rfl | simp [*], (by repeat (first | with_reducible exact Below.refl _ _ | with_reducible assumption | with_reducible refine Below.drew ?_ | with_reducible refine below_drewN ?_ _ | with_reducible refine Below.alloc ?_ ?_ _ | with_reducible refine Below.setCell ?_ ?_ _ | with_reducible refine Below.trans ?_ (Below.mono (by assumption) ?_) | omega | (simp <;> omega)))⟩

set_option maxRecDepth 100000 in
theorem l3Motion_any (k x y : Int) (w : World) : Calls Try.prog 65 #[.agg #[.int .i64 k, .int .i64 x, .int .i64 y]] w fun e w' => e = .returned (.bool (decide (Mot k x y))) ∧ Below w.heap.size w w' := by
  have hl := l3Turns_any k
  have hx := l1In_any x 0 5
  have hy := l1In_any y 0 5
  by_cases hk : 0 ≤ k ∧ k < 8
  · rw [show decide (0 ≤ k ∧ k < 8) = true from decide_eq_true hk] at hl
    by_cases hxx : 0 ≤ x ∧ x ≤ 5
    · rw [show decide (0 ≤ x ∧ x ≤ 5) = true from decide_eq_true hxx] at hx
      have hv : decide (Mot k x y) = decide (0 ≤ y ∧ y ≤ 5) := by rw [decide_eq_decide]; unfold Mot; omega
      rw [hv]
      generalize decide (0 ≤ y ∧ y ≤ 5) = b at *
      have hL := Lib.hid hl
      have hX := Lib.hid hx
      have hY := Lib.hid hy
      clear hl hx hy hv hk hxx
      go_enter Try.func65, Try.ntmps65
      go_wp2_with (first | (go_at_call 69; (with_reducible refine (hL.out _).mono ?_); rintro e w1 ⟨rfl, rfl⟩) | (go_at_call 109; (first | (with_reducible refine (hX.out _).mono ?_) | (with_reducible refine (hY.out _).mono ?_)); rintro e w1 ⟨rfl, rfl⟩))
      go_ret
      exact ⟨by first | rfl | simp [*], (by repeat (first | with_reducible exact Below.refl _ _ | with_reducible assumption | with_reducible refine Below.drew ?_ | with_reducible refine below_drewN ?_ _ | with_reducible refine Below.alloc ?_ ?_ _ | with_reducible refine Below.setCell ?_ ?_ _ | with_reducible refine Below.trans ?_ (Below.mono (by assumption) ?_) | omega | (simp <;> omega)))⟩
    · rw [show decide (0 ≤ x ∧ x ≤ 5) = false from decide_eq_false hxx] at hx
      have hv : decide (Mot k x y) = false := decide_eq_false (fun h => hxx ⟨h.2.1.1, by have := h.2.1.2; omega⟩)
      rw [hv]
      have hL := Lib.hid hl
      have hX := Lib.hid hx
      clear hl hx hy hv hk hxx
      go_enter Try.func65, Try.ntmps65
      go_wp2_with (first | (go_at_call 69; (with_reducible refine (hL.out _).mono ?_); rintro e w1 ⟨rfl, rfl⟩) | (go_at_call 109; (with_reducible refine (hX.out _).mono ?_); rintro e w1 ⟨rfl, rfl⟩))
      go_ret
      exact ⟨by first | rfl | simp [*], (by repeat (first | with_reducible exact Below.refl _ _ | with_reducible assumption | with_reducible refine Below.drew ?_ | with_reducible refine below_drewN ?_ _ | with_reducible refine Below.alloc ?_ ?_ _ | with_reducible refine Below.setCell ?_ ?_ _ | with_reducible refine Below.trans ?_ (Below.mono (by assumption) ?_) | omega | (simp <;> omega)))⟩
  · rw [show decide (0 ≤ k ∧ k < 8) = false from decide_eq_false hk] at hl
    have hv : decide (Mot k x y) = false := decide_eq_false (fun h => hk h.1)
    rw [hv]
    have hL := Lib.hid hl
    clear hl hx hy hv hk
    go_enter Try.func65, Try.ntmps65
    go_wp2_with (go_at_call 69; (with_reducible refine (hL.out _).mono ?_); rintro e w1 ⟨rfl, rfl⟩)
    go_ret
    exact ⟨by first | rfl | simp [*], (by repeat (first | with_reducible exact Below.refl _ _ | with_reducible assumption | with_reducible refine Below.drew ?_ | with_reducible refine below_drewN ?_ _ | with_reducible refine Below.alloc ?_ ?_ _ | with_reducible refine Below.setCell ?_ ?_ _ | with_reducible refine Below.trans ?_ (Below.mono (by assumption) ?_) | omega | (simp <;> omega)))⟩

/-- n quarters of a shift; a turn of a shift -/
def vI : Nat → Int × Int → Int × Int
  | 0, p => p
  | n + 1, p => (-(vI n p).2 % 6, (vI n p).1)
def vT (t : Nat) (p : Int × Int) : Int × Int := if 4 ≤ t then (-(vI (t % 4) p).1 % 6, (vI (t % 4) p).2) else vI (t % 4) p
theorem vI_bd (x y : Int) (hx : 0 ≤ x ∧ x < 6) (hy : 0 ≤ y ∧ y < 6) : ∀ n, (0 ≤ (vI n (x, y)).1 ∧ (vI n (x, y)).1 < 6) ∧ (0 ≤ (vI n (x, y)).2 ∧ (vI n (x, y)).2 < 6)
  | 0 => ⟨hx, hy⟩
  | n + 1 => by
      have h := vI_bd x y hx hy n
      simp only [vI]
      omega
theorem vT_bd (x y : Int) (hx : 0 ≤ x ∧ x < 6) (hy : 0 ≤ y ∧ y < 6) (t : Nat) : (0 ≤ (vT t (x, y)).1 ∧ (vT t (x, y)).1 < 6) ∧ (0 ≤ (vT t (x, y)).2 ∧ (vT t (x, y)).2 < 6) := by
  have h := vI_bd x y hx hy (t % 4)
  unfold vT
  split
  · show (0 ≤ -(vI (t % 4) (x, y)).1 % 6 ∧ -(vI (t % 4) (x, y)).1 % 6 < 6) ∧ _
    omega
  · exact h
theorem vT_tI0 : ∀ t, t < 8 → ∀ x, x < 6 → ∀ y, y < 6 → vT t (((x : Nat) : Int), ((y : Nat) : Int)) = (((tI t (((x : Nat) : Int), ((y : Nat) : Int))).1 - (tI t (0, 0)).1) % 6, ((tI t (((x : Nat) : Int), ((y : Nat) : Int))).2 - (tI t (0, 0)).2) % 6) := by decide +kernel
theorem vT_tI (t : Nat) (ht : t < 8) (x y : Int) (hx : 0 ≤ x ∧ x < 6) (hy : 0 ≤ y ∧ y < 6) : vT t (x, y) = (((tI t (x, y)).1 - (tI t (0, 0)).1) % 6, ((tI t (x, y)).2 - (tI t (0, 0)).2) % 6) := by
  have h := vT_tI0 t ht x.toNat (by omega) y.toNat (by omega)
  rw [show ((x.toNat : Nat) : Int) = x by omega, show ((y.toNat : Nat) : Int) = y by omega] at h
  exact h
def VcRel (m : Nat) (kx ky : Int) (w : World) (x y i o : Value) (wr : World) : Prop :=
  ∃ (n : Nat) (px py : Int), n ≤ m ∧ i = .int .i64 (n : Int) ∧ x = .int .i64 px ∧ y = .int .i64 py ∧ vI n (kx, ky) = (px, py) ∧ w = wr
set_option maxRecDepth 100000 in
theorem l3Vector_any (t : Nat) (ht : t < 8) (kx ky : Int) (hx : 0 ≤ kx ∧ kx < 6) (hy : 0 ≤ ky ∧ ky < 6) (w : World) :
    Calls Try.prog 66 #[.int .i64 (t : Int), .int .i64 kx, .int .i64 ky] w fun e w' => e = .returned (.tuple #[.int .i64 (vT t (kx, ky)).1, .int .i64 (vT t (kx, ky)).2]) ∧ w = w' := by
  obtain ⟨m, hm⟩ : ∃ m, m = t % 4 := ⟨_, rfl⟩
  have ht4 : (t : Int) % 4 = (m : Int) := by omega
  have hm4 : m < 4 := by omega
  have hM := Lib.hid hm
  clear hm
  go_enter Try.func66, Try.ntmps66
  go_wp2
  go_loopw [1, 2, 8, 9] (VcRel m kx ky w) (fun _ _ i _ _ => m - (intOf i).toNat)
  case atStart => exact ⟨0, kx, ky, Nat.zero_le _, rfl, rfl, rfl, rfl, rfl⟩
  case round =>
    obtain ⟨n, px, py, hn, rfl, rfl, rfl, hq, rfl⟩ := hrel
    have hbd := vI_bd kx ky hx hy n
    rw [hq] at hbd
    obtain ⟨⟨b0, b1⟩, b2, b3⟩ := hbd
    dsimp only at b0 b1 b2 b3
    by_cases hlt : n < m
    · have hlt' : (n : Int) < (m : Int) := by omega
      have hq2 := Lib.hid (show vI (n + 1) (kx, ky) = (-py % 6, px) by rw [vI, hq])
      clear hq
      go_wp2_with (go_at_call 85; (with_reducible refine (l2Mod_any _ _).mono ?_); rintro e w1 ⟨rfl, rfl⟩)
      go_roundw
      case rel => exact ⟨n + 1, -py % 6, px, by omega, by go_num, by first | rfl | go_num, rfl, hq2.out, rfl⟩
      case measure => simp [intOf]; omega
    · have e : n = m := by omega
      subst e
      by_cases h4 : 4 ≤ t
      · have h4' : 4 ≤ (t : Int) := by omega
        have hTT := Lib.hid (show vT t (kx, ky) = (-px % 6, py) by unfold vT; rw [if_pos h4, ← hM.out, hq])
        clear hq
        go_wp2_with (go_at_call 85; (with_reducible refine (l2Mod_any _ _).mono ?_); rintro e w1 ⟨rfl, rfl⟩)
        go_ret2
        exact ⟨by rw [hTT.out]; simp, rfl⟩
      · have h4' : ¬ 4 ≤ (t : Int) := by omega
        have hTT := Lib.hid (show vT t (kx, ky) = (px, py) by unfold vT; rw [if_neg h4, ← hM.out, hq])
        clear hq
        go_wp2
        go_ret2
        exact ⟨by rw [hTT.out]; simp, rfl⟩
set_option maxRecDepth 100000 in
theorem turnVector_any (t : Nat) (ht : t < 8) (kx ky : Int) (hx : 0 ≤ kx ∧ kx < 6) (hy : 0 ≤ ky ∧ ky < 6) (w : World) :
    Calls Try.prog 68 #[.int .i64 (t : Int), .int .i64 kx, .int .i64 ky] w fun e w' => e = .returned (.tuple #[.int .i64 (vT t (kx, ky)).1, .int .i64 (vT t (kx, ky)).2]) ∧ w = w' := by
  have h0 := turnCell_any t ht 0 0 (by omega) (by omega)
  have h1 := turnCell_any t ht kx ky hx hy
  have b0 := tI_bd 0 0 (by omega) (by omega) t
  have b1 := tI_bd kx ky hx hy t
  have hv := vT_tI t ht kx ky hx hy
  generalize tI t (0, 0) = p at *
  generalize tI t (kx, ky) = q at *
  obtain ⟨p1, p2⟩ := p
  obtain ⟨q1, q2⟩ := q
  dsimp only at h0 h1 b0 b1 hv
  obtain ⟨⟨c0, c1⟩, c2, c3⟩ := b0
  obtain ⟨⟨d0, d1⟩, d2, d3⟩ := b1
  have hH0 := Lib.hid h0
  have hH1 := Lib.hid h1
  have hV := Lib.hid hv
  clear h0 h1 hv
  go_enter Try.func68, Try.ntmps68
  go_wp2_with (first | (go_at_call 111; (first | (with_reducible refine (hH0.out _).mono ?_) | (with_reducible refine (hH1.out _).mono ?_)); rintro e w1 ⟨rfl, rfl⟩) | (go_at_call 86; (with_reducible refine (rest_any _ _).mono ?_); rintro e w1 ⟨rfl, rfl⟩))
  go_ret2
  exact ⟨by rw [hV.out]; simp, rfl⟩

set_option maxRecDepth 100000 in
theorem specTurnVector_ok (t : Nat) (x y : Int) (ht : t < 8) (hx : 0 ≤ x ∧ x < 6) (hy : 0 ≤ y ∧ y < 6) (w : World) : Calls Try.prog 18 #[.int .i64 (t : Int), .int .i64 x, .int .i64 y] w fun e w' => e = .returned (.tuple #[.int .i64 (vT t (x, y)).1, .int .i64 (vT t (x, y)).2, .bool true]) ∧ Below w.heap.size w w' := by
  have hm := l3Motion_any (t : Int) x y
  rw [show decide (Mot (t : Int) x y) = true from decide_eq_true ⟨by omega, hx, hy⟩] at hm
  have hM := Lib.hid hm
  clear hm
  go_enter Try.func18, Try.ntmps18
  go_wp2_with (first | (go_at_call 65; (with_reducible refine (hM.out _).mono ?_); rintro e w1 ⟨rfl, hb⟩; obtain ⟨hc, hf, hT, hz⟩ := bfacts hb; (try simp only [World.size_alloc, World.size_setCell, World.size_drew, size_drewN] at hc hf hT hz); (try (have hzA := Nat.lt_of_succ_le hz)); (try (have hl0 : w.heap.size ≤ w1.heap.size := by omega)); (try (have hz0 : w.heap.size < w1.heap.size := by omega)); (try (have hz1 : w.heap.size + 1 < w1.heap.size := by omega)); (try (have hz2 : w.heap.size + 1 + 1 < w1.heap.size := by omega)); (try (have hz3 : w.heap.size + 1 + 1 + 1 < w1.heap.size := by omega)); (try (have hz4 : w.heap.size + 1 + 1 + 1 + 1 < w1.heap.size := by omega))) | (go_at_call 66; (with_reducible refine (l3Vector_any t ht x y hx hy _).mono ?_); rintro e w1 ⟨rfl, rfl⟩))
  go_ret3
  exact ⟨by simp, (by repeat (first | with_reducible exact Below.refl _ _ | with_reducible assumption | with_reducible refine Below.drew ?_ | with_reducible refine below_drewN ?_ _ | with_reducible refine Below.alloc ?_ ?_ _ | with_reducible refine Below.setCell ?_ ?_ _ | with_reducible refine Below.trans ?_ (Below.mono (by assumption) ?_) | omega | (simp <;> omega)))⟩

set_option maxRecDepth 100000 in
theorem specTurnVector_no (k x y : Int) (hn : ¬ Mot k x y) (w : World) : Calls Try.prog 18 #[.int .i64 k, .int .i64 x, .int .i64 y] w fun e w' => e = .returned (.tuple #[.int .i64 0, .int .i64 0, .bool false]) ∧ Below w.heap.size w w' := by
  have hm := l3Motion_any k x y
  rw [show decide (Mot k x y) = false from decide_eq_false hn] at hm
  have hM := Lib.hid hm
  clear hm hn
  go_enter Try.func18, Try.ntmps18
  go_wp2_with (go_at_call 65; (with_reducible refine (hM.out _).mono ?_); rintro e w1 ⟨rfl, hb⟩; obtain ⟨hc, hf, hT, hz⟩ := bfacts hb; (try simp only [World.size_alloc, World.size_setCell, World.size_drew, size_drewN] at hc hf hT hz); (try (have hzA := Nat.lt_of_succ_le hz)); (try (have hl0 : w.heap.size ≤ w1.heap.size := by omega)); (try (have hz0 : w.heap.size < w1.heap.size := by omega)); (try (have hz1 : w.heap.size + 1 < w1.heap.size := by omega)); (try (have hz2 : w.heap.size + 1 + 1 < w1.heap.size := by omega)); (try (have hz3 : w.heap.size + 1 + 1 + 1 < w1.heap.size := by omega)); (try (have hz4 : w.heap.size + 1 + 1 + 1 + 1 < w1.heap.size := by omega)))
  go_ret3
  exact ⟨by simp, (by repeat (first | with_reducible exact Below.refl _ _ | with_reducible assumption | with_reducible refine Below.drew ?_ | with_reducible refine below_drewN ?_ _ | with_reducible refine Below.alloc ?_ ?_ _ | with_reducible refine Below.setCell ?_ ?_ _ | with_reducible refine Below.trans ?_ (Below.mono (by assumption) ?_) | omega | (simp <;> omega)))⟩

set_option maxRecDepth 100000 in
theorem implTurnVector_ok (t : Nat) (x y : Int) (ht : t < 8) (hx : 0 ≤ x ∧ x < 6) (hy : 0 ≤ y ∧ y < 6) (w : World) : Calls Try.prog 19 #[.int .i64 (t : Int), .int .i64 x, .int .i64 y] w fun e w' => e = .returned (.tuple #[.int .i64 (vT t (x, y)).1, .int .i64 (vT t (x, y)).2, .bool true]) ∧ Below w.heap.size w w' := by
  have hm := isMotion_any (t : Int) x y
  rw [show decide (Mot (t : Int) x y) = true from decide_eq_true ⟨by omega, hx, hy⟩] at hm
  have hM := Lib.hid hm
  clear hm
  go_enter Try.func19, Try.ntmps19
  go_wp2_with (first | (go_at_call 67; (with_reducible refine (hM.out _).mono ?_); rintro e w1 ⟨rfl, hb⟩; obtain ⟨hc, hf, hT, hz⟩ := bfacts hb; (try simp only [World.size_alloc, World.size_setCell, World.size_drew, size_drewN] at hc hf hT hz); (try (have hzA := Nat.lt_of_succ_le hz)); (try (have hl0 : w.heap.size ≤ w1.heap.size := by omega)); (try (have hz0 : w.heap.size < w1.heap.size := by omega)); (try (have hz1 : w.heap.size + 1 < w1.heap.size := by omega)); (try (have hz2 : w.heap.size + 1 + 1 < w1.heap.size := by omega)); (try (have hz3 : w.heap.size + 1 + 1 + 1 < w1.heap.size := by omega)); (try (have hz4 : w.heap.size + 1 + 1 + 1 + 1 < w1.heap.size := by omega))) | (go_at_call 68; (with_reducible refine (turnVector_any t ht x y hx hy _).mono ?_); rintro e w1 ⟨rfl, rfl⟩))
  go_ret3
  exact ⟨by simp, (by repeat (first | with_reducible exact Below.refl _ _ | with_reducible assumption | with_reducible refine Below.drew ?_ | with_reducible refine below_drewN ?_ _ | with_reducible refine Below.alloc ?_ ?_ _ | with_reducible refine Below.setCell ?_ ?_ _ | with_reducible refine Below.trans ?_ (Below.mono (by assumption) ?_) | omega | (simp <;> omega)))⟩

set_option maxRecDepth 100000 in
theorem implTurnVector_no (k x y : Int) (hn : ¬ Mot k x y) (w : World) : Calls Try.prog 19 #[.int .i64 k, .int .i64 x, .int .i64 y] w fun e w' => e = .returned (.tuple #[.int .i64 0, .int .i64 0, .bool false]) ∧ Below w.heap.size w w' := by
  have hm := isMotion_any k x y
  rw [show decide (Mot k x y) = false from decide_eq_false hn] at hm
  have hM := Lib.hid hm
  clear hm hn
  go_enter Try.func19, Try.ntmps19
  go_wp2_with (go_at_call 67; (with_reducible refine (hM.out _).mono ?_); rintro e w1 ⟨rfl, hb⟩; obtain ⟨hc, hf, hT, hz⟩ := bfacts hb; (try simp only [World.size_alloc, World.size_setCell, World.size_drew, size_drewN] at hc hf hT hz); (try (have hzA := Nat.lt_of_succ_le hz)); (try (have hl0 : w.heap.size ≤ w1.heap.size := by omega)); (try (have hz0 : w.heap.size < w1.heap.size := by omega)); (try (have hz1 : w.heap.size + 1 < w1.heap.size := by omega)); (try (have hz2 : w.heap.size + 1 + 1 < w1.heap.size := by omega)); (try (have hz3 : w.heap.size + 1 + 1 + 1 < w1.heap.size := by omega)); (try (have hz4 : w.heap.size + 1 + 1 + 1 + 1 < w1.heap.size := by omega)))
  go_ret3
  exact ⟨by simp, (by repeat (first | with_reducible exact Below.refl _ _ | with_reducible assumption | with_reducible refine Below.drew ?_ | with_reducible refine below_drewN ?_ _ | with_reducible refine Below.alloc ?_ ?_ _ | with_reducible refine Below.setCell ?_ ?_ _ | with_reducible refine Below.trans ?_ (Below.mono (by assumption) ?_) | omega | (simp <;> omega)))⟩
end Go.Proofs.Ytidaoalnngmoaaa
