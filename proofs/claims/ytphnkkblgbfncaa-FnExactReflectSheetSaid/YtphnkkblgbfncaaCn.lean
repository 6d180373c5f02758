/-
  Contracts of the reference's l5Shrink. No conditions.
-/
import Derived.Test.YtphnkkblgbfncaaCm
namespace Go.Proofs.Ytphnkkblgbfncaa
open Go.RowKit
set_option linter.unusedSimpArgs false
set_option linter.unusedVariables false

/-- what stays in the loops of l5Shrink, and the sheet that grows in the fourth block -/
def ShMem (X Y Z : Nat) (w wr : World) : Prop :=
  Below w.heap.size w wr ∧ HoldsA wr 25 w.heap.size (row X 0) (row X 1) (row X 2) (row X 3) (row X 4) (row X 5) ∧ HoldsA wr 25 (w.heap.size + 1) (row Y 0) (row Y 1) (row Y 2) (row Y 3) (row Y 4) (row Y 5) ∧
    HoldsA wr 25 (w.heap.size + 1 + 1) 0 0 0 0 0 0 ∧ HoldsA wr 25 (w.heap.size + 1 + 1 + 1) (row Z 0) (row Z 1) (row Z 2) (row Z 3) (row Z 4) (row Z 5)
def ShRelY (X Y : Nat) (w : World) (i : Value) (wr : World) : Prop :=
  ∃ y : Nat, y ≤ 6 ∧ i = .int .i64 (y : Int) ∧ ShMem X Y (mkN (shrinkP X Y) (6 * y)) w wr
def ShRel (X Y y : Nat) (w : World) (i : Value) (wr : World) : Prop :=
  ∃ x : Nat, x ≤ 6 ∧ i = .int .i64 (x : Int) ∧ ShMem X Y (mkN (shrinkP X Y) (6 * y + x)) w wr

theorem shMem_start (X Y : Nat) (w : World) : ShMem X Y (mkN (shrinkP X Y) (6 * 0)) w ((((w.alloc (.cells #[.int .i64 (row X 0), .int .i64 (row X 1), .int .i64 (row X 2), .int .i64 (row X 3), .int .i64 (row X 4), .int .i64 (row X 5)] 25)).alloc (.cells #[.int .i64 (row Y 0), .int .i64 (row Y 1), .int .i64 (row Y 2), .int .i64 (row Y 3), .int .i64 (row Y 4), .int .i64 (row Y 5)] 25)).alloc (.cells #[.int .i64 0, .int .i64 0, .int .i64 0, .int .i64 0, .int .i64 0, .int .i64 0] 25)).alloc (.cells #[.int .i64 0, .int .i64 0, .int .i64 0, .int .i64 0, .int .i64 0, .int .i64 0] 25)) := by
  refine ⟨(by repeat (first | with_reducible exact Below.refl _ _ | with_reducible assumption | with_reducible refine Below.drew ?_ | with_reducible refine below_drewN ?_ _ | with_reducible refine Below.alloc ?_ ?_ _ | with_reducible refine Below.setCell ?_ ?_ _ | with_reducible refine Below.trans ?_ (Below.mono (by assumption) ?_) | omega | (simp <;> omega))), (((HoldsA.made w _ _ _ _ _ _ _).alloc _).alloc _).alloc _, ?_, ?_, ?_⟩
  · have h := (((HoldsA.made (w.alloc (.cells #[.int .i64 (row X 0), .int .i64 (row X 1), .int .i64 (row X 2), .int .i64 (row X 3), .int .i64 (row X 4), .int .i64 (row X 5)] 25)) 25 (row Y 0) (row Y 1) (row Y 2) (row Y 3) (row Y 4) (row Y 5)).alloc (.cells #[.int .i64 0, .int .i64 0, .int .i64 0, .int .i64 0, .int .i64 0, .int .i64 0] 25)).alloc (.cells #[.int .i64 0, .int .i64 0, .int .i64 0, .int .i64 0, .int .i64 0, .int .i64 0] 25))
    simpa using h
  · have h := ((HoldsA.made ((w.alloc (.cells #[.int .i64 (row X 0), .int .i64 (row X 1), .int .i64 (row X 2), .int .i64 (row X 3), .int .i64 (row X 4), .int .i64 (row X 5)] 25)).alloc (.cells #[.int .i64 (row Y 0), .int .i64 (row Y 1), .int .i64 (row Y 2), .int .i64 (row Y 3), .int .i64 (row Y 4), .int .i64 (row Y 5)] 25)) 25 0 0 0 0 0 0).alloc (.cells #[.int .i64 0, .int .i64 0, .int .i64 0, .int .i64 0, .int .i64 0, .int .i64 0] 25))
    simpa using h
  · have h := (HoldsA.made (((w.alloc (.cells #[.int .i64 (row X 0), .int .i64 (row X 1), .int .i64 (row X 2), .int .i64 (row X 3), .int .i64 (row X 4), .int .i64 (row X 5)] 25)).alloc (.cells #[.int .i64 (row Y 0), .int .i64 (row Y 1), .int .i64 (row Y 2), .int .i64 (row Y 3), .int .i64 (row Y 4), .int .i64 (row Y 5)] 25)).alloc (.cells #[.int .i64 0, .int .i64 0, .int .i64 0, .int .i64 0, .int .i64 0, .int .i64 0] 25)) 25 0 0 0 0 0 0)
    simpa [mkN, zero_rows] using h

set_option maxRecDepth 100000 in
set_option maxHeartbeats 1600000 in
theorem l5Shrink_any (X Y : Nat) (hX : Vs X) (hY : Vs Y) (w : World) : Calls Try.prog 47 #[(.agg #[.int .i64 (row X 0), .int .i64 (row X 1), .int .i64 (row X 2), .int .i64 (row X 3), .int .i64 (row X 4), .int .i64 (row X 5)]), (.agg #[.int .i64 (row Y 0), .int .i64 (row Y 1), .int .i64 (row Y 2), .int .i64 (row Y 3), .int .i64 (row Y 4), .int .i64 (row Y 5)])] w fun e w' => e = .returned (.agg #[.int .i64 (row (shrinkS X Y) 0), .int .i64 (row (shrinkS X Y) 1), .int .i64 (row (shrinkS X Y) 2), .int .i64 (row (shrinkS X Y) 3), .int .i64 (row (shrinkS X Y) 4), .int .i64 (row (shrinkS X Y) 5)]) ∧ Below w.heap.size w w' := by
  go_enter Try.func47, Try.ntmps47
  go_wp2
  go_loopw [6] (ShRelY X Y w) (fun i _ => 6 - (intOf i).toNat)
  case atStart => exact ⟨0, Nat.zero_le _, rfl, shMem_start X Y w⟩
  case round =>
    obtain ⟨y, hy, rfl, hm⟩ := hrel
    by_cases hlt : y < 6
    · have hlt' : (y : Int) < 6 := by omega
      go_wp2
      obtain ⟨wo, rfl⟩ : ∃ wo : World, wo = wr := ⟨_, rfl⟩
      go_loopw [7] (ShRel X Y y w) (fun i _ => 6 - (intOf i).toNat)
      case atStart => exact ⟨0, Nat.zero_le _, rfl, hm⟩
      case round =>
        clear hm
        obtain ⟨x, hx, rfl, hbw, h0, h1, h2, h3⟩ := hrel
        by_cases hlx : x < 6
        · have hlx' : (x : Int) < 6 := by omega
          have hk : 6 * y + x < 36 := by omega
          have hsh := l2Shift_any Y (x : Int) (y : Int)
          have hp : shiftN Y ((x : Int) % 6).toNat ((y : Int) % 6).toNat = pressN Y (6 * y + x) := by unfold pressN; congr 1 <;> omega
          rw [hp] at hsh
          have hSh := Lib.hid hsh
          clear hsh hp
          have hpt := l2Part_any (pressN Y (6 * y + x)) X (pressN_vs _ _) hX
          have hs4 := h3.lt
          have hs1 := h0.lt
          have hs2 := h1.lt
          have a0 := h0.c0
          have a1 := h0.c1
          have a2 := h0.c2
          have a3 := h0.c3
          have a4 := h0.c4
          have a5 := h0.c5
          have b0 := h1.c0
          have b1 := h1.c1
          have b2 := h1.c2
          have b3 := h1.c3
          have b4 := h1.c4
          have b5 := h1.c5
          obtain ⟨O1, hO1⟩ : ∃ z, z = mkN (shrinkP X Y) (6 * y + x) := ⟨_, rfl⟩
          rw [← hO1] at h3
          have d0 := h3.c0
          have d1 := h3.c1
          have d2 := h3.c2
          have d3 := h3.c3
          have d4 := h3.c4
          have d5 := h3.c5
          have dz := h3.free
          cases hbit : shrinkP X Y (6 * y + x) with
          | true =>
            obtain ⟨O2, hO2⟩ : ∃ z, z = mkN (shrinkP X Y) (6 * y + x + 1) := ⟨_, rfl⟩
            have hfl : O1 ^^^ 2 ^ (6 * y + x) = O2 := by rw [hO1, hO2]; exact mkN_flip _ _ hbit
            have hf0 := l2Flip_any O1 x y hlx hlt
            rw [hfl] at hf0
            have hFl := Lib.hid hf0
            have hOE := Lib.hid hO2
            clear hf0 hfl hO1 hO2
            rw [show decide (pressN Y (6 * y + x) &&& X = pressN Y (6 * y + x)) = true from hbit] at hpt
            have hPt := Lib.hid hpt
            clear hpt hbit
            generalize pressN Y (6 * y + x) = V at *
            go_wp2
            go_region_held3 (fun w' => w'.cell? ⟨w.heap.size, 0, none⟩ = some (.int .i64 (row X 0)) ∧ w'.cell? ⟨w.heap.size, 1, none⟩ = some (.int .i64 (row X 1)) ∧ w'.cell? ⟨w.heap.size, 2, none⟩ = some (.int .i64 (row X 2)) ∧ w'.cell? ⟨w.heap.size, 3, none⟩ = some (.int .i64 (row X 3)) ∧ w'.cell? ⟨w.heap.size, 4, none⟩ = some (.int .i64 (row X 4)) ∧ w'.cell? ⟨w.heap.size, 5, none⟩ = some (.int .i64 (row X 5)) ∧ w'.cell? ⟨w.heap.size + 1, 0, none⟩ = some (.int .i64 (row Y 0)) ∧ w'.cell? ⟨w.heap.size + 1, 1, none⟩ = some (.int .i64 (row Y 1)) ∧ w'.cell? ⟨w.heap.size + 1, 2, none⟩ = some (.int .i64 (row Y 2)) ∧ w'.cell? ⟨w.heap.size + 1, 3, none⟩ = some (.int .i64 (row Y 3)) ∧ w'.cell? ⟨w.heap.size + 1, 4, none⟩ = some (.int .i64 (row Y 4)) ∧ w'.cell? ⟨w.heap.size + 1, 5, none⟩ = some (.int .i64 (row Y 5))) (simp [*, World.cell?_alloc_some, World.cell?_setCell_far, Nat.ne_of_gt]) (first | (go_at_call 71; (with_reducible refine (hSh.out _).mono ?_); rintro e w1 ⟨rfl, hb⟩; obtain ⟨hc, hf, hT, hz⟩ := bfacts hb; (try simp only [World.size_alloc, World.size_setCell, World.size_drew, size_drewN] at hc hf hT hz); (try (have hzA := Nat.lt_of_succ_le hz)); (try (have hl0 : w.heap.size ≤ w1.heap.size := by omega)); (try (have hz0 : w.heap.size < w1.heap.size := by omega)); (try (have hz1 : w.heap.size + 1 < w1.heap.size := by omega)); (try (have hz2 : w.heap.size + 1 + 1 < w1.heap.size := by omega)); (try (have hz3 : w.heap.size + 1 + 1 + 1 < w1.heap.size := by omega)); (try (have hz4 : w.heap.size + 1 + 1 + 1 + 1 < w1.heap.size := by omega))) | (go_at_call 70; (with_reducible refine (hPt.out _).mono ?_); rintro e w1 ⟨rfl, hb⟩; obtain ⟨hc, hf, hT, hz⟩ := bfacts hb; (try simp only [World.size_alloc, World.size_setCell, World.size_drew, size_drewN] at hc hf hT hz); (try (have hzA := Nat.lt_of_succ_le hz)); (try (have hl0 : w.heap.size ≤ w1.heap.size := by omega)); (try (have hz0 : w.heap.size < w1.heap.size := by omega)); (try (have hz1 : w.heap.size + 1 < w1.heap.size := by omega)); (try (have hz2 : w.heap.size + 1 + 1 < w1.heap.size := by omega)); (try (have hz3 : w.heap.size + 1 + 1 + 1 < w1.heap.size := by omega)); (try (have hz4 : w.heap.size + 1 + 1 + 1 + 1 < w1.heap.size := by omega))))
            go_wp2_with (go_at_call 40; (with_reducible refine (hFl.out _).mono ?_); rintro e w1 ⟨rfl, hb⟩; obtain ⟨hc, hf, hT, hz⟩ := bfacts hb; (try simp only [World.size_alloc, World.size_setCell, World.size_drew, size_drewN] at hc hf hT hz); (try (have hzA := Nat.lt_of_succ_le hz)); (try (have hl0 : w.heap.size ≤ w1.heap.size := by omega)); (try (have hz0 : w.heap.size < w1.heap.size := by omega)); (try (have hz1 : w.heap.size + 1 < w1.heap.size := by omega)); (try (have hz2 : w.heap.size + 1 + 1 < w1.heap.size := by omega)); (try (have hz3 : w.heap.size + 1 + 1 + 1 < w1.heap.size := by omega)); (try (have hz4 : w.heap.size + 1 + 1 + 1 + 1 < w1.heap.size := by omega)))
            have hBB : Below wr.heap.size wr w1 := (by repeat (first | with_reducible exact Below.refl _ _ | with_reducible assumption | with_reducible refine Below.drew ?_ | with_reducible refine below_drewN ?_ _ | with_reducible refine Below.alloc ?_ ?_ _ | with_reducible refine Below.setCell ?_ ?_ _ | with_reducible refine Below.trans ?_ (Below.mono (by assumption) ?_) | omega | (simp <;> omega)))
            have e0 := h0.below hBB (by omega)
            have e1 := h1.below hBB (by omega)
            have e2 := h2.below hBB (by omega)
            have e3 := (h3.below hBB (by omega)).store (row O2 0) (row O2 1) (row O2 2) (row O2 3) (row O2 4) (row O2 5)
            have hB3 := hbw.trans (hBB.mono hbw.size)
            have hzz := hBB.size
            clear hBB
            go_roundw
            case rel =>
              refine ⟨x + 1, by omega, by go_num, (by repeat (first | with_reducible exact Below.refl _ _ | with_reducible assumption | with_reducible refine Below.drew ?_ | with_reducible refine below_drewN ?_ _ | with_reducible refine Below.alloc ?_ ?_ _ | with_reducible refine Below.setCell ?_ ?_ _ | with_reducible refine Below.trans ?_ (Below.mono (by assumption) ?_) | omega | (simp <;> omega))), ?_, ?_, ?_, ?_⟩
              · repeat (refine HoldsA.far ?_ _ _ (by first | (simp; done) | (simp; omega)))
                exact e0
              · repeat (refine HoldsA.far ?_ _ _ (by first | (simp; done) | (simp; omega)))
                exact e1
              · repeat (refine HoldsA.far ?_ _ _ (by first | (simp; done) | (simp; omega)))
                exact e2
              · rw [← Nat.add_assoc, ← hOE.out]
                exact e3
            case measure => simp [intOf]; omega
          | false =>
            have hsk := mkN_skip (shrinkP X Y) (6 * y + x) hbit
            have hSk := Lib.hid hsk
            have hOE := Lib.hid hO1
            clear hsk hO1
            rw [show decide (pressN Y (6 * y + x) &&& X = pressN Y (6 * y + x)) = false from hbit] at hpt
            have hPt := Lib.hid hpt
            clear hpt hbit
            generalize pressN Y (6 * y + x) = V at *
            go_wp2
            go_region_held3 (fun w' => w'.cell? ⟨w.heap.size, 0, none⟩ = some (.int .i64 (row X 0)) ∧ w'.cell? ⟨w.heap.size, 1, none⟩ = some (.int .i64 (row X 1)) ∧ w'.cell? ⟨w.heap.size, 2, none⟩ = some (.int .i64 (row X 2)) ∧ w'.cell? ⟨w.heap.size, 3, none⟩ = some (.int .i64 (row X 3)) ∧ w'.cell? ⟨w.heap.size, 4, none⟩ = some (.int .i64 (row X 4)) ∧ w'.cell? ⟨w.heap.size, 5, none⟩ = some (.int .i64 (row X 5)) ∧ w'.cell? ⟨w.heap.size + 1, 0, none⟩ = some (.int .i64 (row Y 0)) ∧ w'.cell? ⟨w.heap.size + 1, 1, none⟩ = some (.int .i64 (row Y 1)) ∧ w'.cell? ⟨w.heap.size + 1, 2, none⟩ = some (.int .i64 (row Y 2)) ∧ w'.cell? ⟨w.heap.size + 1, 3, none⟩ = some (.int .i64 (row Y 3)) ∧ w'.cell? ⟨w.heap.size + 1, 4, none⟩ = some (.int .i64 (row Y 4)) ∧ w'.cell? ⟨w.heap.size + 1, 5, none⟩ = some (.int .i64 (row Y 5))) (simp [*, World.cell?_alloc_some, World.cell?_setCell_far, Nat.ne_of_gt]) (first | (go_at_call 71; (with_reducible refine (hSh.out _).mono ?_); rintro e w1 ⟨rfl, hb⟩; obtain ⟨hc, hf, hT, hz⟩ := bfacts hb; (try simp only [World.size_alloc, World.size_setCell, World.size_drew, size_drewN] at hc hf hT hz); (try (have hzA := Nat.lt_of_succ_le hz)); (try (have hl0 : w.heap.size ≤ w1.heap.size := by omega)); (try (have hz0 : w.heap.size < w1.heap.size := by omega)); (try (have hz1 : w.heap.size + 1 < w1.heap.size := by omega)); (try (have hz2 : w.heap.size + 1 + 1 < w1.heap.size := by omega)); (try (have hz3 : w.heap.size + 1 + 1 + 1 < w1.heap.size := by omega)); (try (have hz4 : w.heap.size + 1 + 1 + 1 + 1 < w1.heap.size := by omega))) | (go_at_call 70; (with_reducible refine (hPt.out _).mono ?_); rintro e w1 ⟨rfl, hb⟩; obtain ⟨hc, hf, hT, hz⟩ := bfacts hb; (try simp only [World.size_alloc, World.size_setCell, World.size_drew, size_drewN] at hc hf hT hz); (try (have hzA := Nat.lt_of_succ_le hz)); (try (have hl0 : w.heap.size ≤ w1.heap.size := by omega)); (try (have hz0 : w.heap.size < w1.heap.size := by omega)); (try (have hz1 : w.heap.size + 1 < w1.heap.size := by omega)); (try (have hz2 : w.heap.size + 1 + 1 < w1.heap.size := by omega)); (try (have hz3 : w.heap.size + 1 + 1 + 1 < w1.heap.size := by omega)); (try (have hz4 : w.heap.size + 1 + 1 + 1 + 1 < w1.heap.size := by omega))))
            have hBB : Below wr.heap.size wr w1 := (by repeat (first | with_reducible exact Below.refl _ _ | with_reducible assumption | with_reducible refine Below.drew ?_ | with_reducible refine below_drewN ?_ _ | with_reducible refine Below.alloc ?_ ?_ _ | with_reducible refine Below.setCell ?_ ?_ _ | with_reducible refine Below.trans ?_ (Below.mono (by assumption) ?_) | omega | (simp <;> omega)))
            have e0 := h0.below hBB (by omega)
            have e1 := h1.below hBB (by omega)
            have e2 := h2.below hBB (by omega)
            have e3 := h3.below hBB (by omega)
            have hB3 := hbw.trans (hBB.mono hbw.size)
            clear hBB
            go_wp2
            go_roundw
            case rel => exact ⟨x + 1, by omega, by go_num, hB3, e0, e1, e2, by rw [← Nat.add_assoc, hSk.out, ← hOE.out]; exact e3⟩
            case measure => simp [intOf]; omega
        · have e : x = 6 := by omega
          subst e
          go_wp2
          go_roundw
          case rel => exact ⟨y + 1, by omega, by go_num, hbw, h0, h1, h2, h3⟩
          case measure => simp [intOf]; omega
    · have e : y = 6 := by omega
      subst e
      obtain ⟨hbw, h0, h1, h2, h3⟩ := hm
      have hd0 := h3.c0
      have hd1 := h3.c1
      have hd2 := h3.c2
      have hd3 := h3.c3
      have hd4 := h3.c4
      have hd5 := h3.c5
      have hr0 := h2.c0
      have hr1 := h2.c1
      have hr2 := h2.c2
      have hr3 := h2.c3
      have hr4 := h2.c4
      have hr5 := h2.c5
      have hfr := h2.free
      have hfin : mkN (shrinkP X Y) (6 * 6) = shrinkS X Y := rfl
      rw [hfin] at hd0 hd1 hd2 hd3 hd4 hd5
      clear hfin h3
      go_wp2
      exact bodyPost_ret (v := (.agg #[.int .i64 (row (shrinkS X Y) 0), .int .i64 (row (shrinkS X Y) 1), .int .i64 (row (shrinkS X Y) 2), .int .i64 (row (shrinkS X Y) 3), .int .i64 (row (shrinkS X Y) 4), .int .i64 (row (shrinkS X Y) 5)])) (by simp [results, Try.results47, go_sem, *]) rfl ⟨rfl, (by repeat (first | with_reducible exact Below.refl _ _ | with_reducible assumption | with_reducible refine Below.drew ?_ | with_reducible refine below_drewN ?_ _ | with_reducible refine Below.alloc ?_ ?_ _ | with_reducible refine Below.setCell ?_ ?_ _ | with_reducible refine Below.trans ?_ (Below.mono (by assumption) ?_) | omega | (simp <;> omega)))⟩
end Go.Proofs.Ytphnkkblgbfncaa
