/-
  Contracts of quarters, the mirror and turns of the reference. No conditions.
-/
import Derived.Test.YtidaoalnngmoaaaDa
namespace Go.Proofs.Ytidaoalnngmoaaa
open Go.RowKit
set_option linter.unusedSimpArgs false
set_option linter.unusedVariables false

theorem zero_rows' (i : Nat) : row 0 i = 0 := by unfold row; simp
def QuMem (f : Nat → Nat) (X n : Nat) (w wr : World) : Prop :=
  Below w.heap.size w wr ∧ HoldsA wr 33 (w.heap.size) (row X 0) (row X 1) (row X 2) (row X 3) (row X 4) (row X 5) ∧ HoldsA wr 33 (w.heap.size + 1) 0 0 0 0 0 0 ∧ HoldsA wr 33 (w.heap.size + 1 + 1) (row (movN X f n) 0) (row (movN X f n) 1) (row (movN X f n) 2) (row (movN X f n) 3) (row (movN X f n) 4) (row (movN X f n) 5)
def QuRelY (f : Nat → Nat) (X : Nat) (w : World) (i : Value) (wr : World) : Prop :=
  ∃ y : Nat, y ≤ 6 ∧ i = .int .i64 (y : Int) ∧ QuMem f X (6 * y) w wr
def QuRel (f : Nat → Nat) (X y : Nat) (w : World) (i : Value) (wr : World) : Prop :=
  ∃ x : Nat, x ≤ 6 ∧ i = .int .i64 (x : Int) ∧ QuMem f X (6 * y + x) w wr
theorem quMem_start (f : Nat → Nat) (X : Nat) (w : World) : QuMem f X (6 * 0) w (((w.alloc (.cells #[.int .i64 (row X 0), .int .i64 (row X 1), .int .i64 (row X 2), .int .i64 (row X 3), .int .i64 (row X 4), .int .i64 (row X 5)] 33)).alloc (.cells #[.int .i64 0, .int .i64 0, .int .i64 0, .int .i64 0, .int .i64 0, .int .i64 0] 33)).alloc (.cells #[.int .i64 0, .int .i64 0, .int .i64 0, .int .i64 0, .int .i64 0, .int .i64 0] 33)) := by
  refine ⟨(by repeat (first | with_reducible exact Below.refl _ _ | with_reducible assumption | with_reducible refine Below.drew ?_ | with_reducible refine below_drewN ?_ _ | with_reducible refine Below.alloc ?_ ?_ _ | with_reducible refine Below.setCell ?_ ?_ _ | with_reducible refine Below.trans ?_ (Below.mono (by assumption) ?_) | omega | (simp <;> omega))), ?_, ?_, ?_⟩
  · (repeat (first | with_reducible assumption | (with_reducible refine HoldsA.made' ?_; (simp; done)) | with_reducible refine HoldsA.alloc ?_ _ | with_reducible refine HoldsA.drew ?_ | with_reducible refine HoldsA.drewN ?_ _ | (with_reducible refine HoldsA.far ?_ _ _ (by first | (simp; done) | (simp; omega))) | (with_reducible refine HoldsA.below ?_ (by with_reducible assumption) (by first | (simp; done) | (simp; omega) | omega))))
  · (repeat (first | with_reducible assumption | (with_reducible refine HoldsA.made' ?_; (simp; done)) | with_reducible refine HoldsA.alloc ?_ _ | with_reducible refine HoldsA.drew ?_ | with_reducible refine HoldsA.drewN ?_ _ | (with_reducible refine HoldsA.far ?_ _ _ (by first | (simp; done) | (simp; omega))) | (with_reducible refine HoldsA.below ?_ (by with_reducible assumption) (by first | (simp; done) | (simp; omega) | omega))))
  · have h : HoldsA (((w.alloc (.cells #[.int .i64 (row X 0), .int .i64 (row X 1), .int .i64 (row X 2), .int .i64 (row X 3), .int .i64 (row X 4), .int .i64 (row X 5)] 33)).alloc (.cells #[.int .i64 0, .int .i64 0, .int .i64 0, .int .i64 0, .int .i64 0, .int .i64 0] 33)).alloc (.cells #[.int .i64 0, .int .i64 0, .int .i64 0, .int .i64 0, .int .i64 0, .int .i64 0] 33)) 33 (w.heap.size + 1 + 1) 0 0 0 0 0 0 := by (repeat (first | with_reducible assumption | (with_reducible refine HoldsA.made' ?_; (simp; done)) | with_reducible refine HoldsA.alloc ?_ _ | with_reducible refine HoldsA.drew ?_ | with_reducible refine HoldsA.drewN ?_ _ | (with_reducible refine HoldsA.far ?_ _ _ (by first | (simp; done) | (simp; omega))) | (with_reducible refine HoldsA.below ?_ (by with_reducible assumption) (by first | (simp; done) | (simp; omega) | omega))))
    simpa [movN, zero_rows'] using h

set_option maxRecDepth 100000 in
set_option maxHeartbeats 1600000 in
theorem l3Quarter_any (X : Nat) (hX : Vs X) (w : World) : Calls Try.prog 112 #[(.agg #[.int .i64 (row X 0), .int .i64 (row X 1), .int .i64 (row X 2), .int .i64 (row X 3), .int .i64 (row X 4), .int .i64 (row X 5)])] w fun e w' => e = .returned (.agg #[.int .i64 (row (movN X qTo 36) 0), .int .i64 (row (movN X qTo 36) 1), .int .i64 (row (movN X qTo 36) 2), .int .i64 (row (movN X qTo 36) 3), .int .i64 (row (movN X qTo 36) 4), .int .i64 (row (movN X qTo 36) 5)]) ∧ Below w.heap.size w w' := by
  go_enter Try.func112, Try.ntmps112
  go_wp2
  go_loopw [4] (QuRelY qTo X w) (fun i _ => 6 - (intOf i).toNat)
  case atStart => exact ⟨0, Nat.zero_le _, rfl, quMem_start qTo X w⟩
  case round =>
    obtain ⟨y, hy, rfl, hm⟩ := hrel
    by_cases hlt : y < 6
    · have hlt' : (y : Int) < 6 := by omega
      go_wp2
      obtain ⟨wo, rfl⟩ : ∃ wo : World, wo = wr := ⟨_, rfl⟩
      go_loopw [5] (QuRel qTo X y w) (fun i _ => 6 - (intOf i).toNat)
      case atStart => exact ⟨0, Nat.zero_le _, rfl, hm⟩
      case round =>
        clear hm
        obtain ⟨x, hx, rfl, hbw, h0, h1, h2⟩ := hrel
        by_cases hlx : x < 6
        · have hlx' : (x : Int) < 6 := by omega
          have hk : 6 * y + x < 36 := by omega
          have hgt := l2Get_any X x y hlx hlt
          have hx0 := h0.c0
          have hx1 := h0.c1
          have hx2 := h0.c2
          have hx3 := h0.c3
          have hx4 := h0.c4
          have hx5 := h0.c5
          have hxf := h0.free
          have ho0 := h2.c0
          have ho1 := h2.c1
          have ho2 := h2.c2
          have ho3 := h2.c3
          have ho4 := h2.c4
          have ho5 := h2.c5
          have hof := h2.free
          have hlw := h0.lt
          have hlw1 := h1.lt
          have hlw2 := h2.lt
          obtain ⟨O1, hO1⟩ : ∃ z, z = movN X qTo (6 * y + x) := ⟨_, rfl⟩
          obtain ⟨O2, hO2⟩ : ∃ z, z = movN X qTo (6 * y + x + 1) := ⟨_, rfl⟩
          rw [← hO1] at h2 ho0 ho1 ho2 ho3 ho4 ho5
          cases hbit : X.testBit (6 * y + x) with
          | true =>
            have hfl := l2Flip_any O1 (5 - y) x (by omega) (by omega)
            have hor : O1 ^^^ 2 ^ (6 * x + (5 - y)) = O2 := by
              rw [hO1, hO2, ← movN_flip X qTo qTo_inj _ hk hbit]
              congr 2
              unfold qTo
              omega
            rw [hor] at hfl
            rw [show ((5 - y : Nat) : Int) = 5 - (y : Int) by omega, show ((x : Nat) : Int) = (x : Int) from rfl] at hfl
            rw [hbit] at hgt
            have hFL := Lib.hid hfl
            have hGT := Lib.hid hgt
            have hOE := Lib.hid hO2
            clear hfl hgt hor hO1 hO2 hbit
            go_wp2_with (first | (go_at_call 126; (with_reducible refine (hGT.out _).mono ?_); rintro e w1 ⟨rfl, hb⟩; obtain ⟨hc, hf, hT, hz⟩ := bfacts hb; (try simp only [World.size_alloc, World.size_setCell, World.size_drew, size_drewN] at hc hf hT hz); (try (have hzA := Nat.lt_of_succ_le hz)); (try (have hl0 : w.heap.size ≤ w1.heap.size := by omega)); (try (have hz0 : w.heap.size < w1.heap.size := by omega)); (try (have hz1 : w.heap.size + 1 < w1.heap.size := by omega)); (try (have hz2 : w.heap.size + 1 + 1 < w1.heap.size := by omega)); (try (have hz3 : w.heap.size + 1 + 1 + 1 < w1.heap.size := by omega)); (try (have hz4 : w.heap.size + 1 + 1 + 1 + 1 < w1.heap.size := by omega))) | (go_at_call 120; (with_reducible refine (hFL.out _).mono ?_); rintro e w1 ⟨rfl, hb⟩; obtain ⟨hc, hf, hT, hz⟩ := bfacts hb; (try simp only [World.size_alloc, World.size_setCell, World.size_drew, size_drewN] at hc hf hT hz); (try (have hzA := Nat.lt_of_succ_le hz)); (try (have hl0 : w.heap.size ≤ w1.heap.size := by omega)); (try (have hz0 : w.heap.size < w1.heap.size := by omega)); (try (have hz1 : w.heap.size + 1 < w1.heap.size := by omega)); (try (have hz2 : w.heap.size + 1 + 1 < w1.heap.size := by omega)); (try (have hz3 : w.heap.size + 1 + 1 + 1 < w1.heap.size := by omega)); (try (have hz4 : w.heap.size + 1 + 1 + 1 + 1 < w1.heap.size := by omega))))
            have hBB : Below wr.heap.size wr w1 := (by repeat (first | with_reducible exact Below.refl _ _ | with_reducible assumption | with_reducible refine Below.drew ?_ | with_reducible refine below_drewN ?_ _ | with_reducible refine Below.alloc ?_ ?_ _ | with_reducible refine Below.setCell ?_ ?_ _ | with_reducible refine Below.trans ?_ (Below.mono (by assumption) ?_) | omega | (simp <;> omega)))
            have e0 := h0.below hBB h0.lt
            have e1 := h1.below hBB h1.lt
            have e2 := (h2.below hBB h2.lt).store (row (O2) 0) (row (O2) 1) (row (O2) 2) (row (O2) 3) (row (O2) 4) (row (O2) 5)
            have hB3 := hbw.trans (hBB.mono hbw.size)
            have hzz := hBB.size
            clear hBB
            go_roundw
            case rel =>
              refine ⟨x + 1, by omega, by go_num, (by repeat (first | with_reducible exact Below.refl _ _ | with_reducible assumption | with_reducible refine Below.drew ?_ | with_reducible refine below_drewN ?_ _ | with_reducible refine Below.alloc ?_ ?_ _ | with_reducible refine Below.setCell ?_ ?_ _ | with_reducible refine Below.trans ?_ (Below.mono (by assumption) ?_) | omega | (simp <;> omega))), ?_, ?_, ?_⟩
              · (repeat (first | with_reducible assumption | (with_reducible refine HoldsA.made' ?_; (simp; done)) | with_reducible refine HoldsA.alloc ?_ _ | with_reducible refine HoldsA.drew ?_ | with_reducible refine HoldsA.drewN ?_ _ | (with_reducible refine HoldsA.far ?_ _ _ (by first | (simp; done) | (simp; omega))) | (with_reducible refine HoldsA.below ?_ (by with_reducible assumption) (by first | (simp; done) | (simp; omega) | omega))))
              · (repeat (first | with_reducible assumption | (with_reducible refine HoldsA.made' ?_; (simp; done)) | with_reducible refine HoldsA.alloc ?_ _ | with_reducible refine HoldsA.drew ?_ | with_reducible refine HoldsA.drewN ?_ _ | (with_reducible refine HoldsA.far ?_ _ _ (by first | (simp; done) | (simp; omega))) | (with_reducible refine HoldsA.below ?_ (by with_reducible assumption) (by first | (simp; done) | (simp; omega) | omega))))
              · rw [← Nat.add_assoc, ← hOE.out]; exact e2
            case measure => simp [intOf]; omega
          | false =>
            have hor : O1 = O2 := by rw [hO1, hO2, movN_skip X qTo _ hbit]
            rw [hbit] at hgt
            have hGT := Lib.hid hgt
            have hOE := Lib.hid hO2
            have hOR := Lib.hid hor
            clear hgt hor hO1 hO2 hbit
            go_wp2_with (go_at_call 126; (with_reducible refine (hGT.out _).mono ?_); rintro e w1 ⟨rfl, hb⟩; obtain ⟨hc, hf, hT, hz⟩ := bfacts hb; (try simp only [World.size_alloc, World.size_setCell, World.size_drew, size_drewN] at hc hf hT hz); (try (have hzA := Nat.lt_of_succ_le hz)); (try (have hl0 : w.heap.size ≤ w1.heap.size := by omega)); (try (have hz0 : w.heap.size < w1.heap.size := by omega)); (try (have hz1 : w.heap.size + 1 < w1.heap.size := by omega)); (try (have hz2 : w.heap.size + 1 + 1 < w1.heap.size := by omega)); (try (have hz3 : w.heap.size + 1 + 1 + 1 < w1.heap.size := by omega)); (try (have hz4 : w.heap.size + 1 + 1 + 1 + 1 < w1.heap.size := by omega)))
            have hBB : Below wr.heap.size wr w1 := (by repeat (first | with_reducible exact Below.refl _ _ | with_reducible assumption | with_reducible refine Below.drew ?_ | with_reducible refine below_drewN ?_ _ | with_reducible refine Below.alloc ?_ ?_ _ | with_reducible refine Below.setCell ?_ ?_ _ | with_reducible refine Below.trans ?_ (Below.mono (by assumption) ?_) | omega | (simp <;> omega)))
            have e0 := h0.below hBB h0.lt
            have e1 := h1.below hBB h1.lt
            have e2 := h2.below hBB h2.lt
            have hB3 := hbw.trans (hBB.mono hbw.size)
            clear hBB
            go_roundw
            case rel => exact ⟨x + 1, by omega, by go_num, hB3, e0, e1, by rw [← Nat.add_assoc, ← hOE.out, ← hOR.out]; exact e2⟩
            case measure => simp [intOf]; omega
        · have e : x = 6 := by omega
          subst e
          go_wp2
          go_roundw
          case rel => exact ⟨y + 1, by omega, by go_num, hbw, h0, h1, h2⟩
          case measure => simp [intOf]; omega
    · have e : y = 6 := by omega
      subst e
      obtain ⟨hbw, h0, h1, h2⟩ := hm
      have ho0 := h2.c0
      have ho1 := h2.c1
      have ho2 := h2.c2
      have ho3 := h2.c3
      have ho4 := h2.c4
      have ho5 := h2.c5
      have hof := h2.free
      have hr0 := h1.c0
      have hr1 := h1.c1
      have hr2 := h1.c2
      have hr3 := h1.c3
      have hr4 := h1.c4
      have hr5 := h1.c5
      have hrf := h1.free
      go_wp2
      exact bodyPost_ret (v := (.agg #[.int .i64 (row (movN X qTo 36) 0), .int .i64 (row (movN X qTo 36) 1), .int .i64 (row (movN X qTo 36) 2), .int .i64 (row (movN X qTo 36) 3), .int .i64 (row (movN X qTo 36) 4), .int .i64 (row (movN X qTo 36) 5)])) (by simp [results, Try.results112, go_sem, *]) rfl ⟨rfl, (by repeat (first | with_reducible exact Below.refl _ _ | with_reducible assumption | with_reducible refine Below.drew ?_ | with_reducible refine below_drewN ?_ _ | with_reducible refine Below.alloc ?_ ?_ _ | with_reducible refine Below.setCell ?_ ?_ _ | with_reducible refine Below.trans ?_ (Below.mono (by assumption) ?_) | omega | (simp <;> omega)))⟩

set_option maxRecDepth 100000 in
set_option maxHeartbeats 1600000 in
theorem l3Mirror_any (X : Nat) (hX : Vs X) (w : World) : Calls Try.prog 113 #[(.agg #[.int .i64 (row X 0), .int .i64 (row X 1), .int .i64 (row X 2), .int .i64 (row X 3), .int .i64 (row X 4), .int .i64 (row X 5)])] w fun e w' => e = .returned (.agg #[.int .i64 (row (movN X miTo 36) 0), .int .i64 (row (movN X miTo 36) 1), .int .i64 (row (movN X miTo 36) 2), .int .i64 (row (movN X miTo 36) 3), .int .i64 (row (movN X miTo 36) 4), .int .i64 (row (movN X miTo 36) 5)]) ∧ Below w.heap.size w w' := by
  go_enter Try.func113, Try.ntmps113
  go_wp2
  go_loopw [4] (QuRelY miTo X w) (fun i _ => 6 - (intOf i).toNat)
  case atStart => exact ⟨0, Nat.zero_le _, rfl, quMem_start miTo X w⟩
  case round =>
    obtain ⟨y, hy, rfl, hm⟩ := hrel
    by_cases hlt : y < 6
    · have hlt' : (y : Int) < 6 := by omega
      go_wp2
      obtain ⟨wo, rfl⟩ : ∃ wo : World, wo = wr := ⟨_, rfl⟩
      go_loopw [5] (QuRel miTo X y w) (fun i _ => 6 - (intOf i).toNat)
      case atStart => exact ⟨0, Nat.zero_le _, rfl, hm⟩
      case round =>
        clear hm
        obtain ⟨x, hx, rfl, hbw, h0, h1, h2⟩ := hrel
        by_cases hlx : x < 6
        · have hlx' : (x : Int) < 6 := by omega
          have hk : 6 * y + x < 36 := by omega
          have hgt := l2Get_any X x y hlx hlt
          have hx0 := h0.c0
          have hx1 := h0.c1
          have hx2 := h0.c2
          have hx3 := h0.c3
          have hx4 := h0.c4
          have hx5 := h0.c5
          have hxf := h0.free
          have ho0 := h2.c0
          have ho1 := h2.c1
          have ho2 := h2.c2
          have ho3 := h2.c3
          have ho4 := h2.c4
          have ho5 := h2.c5
          have hof := h2.free
          have hlw := h0.lt
          have hlw1 := h1.lt
          have hlw2 := h2.lt
          obtain ⟨O1, hO1⟩ : ∃ z, z = movN X miTo (6 * y + x) := ⟨_, rfl⟩
          obtain ⟨O2, hO2⟩ : ∃ z, z = movN X miTo (6 * y + x + 1) := ⟨_, rfl⟩
          rw [← hO1] at h2 ho0 ho1 ho2 ho3 ho4 ho5
          cases hbit : X.testBit (6 * y + x) with
          | true =>
            have hfl := l2Flip_any O1 (5 - x) y (by omega) (by omega)
            have hor : O1 ^^^ 2 ^ (6 * y + (5 - x)) = O2 := by
              rw [hO1, hO2, ← movN_flip X miTo miTo_inj _ hk hbit]
              congr 2
              unfold miTo
              omega
            rw [hor] at hfl
            rw [show ((5 - x : Nat) : Int) = 5 - (x : Int) by omega, show ((y : Nat) : Int) = (y : Int) from rfl] at hfl
            rw [hbit] at hgt
            have hFL := Lib.hid hfl
            have hGT := Lib.hid hgt
            have hOE := Lib.hid hO2
            clear hfl hgt hor hO1 hO2 hbit
            go_wp2_with (first | (go_at_call 126; (with_reducible refine (hGT.out _).mono ?_); rintro e w1 ⟨rfl, hb⟩; obtain ⟨hc, hf, hT, hz⟩ := bfacts hb; (try simp only [World.size_alloc, World.size_setCell, World.size_drew, size_drewN] at hc hf hT hz); (try (have hzA := Nat.lt_of_succ_le hz)); (try (have hl0 : w.heap.size ≤ w1.heap.size := by omega)); (try (have hz0 : w.heap.size < w1.heap.size := by omega)); (try (have hz1 : w.heap.size + 1 < w1.heap.size := by omega)); (try (have hz2 : w.heap.size + 1 + 1 < w1.heap.size := by omega)); (try (have hz3 : w.heap.size + 1 + 1 + 1 < w1.heap.size := by omega)); (try (have hz4 : w.heap.size + 1 + 1 + 1 + 1 < w1.heap.size := by omega))) | (go_at_call 120; (with_reducible refine (hFL.out _).mono ?_); rintro e w1 ⟨rfl, hb⟩; obtain ⟨hc, hf, hT, hz⟩ := bfacts hb; (try simp only [World.size_alloc, World.size_setCell, World.size_drew, size_drewN] at hc hf hT hz); (try (have hzA := Nat.lt_of_succ_le hz)); (try (have hl0 : w.heap.size ≤ w1.heap.size := by omega)); (try (have hz0 : w.heap.size < w1.heap.size := by omega)); (try (have hz1 : w.heap.size + 1 < w1.heap.size := by omega)); (try (have hz2 : w.heap.size + 1 + 1 < w1.heap.size := by omega)); (try (have hz3 : w.heap.size + 1 + 1 + 1 < w1.heap.size := by omega)); (try (have hz4 : w.heap.size + 1 + 1 + 1 + 1 < w1.heap.size := by omega))))
            have hBB : Below wr.heap.size wr w1 := (by repeat (first | with_reducible exact Below.refl _ _ | with_reducible assumption | with_reducible refine Below.drew ?_ | with_reducible refine below_drewN ?_ _ | with_reducible refine Below.alloc ?_ ?_ _ | with_reducible refine Below.setCell ?_ ?_ _ | with_reducible refine Below.trans ?_ (Below.mono (by assumption) ?_) | omega | (simp <;> omega)))
            have e0 := h0.below hBB h0.lt
            have e1 := h1.below hBB h1.lt
            have e2 := (h2.below hBB h2.lt).store (row (O2) 0) (row (O2) 1) (row (O2) 2) (row (O2) 3) (row (O2) 4) (row (O2) 5)
            have hB3 := hbw.trans (hBB.mono hbw.size)
            have hzz := hBB.size
            clear hBB
            go_roundw
            case rel =>
              refine ⟨x + 1, by omega, by go_num, (by repeat (first | with_reducible exact Below.refl _ _ | with_reducible assumption | with_reducible refine Below.drew ?_ | with_reducible refine below_drewN ?_ _ | with_reducible refine Below.alloc ?_ ?_ _ | with_reducible refine Below.setCell ?_ ?_ _ | with_reducible refine Below.trans ?_ (Below.mono (by assumption) ?_) | omega | (simp <;> omega))), ?_, ?_, ?_⟩
              · (repeat (first | with_reducible assumption | (with_reducible refine HoldsA.made' ?_; (simp; done)) | with_reducible refine HoldsA.alloc ?_ _ | with_reducible refine HoldsA.drew ?_ | with_reducible refine HoldsA.drewN ?_ _ | (with_reducible refine HoldsA.far ?_ _ _ (by first | (simp; done) | (simp; omega))) | (with_reducible refine HoldsA.below ?_ (by with_reducible assumption) (by first | (simp; done) | (simp; omega) | omega))))
              · (repeat (first | with_reducible assumption | (with_reducible refine HoldsA.made' ?_; (simp; done)) | with_reducible refine HoldsA.alloc ?_ _ | with_reducible refine HoldsA.drew ?_ | with_reducible refine HoldsA.drewN ?_ _ | (with_reducible refine HoldsA.far ?_ _ _ (by first | (simp; done) | (simp; omega))) | (with_reducible refine HoldsA.below ?_ (by with_reducible assumption) (by first | (simp; done) | (simp; omega) | omega))))
              · rw [← Nat.add_assoc, ← hOE.out]; exact e2
            case measure => simp [intOf]; omega
          | false =>
            have hor : O1 = O2 := by rw [hO1, hO2, movN_skip X miTo _ hbit]
            rw [hbit] at hgt
            have hGT := Lib.hid hgt
            have hOE := Lib.hid hO2
            have hOR := Lib.hid hor
            clear hgt hor hO1 hO2 hbit
            go_wp2_with (go_at_call 126; (with_reducible refine (hGT.out _).mono ?_); rintro e w1 ⟨rfl, hb⟩; obtain ⟨hc, hf, hT, hz⟩ := bfacts hb; (try simp only [World.size_alloc, World.size_setCell, World.size_drew, size_drewN] at hc hf hT hz); (try (have hzA := Nat.lt_of_succ_le hz)); (try (have hl0 : w.heap.size ≤ w1.heap.size := by omega)); (try (have hz0 : w.heap.size < w1.heap.size := by omega)); (try (have hz1 : w.heap.size + 1 < w1.heap.size := by omega)); (try (have hz2 : w.heap.size + 1 + 1 < w1.heap.size := by omega)); (try (have hz3 : w.heap.size + 1 + 1 + 1 < w1.heap.size := by omega)); (try (have hz4 : w.heap.size + 1 + 1 + 1 + 1 < w1.heap.size := by omega)))
            have hBB : Below wr.heap.size wr w1 := (by repeat (first | with_reducible exact Below.refl _ _ | with_reducible assumption | with_reducible refine Below.drew ?_ | with_reducible refine below_drewN ?_ _ | with_reducible refine Below.alloc ?_ ?_ _ | with_reducible refine Below.setCell ?_ ?_ _ | with_reducible refine Below.trans ?_ (Below.mono (by assumption) ?_) | omega | (simp <;> omega)))
            have e0 := h0.below hBB h0.lt
            have e1 := h1.below hBB h1.lt
            have e2 := h2.below hBB h2.lt
            have hB3 := hbw.trans (hBB.mono hbw.size)
            clear hBB
            go_roundw
            case rel => exact ⟨x + 1, by omega, by go_num, hB3, e0, e1, by rw [← Nat.add_assoc, ← hOE.out, ← hOR.out]; exact e2⟩
            case measure => simp [intOf]; omega
        · have e : x = 6 := by omega
          subst e
          go_wp2
          go_roundw
          case rel => exact ⟨y + 1, by omega, by go_num, hbw, h0, h1, h2⟩
          case measure => simp [intOf]; omega
    · have e : y = 6 := by omega
      subst e
      obtain ⟨hbw, h0, h1, h2⟩ := hm
      have ho0 := h2.c0
      have ho1 := h2.c1
      have ho2 := h2.c2
      have ho3 := h2.c3
      have ho4 := h2.c4
      have ho5 := h2.c5
      have hof := h2.free
      have hr0 := h1.c0
      have hr1 := h1.c1
      have hr2 := h1.c2
      have hr3 := h1.c3
      have hr4 := h1.c4
      have hr5 := h1.c5
      have hrf := h1.free
      go_wp2
      exact bodyPost_ret (v := (.agg #[.int .i64 (row (movN X miTo 36) 0), .int .i64 (row (movN X miTo 36) 1), .int .i64 (row (movN X miTo 36) 2), .int .i64 (row (movN X miTo 36) 3), .int .i64 (row (movN X miTo 36) 4), .int .i64 (row (movN X miTo 36) 5)])) (by simp [results, Try.results113, go_sem, *]) rfl ⟨rfl, (by repeat (first | with_reducible exact Below.refl _ _ | with_reducible assumption | with_reducible refine Below.drew ?_ | with_reducible refine below_drewN ?_ _ | with_reducible refine Below.alloc ?_ ?_ _ | with_reducible refine Below.setCell ?_ ?_ _ | with_reducible refine Below.trans ?_ (Below.mono (by assumption) ?_) | omega | (simp <;> omega)))⟩
end Go.Proofs.Ytidaoalnngmoaaa
