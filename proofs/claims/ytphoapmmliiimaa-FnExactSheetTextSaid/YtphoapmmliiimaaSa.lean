/-
  The text of a sheet: contracts of the reference's l2Text, and plain facts on it. No conditions.
-/
import Derived.Test.YtphoapmmliiimaaCk
import Derived.Lib.Join
namespace Go.Proofs.Ytphoapmmliiimaa
open Go.RowKit
set_option linter.unusedSimpArgs false
set_option linter.unusedVariables false

/-- a string of bytes -/
def bz (l : List UInt8) : ByteArray := ⟨l.toArray⟩
theorem bz_app (l : List UInt8) (c : UInt8) : bz l ++ (⟨#[c]⟩ : ByteArray) = bz (l ++ [c]) := by
  unfold bz
  apply ByteArray.ext
  simp [ByteArray.data_append]
theorem bz_size (l : List UInt8) : (bz l).size = l.length := by
  unfold bz ByteArray.size
  simp
/-- the first n signs of row y -/
def sgn (X k : Nat) : UInt8 := if X.testBit k = true then 35 else 46
def rwB (X y n : Nat) : List UInt8 := (List.range n).map fun x => sgn X (6 * y + x)
theorem rwB_succ (X y n : Nat) : rwB X y (n + 1) = rwB X y n ++ [sgn X (6 * y + n)] := by
  unfold rwB; rw [List.range_succ, List.map_append]; rfl
theorem rwB_len (X y n : Nat) : (rwB X y n).length = n := by unfold rwB; simp
/-- the text of y rows; the same with a stroke behind -/
def txR (X : Nat) : Nat → List UInt8
  | 0 => []
  | y + 1 => (if y = 0 then [] else txR X y ++ [47]) ++ rwB X y 6
def prR (X y : Nat) : List UInt8 := if y = 0 then [] else txR X y ++ [47]
theorem txR_succ (X y : Nat) : txR X (y + 1) = prR X y ++ rwB X y 6 := rfl
theorem txR_join (X : Nat) : Lib.join [rwB X 0 6, rwB X 1 6, rwB X 2 6, rwB X 3 6, rwB X 4 6, rwB X 5 6] [47] = txR X 6 := by
  simp [Lib.join, txR, List.intercalate]
theorem txR_len (X : Nat) : ∀ y, (txR X y).length ≤ 7 * y
  | 0 => Nat.le_refl _
  | y + 1 => by
      have := txR_len X y
      rw [txR, List.length_append, rwB_len]
      split
      · simp; omega
      · rw [List.length_append]; simp; omega

theorem pr_zero (X : Nat) : bz (prR X 0 ++ rwB X 0 0) = bz (txR X 0) := rfl
theorem pr_pos (X y : Nat) (h : ¬ y = 0) : bz (prR X y ++ rwB X y 0) = bz (txR X y) ++ (⟨#[47]⟩ : ByteArray) := by
  unfold prR
  rw [if_neg h, bz_app]
  unfold rwB
  simp
theorem pr_next (X y x : Nat) : bz (prR X y ++ rwB X y (x + 1)) = bz (prR X y ++ rwB X y x) ++ (⟨#[sgn X (6 * y + x)]⟩ : ByteArray) := by
  rw [rwB_succ, bz_app, List.append_assoc]
theorem size_app (s : ByteArray) (c : UInt8) : (s ++ (⟨#[c]⟩ : ByteArray)).size = s.size + 1 := by
  rw [ByteArray.size_append]; rfl
def TxRelY (X : Nat) (w : World) (o i : Value) (wr : World) : Prop :=
  ∃ (y : Nat) (s : ByteArray), y ≤ 6 ∧ i = .int .i64 (y : Int) ∧ o = .string s ∧ Hid (s = bz (txR X y)) ∧ s.size ≤ 7 * y ∧ Below w.heap.size w wr ∧ HoldsA wr 26 (w.heap.size) (row X 0) (row X 1) (row X 2) (row X 3) (row X 4) (row X 5)
def TxRel (X y : Nat) (w : World) (o i : Value) (wr : World) : Prop :=
  ∃ (x : Nat) (s : ByteArray), x ≤ 6 ∧ i = .int .i64 (x : Int) ∧ o = .string s ∧ Hid (s = bz (prR X y ++ rwB X y x)) ∧ s.size ≤ 7 * y + 1 + x ∧ Below w.heap.size w wr ∧ HoldsA wr 26 (w.heap.size) (row X 0) (row X 1) (row X 2) (row X 3) (row X 4) (row X 5)
set_option maxRecDepth 100000 in
set_option maxHeartbeats 1600000 in
theorem l2Text_any (X : Nat) (w : World) : Calls Try.prog 62 #[(.agg #[.int .i64 (row X 0), .int .i64 (row X 1), .int .i64 (row X 2), .int .i64 (row X 3), .int .i64 (row X 4), .int .i64 (row X 5)])] w fun e w' => e = .returned (.string (bz (txR X 6))) ∧ Below w.heap.size w w' := by
  go_enter Try.func62, Try.ntmps62
  go_wp2
  go_loopw [3, 4] (TxRelY X w) (fun _ i _ => 6 - (intOf i).toNat)
  case atStart =>
    refine ⟨0, ⟨#[]⟩, Nat.zero_le _, rfl, rfl, Lib.hid rfl, Nat.le_refl _, (by repeat (first | with_reducible exact Below.refl _ _ | with_reducible assumption | with_reducible refine Below.drew ?_ | with_reducible refine below_drewN ?_ _ | with_reducible refine Below.alloc ?_ ?_ _ | with_reducible refine Below.setCell ?_ ?_ _ | with_reducible refine Below.trans ?_ (Below.mono (by assumption) ?_) | omega | (simp <;> omega))), ?_⟩
    exact HoldsA.made w _ _ _ _ _ _ _
  case round =>
    obtain ⟨y, s, hy, rfl, rfl, hs, hsz, hbw, h0⟩ := hrel
    by_cases hlt : y < 6
    · have hlt' : (y : Int) < 6 := by omega
      have hsz2 : ¬ 9223372036854775807 < s.size + 1 := by omega
      by_cases hy0 : y = 0
      all_goals
        first
          | (have hyd : decide (0 < y) = false := by rw [decide_eq_false_iff_not]; omega)
          | (have hyd : decide (0 < y) = true := by rw [decide_eq_true_eq]; omega)
        have HY := Lib.hid hy0
        clear hy0
        go_wp2
        obtain ⟨wo, rfl⟩ : ∃ wo : World, wo = wr := ⟨_, rfl⟩
        go_loopw [3, 5] (TxRel X y w) (fun _ i _ => 6 - (intOf i).toNat)
        case atStart =>
          first
            | exact ⟨0, s, Nat.zero_le _, rfl, rfl, Lib.hid (by rw [hs.out, HY.out]; exact (pr_zero X).symm), by omega, hbw, h0⟩
            | exact ⟨0, s ++ (⟨#[47]⟩ : ByteArray), Nat.zero_le _, rfl, rfl, Lib.hid (by rw [hs.out]; exact (pr_pos X y HY.out).symm), by rw [size_app]; omega, hbw, h0⟩
        case round =>
          clear hbw h0 hsz2 hs hsz
          obtain ⟨x, q, hx, rfl, rfl, hs, hsz, hbw, h0⟩ := hrel
          have hsz2 : ¬ 9223372036854775807 < q.size + 1 := by omega
          by_cases hlx : x < 6
          · have hlx' : (x : Int) < 6 := by omega
            have hgt := l2Get_any X x y hlx hlt
            have hx0 := h0.c0
            have hx1 := h0.c1
            have hx2 := h0.c2
            have hx3 := h0.c3
            have hx4 := h0.c4
            have hx5 := h0.c5
            have hxf := h0.free
            have hn := pr_next X y x
            cases hbit : X.testBit (6 * y + x) with
            | true =>
              rw [hbit] at hgt
              have hsg : sgn X (6 * y + x) = 35 := by unfold sgn; rw [hbit]; rfl
              rw [hsg] at hn
              have hGT := Lib.hid hgt
              have hNN := Lib.hid hn
              clear hgt hbit hsg hn
              go_wp2_with (go_at_call 71; (with_reducible refine (hGT.out _).mono ?_); rintro e w1 ⟨rfl, hb⟩; obtain ⟨hc, hf, hT, hz⟩ := bfacts hb; (try simp only [World.size_alloc, World.size_setCell, World.size_drew, size_drewN] at hc hf hT hz); (try (have hzA := Nat.lt_of_succ_le hz)); (try (have hl0 : w.heap.size ≤ w1.heap.size := by omega)); (try (have hz0 : w.heap.size < w1.heap.size := by omega)); (try (have hz1 : w.heap.size + 1 < w1.heap.size := by omega)); (try (have hz2 : w.heap.size + 1 + 1 < w1.heap.size := by omega)); (try (have hz3 : w.heap.size + 1 + 1 + 1 < w1.heap.size := by omega)); (try (have hz4 : w.heap.size + 1 + 1 + 1 + 1 < w1.heap.size := by omega)))
              go_roundw
              case rel => exact ⟨x + 1, q ++ (⟨#[35]⟩ : ByteArray), by omega, by go_num, rfl, Lib.hid (by rw [hs.out]; exact hNN.out.symm), by rw [size_app]; omega, hbw.trans (hb.mono hbw.size), h0.below hb h0.lt⟩
              case measure => simp [intOf]; omega
            | false =>
              rw [hbit] at hgt
              have hsg : sgn X (6 * y + x) = 46 := by unfold sgn; rw [hbit]; rfl
              rw [hsg] at hn
              have hGT := Lib.hid hgt
              have hNN := Lib.hid hn
              clear hgt hbit hsg hn
              go_wp2_with (go_at_call 71; (with_reducible refine (hGT.out _).mono ?_); rintro e w1 ⟨rfl, hb⟩; obtain ⟨hc, hf, hT, hz⟩ := bfacts hb; (try simp only [World.size_alloc, World.size_setCell, World.size_drew, size_drewN] at hc hf hT hz); (try (have hzA := Nat.lt_of_succ_le hz)); (try (have hl0 : w.heap.size ≤ w1.heap.size := by omega)); (try (have hz0 : w.heap.size < w1.heap.size := by omega)); (try (have hz1 : w.heap.size + 1 < w1.heap.size := by omega)); (try (have hz2 : w.heap.size + 1 + 1 < w1.heap.size := by omega)); (try (have hz3 : w.heap.size + 1 + 1 + 1 < w1.heap.size := by omega)); (try (have hz4 : w.heap.size + 1 + 1 + 1 + 1 < w1.heap.size := by omega)))
              go_roundw
              case rel => exact ⟨x + 1, q ++ (⟨#[46]⟩ : ByteArray), by omega, by go_num, rfl, Lib.hid (by rw [hs.out]; exact hNN.out.symm), by rw [size_app]; omega, hbw.trans (hb.mono hbw.size), h0.below hb h0.lt⟩
              case measure => simp [intOf]; omega
          · have e : x = 6 := by omega
            subst e
            go_wp2
            go_roundw
            case rel => exact ⟨y + 1, q, by omega, by go_num, rfl, hs, by omega, hbw, h0⟩
            case measure => simp [intOf]; omega
    · have e : y = 6 := by omega
      subst e
      go_wp2
      go_ret
      exact ⟨by rw [hs.out]; rfl, hbw⟩
end Go.Proofs.Ytphoapmmliiimaa
