/-
  Contracts on turns, of the program and of the reference. No conditions.
-/
import Derived.Test.YtidaoalnngmoaaaCk
import Derived.Test.YtidaoalnngmoaaaCf
import Derived.Test.YtidaoalnngmoaaaMathD
namespace Go.Proofs.Ytidaoalnngmoaaa
open Go.RowKit
set_option linter.unusedSimpArgs false
set_option linter.unusedVariables false

theorem HoldsA.made' {w : World} {T B : Nat} {a0 a1 a2 a3 a4 a5 : Int} (h : B = w.heap.size) : HoldsA (w.alloc (.cells #[.int .i64 a0, .int .i64 a1, .int .i64 a2, .int .i64 a3, .int .i64 a4, .int .i64 a5] T)) T B a0 a1 a2 a3 a4 a5 := by
  subst h; exact HoldsA.made w T a0 a1 a2 a3 a4 a5

set_option maxRecDepth 100000 in
theorem isTurn_any (k : Int) (w : World) : Calls Try.prog 73 #[.int .i64 k] w fun e w' => e = .returned (.bool (decide (0 ≤ k ∧ k < 8))) ∧ w = w' := by
  by_cases h : 0 ≤ k
  · by_cases h2 : k < 8
    · go_enter Try.func73, Try.ntmps73
      go_wp2
      go_ret
      exact ⟨by simp [h, h2], rfl⟩
    · go_enter Try.func73, Try.ntmps73
      go_wp2
      go_ret
      exact ⟨by simp [h, h2], rfl⟩
  · go_enter Try.func73, Try.ntmps73
    go_wp2
    go_ret
    exact ⟨by simp [h]; omega, rfl⟩
set_option maxRecDepth 100000 in
theorem l3Turns_any (k : Int) (w : World) : Calls Try.prog 69 #[.int .i64 k] w fun e w' => e = .returned (.bool (decide (0 ≤ k ∧ k < 8))) ∧ w = w' := by
  have hr : decide (0 ≤ k ∧ k ≤ 7) = decide (0 ≤ k ∧ k < 8) := by rw [decide_eq_decide]; omega
  have hl := l1In_any k 0 7
  rw [hr] at hl
  have hL := Lib.hid hl
  clear hl hr
  go_enter Try.func69, Try.ntmps69
  go_wp2_with (go_at_call 109; (with_reducible refine (hL.out _).mono ?_); rintro e w1 ⟨rfl, rfl⟩)
  go_ret
  exact ⟨by simp, rfl⟩

def TcRel (m : Nat) (kx ky : Int) (w : World) (x y i : Value) (wr : World) : Prop :=
  ∃ (n : Nat) (px py : Int), n ≤ m ∧ i = .int .i64 (n : Int) ∧ x = .int .i64 px ∧ y = .int .i64 py ∧ qI n (kx, ky) = (px, py) ∧ w = wr
set_option maxRecDepth 100000 in
theorem turnCell_any (t : Nat) (ht : t < 8) (kx ky : Int) (hx : 0 ≤ kx ∧ kx < 6) (hy : 0 ≤ ky ∧ ky < 6) (w : World) :
    Calls Try.prog 111 #[.int .i64 (t : Int), .int .i64 kx, .int .i64 ky] w fun e w' => e = .returned (.tuple #[.int .i64 (tI t (kx, ky)).1, .int .i64 (tI t (kx, ky)).2]) ∧ w = w' := by
  obtain ⟨m, hm⟩ : ∃ m, m = t % 4 := ⟨_, rfl⟩
  have ht4 : (t : Int) % 4 = (m : Int) := by omega
  have hm4 : m < 4 := by omega
  have hM := Lib.hid hm
  clear hm
  go_enter Try.func111, Try.ntmps111
  go_wp2
  go_loopw [1, 2, 10] (TcRel m kx ky w) (fun _ _ i _ => m - (intOf i).toNat)
  case atStart => exact ⟨0, kx, ky, Nat.zero_le _, rfl, rfl, rfl, rfl, rfl⟩
  case round =>
    obtain ⟨n, px, py, hn, rfl, rfl, rfl, hq, rfl⟩ := hrel
    have hbd := qI_bd kx ky hx hy n
    rw [hq] at hbd
    obtain ⟨⟨b0, b1⟩, b2, b3⟩ := hbd
    dsimp only at b0 b1 b2 b3
    by_cases hlt : n < m
    · have hlt' : (n : Int) < (m : Int) := by omega
      have hq2 := Lib.hid (show qI (n + 1) (kx, ky) = (5 - py, px) by rw [qI, hq])
      clear hq
      go_wp2
      go_roundw
      case rel => exact ⟨n + 1, 5 - py, px, by omega, by go_num, by go_num, rfl, hq2.out, rfl⟩
      case measure => simp [intOf]; omega
    · have e : n = m := by omega
      subst e
      by_cases h4 : 4 ≤ t
      · have h4' : 4 ≤ (t : Int) := by omega
        have hTT := Lib.hid (show tI t (kx, ky) = (5 - px, py) by unfold tI; rw [if_pos h4, ← hM.out, hq])
        clear hq
        go_wp2
        go_ret2
        exact ⟨by rw [hTT.out]; simp, rfl⟩
      · have h4' : ¬ 4 ≤ (t : Int) := by omega
        have hTT := Lib.hid (show tI t (kx, ky) = (px, py) by unfold tI; rw [if_neg h4, ← hM.out, hq])
        clear hq
        go_wp2
        go_ret2
        exact ⟨by rw [hTT.out]; simp, rfl⟩
theorem turnCell_cell (t c : Nat) (ht : t < 8) (hc : c < 36) (w : World) :
    Calls Try.prog 111 #[.int .i64 (t : Int), .int .i64 ((c : Int) % 6), .int .i64 ((c : Int) / 6)] w fun e w' => e = .returned (.tuple #[.int .i64 (((trTo t c : Nat) : Int) % 6), .int .i64 (((trTo t c : Nat) : Int) / 6)]) ∧ w = w' := by
  have h := turnCell_any t ht ((c : Int) % 6) ((c : Int) / 6) (by omega) (by omega) w
  rw [tI_cell t ht c hc] at h
  exact h
set_option maxRecDepth 100000 in
theorem turned1_any (t c : Nat) (ht : t < 8) (hc : c < 36) (pa : Nat) (w : World) (ha : w.cell? ⟨pa, 0, none⟩ = some (.int .i64 (t : Int))) :
    Calls Try.prog 115 #[.int .i64 ((c : Int) % 6), .int .i64 ((c : Int) / 6), .pointer (some ⟨pa, 0, none⟩)] w
      fun e w' => e = .returned (.tuple #[.int .i64 (((trTo t c : Nat) : Int) % 6), .int .i64 (((trTo t c : Nat) : Int) / 6)]) ∧ w = w' := by
  go_enter Try.func115, Try.ntmps115
  go_wp2_with (go_at_call 111; (with_reducible refine (turnCell_cell t c ht hc _).mono ?_); rintro e w1 ⟨rfl, rfl⟩)
  go_ret2
  exact ⟨by simp, rfl⟩
set_option maxRecDepth 100000 in
theorem moved_turned (X t : Nat) (hX : Vs X) (ht : t < 8) (pa : Nat) (w : World) (ha : w.cell? ⟨pa, 0, none⟩ = some (.int .i64 (t : Int))) :
    Calls Try.prog 114 #[.int .u64 (X : Int), .func (.func 115) #[] #[.pointer (some ⟨pa, 0, none⟩)]] w
      fun e w' => e = .returned (.int .u64 ((turnS t X : Nat) : Int)) ∧ Below w.heap.size w w' := by
  have pa_lt : pa < w.heap.size := World.block_lt_of_cell? w _ ha
  have hA := Lib.hid ha
  clear ha
  go_enter Try.func114, Try.ntmps114
  go_wp2
  go_loopw [5, 9] (MovRel X (trTo t) w) (fun _ i _ => 36 - (intOf i).toNat)
  case atStart => exact ⟨0, Nat.zero_le _, rfl, rfl, Below.refl _ _⟩
  case round =>
    obtain ⟨k, hk, rfl, rfl, hbw⟩ := hrel
    by_cases hlt : k < 36
    · have hlt' : (k : Int) < 36 := by omega
      have hA1 : wr.cell? ⟨pa, 0, none⟩ = some (.int .i64 (t : Int)) := (hbw.cell (p := ⟨pa, 0, none⟩) pa_lt).trans hA.out
      have htl := trTo_lt t k hlt
      have htl' : ((trTo t k : Nat) : Int) < 36 := by omega
      cases hbit : X.testBit k with
      | true =>
        go_wp2_with (first | (go_at_call 127; (with_reducible refine (has_any _ _ (by assumption) (by assumption) _).mono ?_); rintro e w1 ⟨rfl, rfl⟩) | (go_at_call 115; (with_reducible refine (turned1_any t k ht hlt _ _ (by assumption)).mono ?_); rintro e w1 ⟨rfl, rfl⟩))
        go_roundw
        case rel =>
          exact ⟨k + 1, by omega, by go_num, by rw [mov_close X (trTo t) k _ hbit (fun c hc => trTo_lt t c hc) hlt (by omega)], hbw⟩
        case measure => simp [intOf]; omega
      | false =>
        go_wp2_with (go_at_call 127; (with_reducible refine (has_any _ _ (by assumption) (by assumption) _).mono ?_); rintro e w1 ⟨rfl, rfl⟩)
        go_roundw
        case rel => exact ⟨k + 1, by omega, by go_num, by rw [movN, if_neg (by rw [hbit]; decide)], hbw⟩
        case measure => simp [intOf]; omega
    · have e : k = 36 := by omega
      subst e
      go_wp2
      go_ret
      exact ⟨rfl, hbw⟩
set_option maxRecDepth 100000 in
theorem turned_any (X t : Nat) (hX : Vs X) (ht : t < 8) (w : World) : Calls Try.prog 80 #[.int .u64 (X : Int), .int .i64 (t : Int)] w fun e w' => e = .returned (.int .u64 ((turnS t X : Nat) : Int)) ∧ Below w.heap.size w w' := by
  have hmf : ∀ (fn : Fn) (first cap : Array Value) (w : World), (Instr.makeFunc fn first cap).run Try.prog w = .ok (.func fn first cap) w := fun _ _ _ _ => rfl
  go_enter Try.func80, Try.ntmps80
  go_wp2_with (go_at_call 114; (with_reducible refine (moved_turned X t hX ht _ _ (by simp [go_sem])).mono ?_); rintro e w1 ⟨rfl, hb⟩; obtain ⟨hc, hf, hT, hz⟩ := bfacts hb; (try simp only [World.size_alloc, World.size_setCell, World.size_drew, size_drewN] at hc hf hT hz); (try (have hzA := Nat.lt_of_succ_le hz)); (try (have hl0 : w.heap.size ≤ w1.heap.size := by omega)); (try (have hz0 : w.heap.size < w1.heap.size := by omega)); (try (have hz1 : w.heap.size + 1 < w1.heap.size := by omega)); (try (have hz2 : w.heap.size + 1 + 1 < w1.heap.size := by omega)); (try (have hz3 : w.heap.size + 1 + 1 + 1 < w1.heap.size := by omega)); (try (have hz4 : w.heap.size + 1 + 1 + 1 + 1 < w1.heap.size := by omega)))
  go_ret
  exact ⟨rfl, (by repeat (first | with_reducible exact Below.refl _ _ | with_reducible assumption | with_reducible refine Below.drew ?_ | with_reducible refine below_drewN ?_ _ | with_reducible refine Below.alloc ?_ ?_ _ | with_reducible refine Below.setCell ?_ ?_ _ | with_reducible refine Below.trans ?_ (Below.mono (by assumption) ?_) | omega | (simp <;> omega)))⟩
end Go.Proofs.Ytidaoalnngmoaaa
