/-
  Contracts of the program's has, rest and shifted and of the reference's l2Mod and l2Get. No conditions.
-/
import Derived.Test.YtidaoalnngmoaaaCe
import Derived.Test.YtidaoalnngmoaaaMathB
namespace Go.Proofs.Ytidaoalnngmoaaa
open Go.RowKit
set_option linter.unusedSimpArgs false
set_option linter.unusedVariables false

theorem bit_u64 (X k : Nat) (hX : X < 2 ^ 36) : (bits .and .u64 ((X : Int) / 2 ^ k) 1 == 1) = X.testBit k := by
  have h1 := u64_and_nat (X / 2 ^ k) 1 (by have : X / 2 ^ k ≤ X := Nat.div_le_self _ _; omega) (by omega)
  rw [nat_mask1] at h1
  have e : ((X / 2 ^ k : Nat) : Int) = (X : Int) / 2 ^ k := by rw [Int.natCast_ediv]; simp
  rw [← e]
  rw [show ((1 : Nat) : Int) = 1 from rfl] at h1
  rw [h1, Nat.testBit_eq_decide_div_mod_eq]
  rw [Bool.eq_iff_iff]; simp; omega

set_option maxRecDepth 100000 in
theorem has_any (X k : Nat) (hX : Vs X) (hk : k < 36) (w : World) : Calls Try.prog 127 #[.int .u64 (X : Int), .int .i64 (k : Int)] w fun e w' => e = .returned (.bool (X.testBit k)) ∧ w = w' := by
  have hr := Lib.hid (bit_u64 X k hX.lt)
  have h1 := hX.lt
  have hk1 : (k : Int) < 36 := by omega
  go_enter Try.func127, Try.ntmps127
  go_wp2
  go_ret
  exact ⟨by simp [hr.out], rfl⟩

theorem rest_num (n : Int) : (wrap64 (n.tmod 6 + 6)).tmod 6 = n % 6 := by
  have h3 := Int.tmod_eq_emod (a := n) (b := 6)
  have h4 : -6 ≤ n.tmod 6 ∧ n.tmod 6 < 6 ∧ (n.tmod 6 + 6) % 6 = n % 6 := by
    rw [h3]; split <;> omega
  rw [IntWalk.wrap64_in _ ⟨by omega, by omega⟩, Int.tmod_eq_emod_of_nonneg (by omega)]
  exact h4.2.2

set_option maxRecDepth 100000 in
theorem rest_any (n : Int) (w : World) : Calls Try.prog 86 #[.int .i64 n] w fun e w' => e = .returned (.int .i64 (n % 6)) ∧ w = w' := by
  have hr := Lib.hid (rest_num n)
  go_enter Try.func86, Try.ntmps86
  go_wp2
  go_ret
  exact ⟨by simp [hr.out], rfl⟩
set_option maxRecDepth 100000 in
theorem l2Mod_any (n : Int) (w : World) : Calls Try.prog 85 #[.int .i64 n] w fun e w' => e = .returned (.int .i64 (n % 6)) ∧ w = w' := by
  have hr := Lib.hid (rest_num n)
  go_enter Try.func85, Try.ntmps85
  go_wp2
  go_ret
  exact ⟨by simp [hr.out], rfl⟩

set_option maxRecDepth 100000 in
theorem shifted1_any (kx ky : Int) (x y : Nat) (h0 : 0 ≤ kx) (h1 : kx < 6) (h2 : 0 ≤ ky) (h3 : ky < 6) (hx : x < 6) (hy : y < 6) (pa pb : Nat) (w : World)
    (ha : w.cell? ⟨pa, 0, none⟩ = some (.int .i64 (x : Int))) (hb : w.cell? ⟨pb, 0, none⟩ = some (.int .i64 (y : Int))) :
    Calls Try.prog 123 #[.int .i64 kx, .int .i64 ky, .pointer (some ⟨pa, 0, none⟩), .pointer (some ⟨pb, 0, none⟩)] w
      fun e w' => e = .returned (.tuple #[.int .i64 ((kx + (x : Int)) % 6), .int .i64 ((ky + (y : Int)) % 6)]) ∧ Below w.heap.size w w' := by
  go_enter Try.func123, Try.ntmps123
  go_wp2
  go_quiet (fail)
  go_wp2
  go_ret2
  exact ⟨by simp, (by repeat (first | with_reducible exact Below.refl _ _ | with_reducible assumption | with_reducible refine Below.drew ?_ | with_reducible refine below_drewN ?_ _ | with_reducible refine Below.alloc ?_ ?_ _ | with_reducible refine Below.setCell ?_ ?_ _ | with_reducible refine Below.trans ?_ (Below.mono (by assumption) ?_) | omega | (simp <;> omega)))⟩

/-- a loop's relation of the program's moved: k cells are done -/
def MovRel (X : Nat) (f : Nat → Nat) (w : World) (o i : Value) (wr : World) : Prop :=
  ∃ k : Nat, k ≤ 36 ∧ i = .int .i64 (k : Int) ∧ o = .int .u64 ((movN X f k : Nat) : Int) ∧ Below w.heap.size w wr

theorem mov_close (X : Nat) (f : Nat → Nat) (k e : Nat) (h : X.testBit k = true) (hf : ∀ k, k < 36 → f k < 36) (hk : k < 36) (he : e = f k) :
    bits .or .u64 ((movN X f k : Nat) : Int) (IntKind.u64.wrap (2 ^ e)) = ((movN X f (k + 1) : Nat) : Int) := by
  subst he
  have h1 := movN_lt X f hf k (by omega)
  have h2 : 2 ^ f k < 2 ^ 36 := Nat.pow_lt_pow_right (by omega) (hf k hk)
  have h3 := or_u64 (movN X f k) (2 ^ f k) (by omega) (by omega)
  have h4 : IntKind.u64.wrap (2 ^ f k) = ((2 ^ f k : Nat) : Int) := by
    rw [show (2 : Int) ^ f k = ((2 ^ f k : Nat) : Int) from by simp]
    simp only [IntKind.wrap, IntKind.bits, IntKind.signed]
    simp only [Bool.false_and, Bool.false_eq_true, if_false]
    generalize 2 ^ f k = z at h2
    exact Int.emod_eq_of_lt (by omega) (by omega)
  rw [movN, if_pos h, ← h3, h4]

set_option maxRecDepth 100000 in
theorem moved_shift (X x y : Nat) (hX : Vs X) (hx : x < 6) (hy : y < 6) (pa pb : Nat) (w : World)
    (ha : w.cell? ⟨pa, 0, none⟩ = some (.int .i64 (x : Int))) (hb : w.cell? ⟨pb, 0, none⟩ = some (.int .i64 (y : Int))) :
    Calls Try.prog 114 #[.int .u64 (X : Int), .func (.func 123) #[] #[.pointer (some ⟨pa, 0, none⟩), .pointer (some ⟨pb, 0, none⟩)]] w
      fun e w' => e = .returned (.int .u64 ((shiftN X x y : Nat) : Int)) ∧ Below w.heap.size w w' := by
  have pa_lt := World.block_lt_of_cell? w _ ha
  have pb_lt := World.block_lt_of_cell? w _ hb
  have hA := Lib.hid ha
  have hB := Lib.hid hb
  clear ha hb
  go_enter Try.func114, Try.ntmps114
  go_wp2
  go_loopw [5, 9] (MovRel X (shTo x y) w) (fun _ i _ => 36 - (intOf i).toNat)
  case atStart => exact ⟨0, Nat.zero_le _, rfl, rfl, Below.refl _ _⟩
  case round =>
    obtain ⟨k, hk, rfl, rfl, hbw⟩ := hrel
    by_cases hlt : k < 36
    · have hlt' : (k : Int) < 36 := by omega
      have hA1 : wr.cell? ⟨pa, 0, none⟩ = some (.int .i64 (x : Int)) := (hbw.cell (p := ⟨pa, 0, none⟩) pa_lt).trans hA.out
      have hB1 : wr.cell? ⟨pb, 0, none⟩ = some (.int .i64 (y : Int)) := (hbw.cell (p := ⟨pb, 0, none⟩) pb_lt).trans hB.out
      cases hbit : X.testBit k with
      | true =>
        go_wp2_with (first | (go_at_call 127; (with_reducible refine (has_any _ _ (by assumption) (by assumption) _).mono ?_); rintro e w1 ⟨rfl, rfl⟩) | (go_at_call 123; (with_reducible refine (shifted1_any _ _ _ _ (by omega) (by omega) (by omega) (by omega) hx hy _ _ _ (by assumption) (by assumption)).mono ?_); rintro e w1 ⟨rfl, hb⟩; obtain ⟨hc, hf, hT, hz⟩ := bfacts hb; (try simp only [World.size_alloc, World.size_setCell, World.size_drew, size_drewN] at hc hf hT hz); (try (have hzA := Nat.lt_of_succ_le hz)); (try (have hl0 : w.heap.size ≤ w1.heap.size := by omega)); (try (have hz0 : w.heap.size < w1.heap.size := by omega)); (try (have hz1 : w.heap.size + 1 < w1.heap.size := by omega)); (try (have hz2 : w.heap.size + 1 + 1 < w1.heap.size := by omega)); (try (have hz3 : w.heap.size + 1 + 1 + 1 < w1.heap.size := by omega)); (try (have hz4 : w.heap.size + 1 + 1 + 1 + 1 < w1.heap.size := by omega))))
        go_roundw
        case rel =>
          exact ⟨k + 1, by omega, by go_num, by rw [mov_close X (shTo x y) k _ hbit (by intro k hk; unfold shTo; omega) hlt (by unfold shTo; omega)], hbw.trans (hb.mono hbw.size)⟩
        case measure => simp [intOf]; omega
      | false =>
        go_wp2_with (go_at_call 127; (with_reducible refine (has_any _ _ (by assumption) (by assumption) _).mono ?_); rintro e w1 ⟨rfl, rfl⟩)
        go_roundw
        case rel => exact ⟨k + 1, by omega, by go_num, by rw [movN, if_neg (by rw [hbit]; decide)], hbw⟩
        case measure => simp [intOf]; omega
    · have e : k = 36 := by omega
      subst e
      go_wp2
      go_ret
      exact ⟨by rw [← movN_shift X x y hx hy]; rfl, hbw⟩

set_option maxRecDepth 100000 in
theorem shifted_any (X : Nat) (dx dy : Int) (hX : Vs X) (w : World) :
    Calls Try.prog 104 #[.int .u64 (X : Int), .int .i64 dx, .int .i64 dy] w fun e w' => e = .returned (.int .u64 ((shiftN X (dx % 6).toNat (dy % 6).toNat : Nat) : Int)) ∧ Below w.heap.size w w' := by
  obtain ⟨x, ex⟩ : ∃ x : Nat, dx % 6 = (x : Int) := ⟨(dx % 6).toNat, by omega⟩
  obtain ⟨y, ey⟩ : ∃ y : Nat, dy % 6 = (y : Int) := ⟨(dy % 6).toNat, by omega⟩
  have hx : x < 6 := by omega
  have hy : y < 6 := by omega
  rw [ex, ey]
  simp only [Int.toNat_natCast]
  have hmf : ∀ (fn : Fn) (first cap : Array Value) (w : World), (Instr.makeFunc fn first cap).run Try.prog w = .ok (.func fn first cap) w := fun _ _ _ _ => rfl
  go_enter Try.func104, Try.ntmps104
  go_wp2
  go_region_with (go_at_call 86; (with_reducible refine (rest_any _ _).mono ?_); rintro e w1 ⟨rfl, rfl⟩)
  all_goals
    go_wp2_with (go_at_call 114; (with_reducible refine (moved_shift X x y hX hx hy _ _ _ (by simp [World.cell?_alloc_lt]) (by simp)).mono ?_); rintro e w1 ⟨rfl, hb⟩; obtain ⟨hc, hf, hT, hz⟩ := bfacts hb; (try simp only [World.size_alloc, World.size_setCell, World.size_drew, size_drewN] at hc hf hT hz); (try (have hzA := Nat.lt_of_succ_le hz)); (try (have hl0 : w.heap.size ≤ w1.heap.size := by omega)); (try (have hz0 : w.heap.size < w1.heap.size := by omega)); (try (have hz1 : w.heap.size + 1 < w1.heap.size := by omega)); (try (have hz2 : w.heap.size + 1 + 1 < w1.heap.size := by omega)); (try (have hz3 : w.heap.size + 1 + 1 + 1 < w1.heap.size := by omega)); (try (have hz4 : w.heap.size + 1 + 1 + 1 + 1 < w1.heap.size := by omega)))
    go_ret
    exact ⟨by simp, (by repeat (first | with_reducible exact Below.refl _ _ | with_reducible assumption | with_reducible refine Below.drew ?_ | with_reducible refine below_drewN ?_ _ | with_reducible refine Below.alloc ?_ ?_ _ | with_reducible refine Below.setCell ?_ ?_ _ | with_reducible refine Below.trans ?_ (Below.mono (by assumption) ?_) | omega | (simp <;> omega)))⟩
end Go.Proofs.Ytidaoalnngmoaaa
