/-
  Contracts of sizes of sheets, of the program and of the reference. No conditions.
-/
import Derived.Test.YtidaoalnngmoaaaCk
import Derived.Test.YtidaoalnngmoaaaMathP
namespace Go.Proofs.Ytidaoalnngmoaaa
open Go.RowKit
set_option linter.unusedSimpArgs false
set_option linter.unusedVariables false

theorem wrap_u64 (a : Nat) (h : a < 2 ^ 64) : IntKind.u64.wrap ((a : Nat) : Int) = ((a : Nat) : Int) := by
  simp only [IntKind.wrap, IntKind.bits, IntKind.signed, Bool.false_and, Bool.false_eq_true, if_false]
  exact Int.emod_eq_of_lt (by omega) (by omega)
theorem ones1 (X : Nat) (hX : Vs X) : IntKind.u64.wrap (bits BinOp.and IntKind.u64 ((X : Int) / 2) 6148914691236517205 + bits BinOp.and IntKind.u64 (X : Int) 6148914691236517205) = ((o1N X : Nat) : Int) := by
  have h := hX.lt
  have h2 := o1_le X
  have e1 := u64_and_nat (X / 2) 6148914691236517205 (by omega) (by omega)
  have e2 := u64_and_nat X 6148914691236517205 (by omega) (by omega)
  have e3 := o1_eq X
  rw [show ((X / 2 : Nat) : Int) = (X : Int) / 2 from rfl, show ((6148914691236517205 : Nat) : Int) = 6148914691236517205 from rfl] at e1
  rw [show ((6148914691236517205 : Nat) : Int) = 6148914691236517205 from rfl] at e2
  rw [e1, e2, ← Int.natCast_add, e3, wrap_u64 _ (by omega)]
theorem ones2 (X : Nat) (hX : Vs X) : IntKind.u64.wrap (bits BinOp.and IntKind.u64 (((o1N X : Nat) : Int) / 4) 3689348814741910323 + bits BinOp.and IntKind.u64 ((o1N X : Nat) : Int) 3689348814741910323) = ((o2N X : Nat) : Int) := by
  have h := hX.lt
  have h1 := o1_le X
  have h2 := o2_le X
  have e3 := o2_eq X
  generalize o1N X = A at *
  have e1 := u64_and_nat (A / 4) 3689348814741910323 (by omega) (by omega)
  have e2 := u64_and_nat A 3689348814741910323 (by omega) (by omega)
  rw [show ((A / 4 : Nat) : Int) = (A : Int) / 4 from rfl, show ((3689348814741910323 : Nat) : Int) = 3689348814741910323 from rfl] at e1
  rw [show ((3689348814741910323 : Nat) : Int) = 3689348814741910323 from rfl] at e2
  rw [e1, e2, ← Int.natCast_add, e3, wrap_u64 _ (by omega)]
theorem ones3 (X : Nat) (hX : Vs X) : bits BinOp.and IntKind.u64 (IntKind.u64.wrap (((o2N X : Nat) : Int) / 16 + ((o2N X : Nat) : Int))) 1085102592571150095 = ((o3N X : Nat) : Int) := by
  have h := hX.lt
  have h2 := o2_le X
  have e3 := o3_eq X
  generalize o2N X = A at *
  have e1 := u64_and_nat (A / 16 + A) 1085102592571150095 (by omega) (by omega)
  rw [e3, show ((1085102592571150095 : Nat) : Int) = 1085102592571150095 from rfl] at e1
  rw [show (A : Int) / 16 + (A : Int) = ((A / 16 + A : Nat) : Int) by omega, wrap_u64 _ (by omega), e1]
/-- the last three sums -/
def foN (Y : Nat) : Nat := (Y + Y / 256) + (Y + Y / 256) / 65536
theorem ones4 (X : Nat) (hX : Vs X) : IntKind.u64.wrap (((o3N X : Nat) : Int) + ((o3N X : Nat) : Int) / 256) = ((o3N X + o3N X / 256 : Nat) : Int) := by
  have h := hX.lt
  have h2 := o3_le X
  generalize o3N X = A at *
  rw [show (A : Int) + (A : Int) / 256 = ((A + A / 256 : Nat) : Int) by omega, wrap_u64 _ (by omega)]
theorem ones5 (X : Nat) (hX : Vs X) : IntKind.u64.wrap (((o3N X + o3N X / 256 : Nat) : Int) + ((o3N X + o3N X / 256 : Nat) : Int) / 65536) = ((foN (o3N X) : Nat) : Int) := by
  have h := hX.lt
  have h2 := o3_le X
  unfold foN
  generalize o3N X = A at *
  have h3 : A + A / 256 < 2 ^ 40 := by omega
  generalize A + A / 256 = B at *
  rw [show (B : Int) + (B : Int) / 65536 = ((B + B / 65536 : Nat) : Int) by omega, wrap_u64 _ (by omega)]
theorem ones6 (X : Nat) (hX : Vs X) : bits BinOp.and IntKind.i64 (wrap64 (IntKind.u64.wrap (((foN (o3N X) : Nat) : Int) + ((foN (o3N X) : Nat) : Int) / 4294967296))) 127 = ((popN X : Nat) : Int) := by
  have h := ones_eq X hX
  rw [show (o3N X + o3N X / 256) + (o3N X + o3N X / 256) / 65536 = foN (o3N X) from rfl] at h
  obtain ⟨h1, h2⟩ := h
  generalize foN (o3N X) = B at *
  have e : (B : Int) + (B : Int) / 4294967296 = ((B + B / 4294967296 : Nat) : Int) := by omega
  rw [e]
  generalize B + B / 4294967296 = C at *
  rw [wrap_u64 _ (by omega), IntWalk.wrap64_in _ ⟨by omega, by omega⟩]
  have h3 := and_i64 C 127 (by omega) (by omega)
  rw [show C &&& 127 = C % 128 from Nat.and_two_pow_sub_one_eq_mod C 7, h2, show ((127 : Nat) : Int) = 127 from rfl] at h3
  exact h3
set_option maxRecDepth 100000 in
theorem ones_any (X : Nat) (hX : Vs X) (w : World) : Calls Try.prog 122 #[.int .u64 (X : Int)] w fun e w' => e = .returned (.int .i64 ((popN X : Nat) : Int)) ∧ w = w' := by
  have e1 := Lib.hid (ones1 X hX)
  have e2 := Lib.hid (ones2 X hX)
  have e3 := Lib.hid (ones3 X hX)
  have e4 := Lib.hid (ones4 X hX)
  have e5 := Lib.hid (ones5 X hX)
  have e6 := Lib.hid (ones6 X hX)
  have h1 := hX.lt
  go_enter Try.func122, Try.ntmps122
  go_wp2
  go_ret
  refine ⟨?_, rfl⟩
  rw [e1.out, e2.out, e3.out, e4.out, e5.out, e6.out]
  rfl
set_option maxRecDepth 100000 in
theorem size_any (X : Nat) (hX : Vs X) (w : World) : Calls Try.prog 103 #[.int .u64 (X : Int)] w fun e w' => e = .returned (.int .i64 ((popN X : Nat) : Int)) ∧ w = w' := by
  go_enter Try.func103, Try.ntmps103
  go_wp2_with (go_at_call 122; (with_reducible refine (ones_any X hX _).mono ?_); rintro e w1 ⟨rfl, rfl⟩)
  go_ret
  exact ⟨by simp, rfl⟩
theorem size_zero (w : World) : Calls Try.prog 103 #[.int .u64 0] w fun e w' => e = .returned (.int .i64 0) ∧ w = w' := size_any 0 (by unfold Vs; omega) w
set_option maxRecDepth 100000 in
theorem implSizeOf_ok (X : Nat) (hX : Vs X) (w : World) : Calls Try.prog 58 #[(.agg #[.int .i64 (row X 0), .int .i64 (row X 1), .int .i64 (row X 2), .int .i64 (row X 3), .int .i64 (row X 4), .int .i64 (row X 5)])] w fun e w' => e = .returned (.tuple #[.int .i64 ((popN X : Nat) : Int), .bool true]) ∧ Below w.heap.size w w' := by
  go_enter Try.func58, Try.ntmps58
  go_wp2_with (first | (go_at_call 79; (with_reducible refine (setOf_ok _ hX _).mono ?_); rintro e w1 ⟨rfl, hb⟩; obtain ⟨hc, hf, hT, hz⟩ := bfacts hb; (try simp only [World.size_alloc, World.size_setCell, World.size_drew, size_drewN] at hc hf hT hz); (try (have hzA := Nat.lt_of_succ_le hz)); (try (have hl0 : w.heap.size ≤ w1.heap.size := by omega)); (try (have hz0 : w.heap.size < w1.heap.size := by omega)); (try (have hz1 : w.heap.size + 1 < w1.heap.size := by omega)); (try (have hz2 : w.heap.size + 1 + 1 < w1.heap.size := by omega)); (try (have hz3 : w.heap.size + 1 + 1 + 1 < w1.heap.size := by omega)); (try (have hz4 : w.heap.size + 1 + 1 + 1 + 1 < w1.heap.size := by omega))) | (go_at_call 103; (with_reducible refine (size_any X hX _).mono ?_); rintro e w1 ⟨rfl, rfl⟩))
  go_ret2
  exact ⟨by simp, (by repeat (first | with_reducible exact Below.refl _ _ | with_reducible assumption | with_reducible refine Below.drew ?_ | with_reducible refine below_drewN ?_ _ | with_reducible refine Below.alloc ?_ ?_ _ | with_reducible refine Below.setCell ?_ ?_ _ | with_reducible refine Below.trans ?_ (Below.mono (by assumption) ?_) | omega | (simp <;> omega)))⟩
set_option maxRecDepth 100000 in
theorem implSizeOf_no (a0 a1 a2 a3 a4 a5 : Int) (hn : ¬ Ok6 a0 a1 a2 a3 a4 a5) (w : World) : Calls Try.prog 58 #[(.agg #[.int .i64 a0, .int .i64 a1, .int .i64 a2, .int .i64 a3, .int .i64 a4, .int .i64 a5])] w fun e w' => e = .returned (.tuple #[.int .i64 0, .bool false]) ∧ Below w.heap.size w w' := by
  go_enter Try.func58, Try.ntmps58
  go_wp2_with (first | (go_at_call 79; (with_reducible refine (setOf_no _ _ _ _ _ _ (by assumption) _).mono ?_); rintro e w1 ⟨rfl, hb⟩; obtain ⟨hc, hf, hT, hz⟩ := bfacts hb; (try simp only [World.size_alloc, World.size_setCell, World.size_drew, size_drewN] at hc hf hT hz); (try (have hzA := Nat.lt_of_succ_le hz)); (try (have hl0 : w.heap.size ≤ w1.heap.size := by omega)); (try (have hz0 : w.heap.size < w1.heap.size := by omega)); (try (have hz1 : w.heap.size + 1 < w1.heap.size := by omega)); (try (have hz2 : w.heap.size + 1 + 1 < w1.heap.size := by omega)); (try (have hz3 : w.heap.size + 1 + 1 + 1 < w1.heap.size := by omega)); (try (have hz4 : w.heap.size + 1 + 1 + 1 + 1 < w1.heap.size := by omega))) | (go_at_call 103; (with_reducible refine (size_zero _).mono ?_); rintro e w1 ⟨rfl, rfl⟩))
  go_ret2
  exact ⟨by simp, (by repeat (first | with_reducible exact Below.refl _ _ | with_reducible assumption | with_reducible refine Below.drew ?_ | with_reducible refine below_drewN ?_ _ | with_reducible refine Below.alloc ?_ ?_ _ | with_reducible refine Below.setCell ?_ ?_ _ | with_reducible refine Below.trans ?_ (Below.mono (by assumption) ?_) | omega | (simp <;> omega)))⟩
end Go.Proofs.Ytidaoalnngmoaaa
