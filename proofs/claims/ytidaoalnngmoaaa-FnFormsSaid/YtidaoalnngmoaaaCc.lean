/-
  Contracts of the small functions on sheets that most claims of this seat use, third part. No conditions.
-/
import Derived.Test.YtidaoalnngmoaaaCb
import Derived.RegionTactic
import Derived.BigRegion
namespace Go.Proofs.Ytidaoalnngmoaaa
open Go.RowKit
set_option linter.unusedSimpArgs false
set_option linter.unusedVariables false

theorem ofInt_i64 (a : Nat) (ha : a < 9223372036854775808) : (BitVec.ofInt 64 (a : Int)).toNat = a := by
  rw [BitVec.ofInt_natCast, BitVec.toNat_ofNat]; exact Nat.mod_eq_of_lt (by omega)
theorem and_i64 (a b : Nat) (ha : a < 9223372036854775808) (hb : b < 9223372036854775808) : bits .and .i64 (a : Int) (b : Int) = ((a &&& b : Nat) : Int) := by
  have hx : a &&& b < 2 ^ 63 := Nat.and_lt_two_pow _ (by omega)
  show IntKind.i64.wrap ((BitVec.ofInt 64 (a : Int) &&& BitVec.ofInt 64 (b : Int)).toNat : Int) = _
  rw [BitVec.toNat_and, ofInt_i64 a ha, ofInt_i64 b hb, IntKind.wrap_i64]
  omega
theorem or_i64 (a b : Nat) (ha : a < 9223372036854775808) (hb : b < 9223372036854775808) : bits .or .i64 (a : Int) (b : Int) = ((a ||| b : Nat) : Int) := by
  have hx : a ||| b < 2 ^ 63 := Nat.or_lt_two_pow (by omega) (by omega)
  show IntKind.i64.wrap ((BitVec.ofInt 64 (a : Int) ||| BitVec.ofInt 64 (b : Int)).toNat : Int) = _
  rw [BitVec.toNat_or, ofInt_i64 a ha, ofInt_i64 b hb, IntKind.wrap_i64]
  omega
theorem xor_i64 (a b : Nat) (ha : a < 9223372036854775808) (hb : b < 9223372036854775808) : bits .xor .i64 (a : Int) (b : Int) = ((a ^^^ b : Nat) : Int) := by
  have hx : a ^^^ b < 2 ^ 63 := Nat.xor_lt_two_pow (by omega) (by omega)
  show IntKind.i64.wrap ((BitVec.ofInt 64 (a : Int) ^^^ BitVec.ofInt 64 (b : Int)).toNat : Int) = _
  rw [BitVec.toNat_xor, ofInt_i64 a ha, ofInt_i64 b hb, IntKind.wrap_i64]
  omega
@[go_sem] theorem row_and (X Y y : Nat) : bits .and .i64 (row X y) (row Y y) = row (X &&& Y) y := by
  unfold row; rw [and_rows]; exact and_i64 _ _ (by omega) (by omega)
@[go_sem] theorem row_or (X Y y : Nat) : bits .or .i64 (row X y) (row Y y) = row (X ||| Y) y := by
  unfold row; rw [or_rows]; exact or_i64 _ _ (by omega) (by omega)
@[go_sem] theorem row_xor (X Y y : Nat) : bits .xor .i64 (row X y) (row Y y) = row (X ^^^ Y) y := by
  unfold row; rw [xor_rows]; exact xor_i64 _ _ (by omega) (by omega)

set_option maxRecDepth 100000 in
theorem l2Or_any (X Y : Nat) (w : World) :
    Calls Try.prog 124 #[(.agg #[.int .i64 (row X 0), .int .i64 (row X 1), .int .i64 (row X 2), .int .i64 (row X 3), .int .i64 (row X 4), .int .i64 (row X 5)]), (.agg #[.int .i64 (row Y 0), .int .i64 (row Y 1), .int .i64 (row Y 2), .int .i64 (row Y 3), .int .i64 (row Y 4), .int .i64 (row Y 5)])] w fun e w' => e = .returned (.agg #[.int .i64 (row (X ||| Y) 0), .int .i64 (row (X ||| Y) 1), .int .i64 (row (X ||| Y) 2), .int .i64 (row (X ||| Y) 3), .int .i64 (row (X ||| Y) 4), .int .i64 (row (X ||| Y) 5)]) ∧ Below w.heap.size w w' := by
  go_enter Try.func124, Try.ntmps124
  go_wp2
  refine wp_loop_rounds 7 ?_
  rw [rounds_succ]
  go_wp2
  go_region
  go_wp2
  rw [rounds_succ]
  go_wp2
  go_region
  go_wp2
  rw [rounds_succ]
  go_wp2
  go_region
  go_wp2
  rw [rounds_succ]
  go_wp2
  go_region
  go_wp2
  rw [rounds_succ]
  go_wp2
  go_region
  go_wp2
  rw [rounds_succ]
  go_wp2
  go_region
  go_wp2
  rw [rounds_succ]
  go_wp2
  exact bodyPost_ret (v := (.agg #[.int .i64 (row (X ||| Y) 0), .int .i64 (row (X ||| Y) 1), .int .i64 (row (X ||| Y) 2), .int .i64 (row (X ||| Y) 3), .int .i64 (row (X ||| Y) 4), .int .i64 (row (X ||| Y) 5)])) (by simp [results, Try.results124, go_sem]) rfl ⟨rfl, (by repeat (first | with_reducible exact Below.refl _ _ | with_reducible assumption | with_reducible refine Below.drew ?_ | with_reducible refine below_drewN ?_ _ | with_reducible refine Below.alloc ?_ ?_ _ | with_reducible refine Below.setCell ?_ ?_ _ | with_reducible refine Below.trans ?_ (Below.mono (by assumption) ?_) | omega | (simp <;> omega)))⟩

end Go.Proofs.Ytidaoalnngmoaaa
