/-
  The number that orders sets, and back: the program's rank and set: contracts. No conditions.
-/
import Derived.Test.YtgjgefbcfcomcaaGreatDoorCi
import Derived.Test.YtgjgefbcfcomcaaGreatDoorMathG
namespace Go.Proofs.YtgjgefbcfcomcaaGreatDoor
open Go.RowKit
set_option linter.unusedSimpArgs false
set_option linter.unusedVariables false

/-- the first k digits of X, turned round -/
def rkP (X : Nat) : Nat → Nat
  | 0 => 0
  | k + 1 => rkP X k * 64 + X / 64 ^ k % 64
theorem rkP_lt (X : Nat) : ∀ k, rkP X k < 64 ^ k
  | 0 => by simp [rkP]
  | k + 1 => by
    have := rkP_lt X k
    rw [rkP, Nat.pow_succ]
    omega
theorem rkP_six (X : Nat) : rkP X 6 = rkN X := by
  unfold rkN
  simp only [rkP, Nat.reducePow, Nat.div_one]
  omega
theorem rk_step (A r : Nat) (hA : A < 64 ^ 5) (hr : r < 64) : bits .or .u64 (IntKind.u64.wrap ((A : Int) * 64)) ((r : Nat) : Int) = ((A * 64 + r : Nat) : Int) := by
  have e : IntKind.u64.wrap ((A : Int) * 64) = ((A * 64 : Nat) : Int) := by
    simp only [IntKind.wrap, IntKind.bits, IntKind.signed, Bool.false_and, Bool.false_eq_true, if_false]
    omega
  rw [e, or_u64 _ _ (by omega) (by omega)]
  congr 1
  rw [Nat.mul_comm A 64]
  exact (Nat.two_pow_add_eq_or_of_lt (i := 6) hr A).symm
theorem rk_at (X : Nat) (k : Nat) (hk : k < 6) (hX : X < 2 ^ 36) : bits .or .u64 (IntKind.u64.wrap (((rkP X k : Nat) : Int) * 64)) (bits .and .u64 ((X : Int) / ((64 ^ k : Nat) : Int)) 63) = ((rkP X (k + 1) : Nat) : Int) := by
  rw [row_u64 X k hX]
  have h1 := rkP_lt X k
  have h2 : 64 ^ k ≤ 64 ^ 5 := Nat.pow_le_pow_right (by omega) (by omega)
  exact rk_step (rkP X k) (X / 64 ^ k % 64) (by omega) (Nat.mod_lt _ (by omega))
def RkRel (X : Nat) (o i : Value) : Prop := ∃ y : Nat, y ≤ 6 ∧ i = .int .i64 (y : Int) ∧ o = .int .u64 ((rkP X y : Nat) : Int)
set_option maxRecDepth 100000 in
set_option maxHeartbeats 1600000 in
theorem rank_any (X : Nat) (hX : Vs X) (w : World) : Calls Tryz.prog 59 #[.int .u64 (X : Int)] w fun e w' => e = .returned (.int .u64 ((rkN X : Nat) : Int)) ∧ w = w' := by
  have h1 := hX.lt
  have s0 := rk_at X 0 (by omega) hX.lt
  have s1 := rk_at X 1 (by omega) hX.lt
  have s2 := rk_at X 2 (by omega) hX.lt
  have s3 := rk_at X 3 (by omega) hX.lt
  have s4 := rk_at X 4 (by omega) hX.lt
  have s5 := rk_at X 5 (by omega) hX.lt
  simp only [Nat.reducePow, Int.natCast_one, Int.ediv_one, Int.cast_ofNat_Int] at s0 s1 s2 s3 s4 s5
  have S0 := Lib.hid s0
  have S1 := Lib.hid s1
  have S2 := Lib.hid s2
  have S3 := Lib.hid s3
  have S4 := Lib.hid s4
  have S5 := Lib.hid s5
  clear s0 s1 s2 s3 s4 s5
  go_enter Tryz.func59, Tryz.ntmps59
  go_wp2
  go_loop [3, 5] (RkRel X) (fun _ i => 6 - (intOf i).toNat)
  case atStart => exact ⟨0, by omega, rfl, rfl⟩
  case round =>
    obtain ⟨y, hy, rfl, rfl⟩ := hrel
    by_cases hlt : y < 6
    · rcases (by omega : y = 0 ∨ y = 1 ∨ y = 2 ∨ y = 3 ∨ y = 4 ∨ y = 5) with rfl | rfl | rfl | rfl | rfl | rfl
      all_goals
        go_wp2
        go_round
        case rel => first | exact ⟨1, by omega, by go_num, by rw [S0.out]⟩ | exact ⟨2, by omega, by go_num, by rw [S1.out]⟩ | exact ⟨3, by omega, by go_num, by rw [S2.out]⟩ | exact ⟨4, by omega, by go_num, by rw [S3.out]⟩ | exact ⟨5, by omega, by go_num, by rw [S4.out]⟩ | exact ⟨6, by omega, by go_num, by rw [S5.out]⟩
        case measure => simp [intOf]
    · have e : y = 6 := by omega
      subst e
      go_wp2
      go_ret
      exact ⟨by rw [rkP_six]; rfl, rfl⟩
theorem rk_form (a b c d e f : Nat) (ha : a < 64) (hb : b < 64) (hc : c < 64) (hd : d < 64) (he : e < 64) (hf : f < 64) :
    rkN (a + 64 * b + 4096 * c + 262144 * d + 16777216 * e + 1073741824 * f) = f + 64 * e + 4096 * d + 262144 * c + 16777216 * b + 1073741824 * a := by
  have h0 : (a + 64 * b + 4096 * c + 262144 * d + 16777216 * e + 1073741824 * f) % 64 = a := by omega
  have h1 : (a + 64 * b + 4096 * c + 262144 * d + 16777216 * e + 1073741824 * f) / 64 % 64 = b := by omega
  have h2 : (a + 64 * b + 4096 * c + 262144 * d + 16777216 * e + 1073741824 * f) / 4096 % 64 = c := by omega
  have h3 : (a + 64 * b + 4096 * c + 262144 * d + 16777216 * e + 1073741824 * f) / 262144 % 64 = d := by omega
  have h4 : (a + 64 * b + 4096 * c + 262144 * d + 16777216 * e + 1073741824 * f) / 16777216 % 64 = e := by omega
  have h5 : (a + 64 * b + 4096 * c + 262144 * d + 16777216 * e + 1073741824 * f) / 1073741824 % 64 = f := by omega
  unfold rkN
  rw [h0, h1, h2, h3, h4, h5]
  omega
theorem digits (X : Nat) (h : X < 68719476736) : ∃ a b c d e f : Nat, (a < 64 ∧ b < 64 ∧ c < 64 ∧ d < 64 ∧ e < 64 ∧ f < 64) ∧ X = a + 64 * b + 4096 * c + 262144 * d + 16777216 * e + 1073741824 * f :=
  ⟨X % 64, X / 64 % 64, X / 4096 % 64, X / 262144 % 64, X / 16777216 % 64, X / 1073741824, ⟨by omega, by omega, by omega, by omega, by omega, by omega⟩, by omega⟩
theorem rk_back (X : Nat) (hX : X < 68719476736) : rkN (rkN X) = X := by
  obtain ⟨a, b, c, d, e, f, ⟨h0, h1, h2, h3, h4, h5⟩, rfl⟩ := digits X hX
  rw [rk_form a b c d e f h0 h1 h2 h3 h4 h5, rk_form f e d c b a h5 h4 h3 h2 h1 h0]
theorem rk_vs (X : Nat) : Vs (rkN X) := by unfold Vs rkN; omega
def RsRel (R : Nat) (r o i : Value) : Prop := ∃ y : Nat, y ≤ 6 ∧ i = .int .i64 (y : Int) ∧ r = .int .u64 ((R / 64 ^ y : Nat) : Int) ∧ o = .int .u64 ((rkP R y : Nat) : Int)
set_option maxRecDepth 100000 in
theorem rset_any (R : Nat) (hR : R < 68719476736) (w : World) : Calls Tryz.prog 34 #[.int .u64 (R : Int)] w fun e w' => e = .returned (.int .u64 ((rkN R : Nat) : Int)) ∧ w = w' := by
  go_enter Tryz.func34, Tryz.ntmps34
  go_wp2
  go_loop [0, 3, 4] (RsRel R) (fun _ _ i => 6 - (intOf i).toNat)
  case atStart => exact ⟨0, by omega, rfl, by simp, rfl⟩
  case round =>
    obtain ⟨y, hy, rfl, rfl, rfl⟩ := hrel
    by_cases hlt : y < 6
    · have hlt' : (y : Int) < 6 := by omega
      have h1 : R / 64 ^ y ≤ R := Nat.div_le_self _ _
      have hs := rk_at R y hlt hR
      rw [← Int.natCast_ediv] at hs
      have hd : ((R / 64 ^ y : Nat) : Int) / 64 = ((R / 64 ^ (y + 1) : Nat) : Int) := by
        rw [Nat.pow_succ, ← Nat.div_div_eq_div_mul]
        omega
      have HS := Lib.hid hs
      have HD := Lib.hid hd
      clear hs hd
      go_wp2
      go_round
      case rel => exact ⟨y + 1, by omega, by go_num, by rw [← HD.out]; simp, by rw [← HS.out]; simp⟩
      case measure => simp [intOf]; omega
    · have e : y = 6 := by omega
      subst e
      go_wp2
      go_ret
      exact ⟨by rw [rkP_six]; rfl, rfl⟩
end Go.Proofs.YtgjgefbcfcomcaaGreatDoor
