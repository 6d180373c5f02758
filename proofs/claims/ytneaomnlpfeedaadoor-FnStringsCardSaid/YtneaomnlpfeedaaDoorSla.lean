/-
  FnStrings: the reference's text of a number is the library's. No conditions.
-/
import Derived.Test.YtneaomnlpfeedaaDoorPFnStringsx1
import Derived.Lib.ItoaLen
namespace Go.Proofs.YtneaomnlpfeedaaDoor.Pure
open Go.RowKit Go.Proofs.YtneaomnlpfeedaaDoor.PFnStrings Go.Proofs.YtneaomnlpfeedaaDoorW.PrintWords Go.Proofs.YtneaomnlpfeedaaDoorW.PrintLast
set_option linter.unusedVariables false
set_option linter.unusedSimpArgs false


def dig (u : Nat) : ByteArray := ⟨(Lib.decDigits u).toArray⟩
theorem dig_cut : ∀ u : Fin 10, (⟨#[48, 49, 50, 51, 52, 53, 54, 55, 56, 57]⟩ : ByteArray).extract u.val (u.val + 1) = ⟨#[UInt8.ofNat (48 + u.val)]⟩ := by decide +kernel
theorem dig_one (u : Nat) (h : u < 10) : (⟨#[48, 49, 50, 51, 52, 53, 54, 55, 56, 57]⟩ : ByteArray).extract u (u + 1) = dig u := by
  unfold dig
  rw [Lib.decDigits_one h]
  exact dig_cut ⟨u, h⟩
theorem dig_more (u : Nat) (h : ¬ u < 10) : dig u = dig (u / 10) ++ dig (u % 10) := by
  have e : Lib.decDigits u = Lib.decDigits (u / 10) ++ Lib.decDigits (u % 10) := by
    rw [Lib.decDigits, dif_neg h, Lib.decDigits_one (i := u % 10) (by omega)]
  unfold dig
  apply ByteArray.ext
  rw [e]
  simp [ByteArray.data_append]
theorem dig_size (u : Nat) (h : u ≤ 1000000000) : (dig u).size ≤ 30 := by
  have h1 := Lib.itoa_length_le (u : Int) (by omega) (by omega)
  rw [Lib.itoa_nonneg] at h1
  show (Lib.decDigits u).toArray.size ≤ 30
  simp only [List.size_toArray]
  omega
theorem cut_size (u : Nat) (h : u < 10) : ((⟨#[48, 49, 50, 51, 52, 53, 54, 55, 56, 57]⟩ : ByteArray).extract u (u + 1)).size ≤ 30 := by rw [dig_one u h]; exact dig_size u (by omega)
theorem num_nat (d : Nat) : ∀ (u k : Nat), u < 10 ^ (d + 1) → u ≤ 1000000000 → d < k → spec_l1Num.f k (u : Int) = some (dig u) := by
  induction d with
  | zero =>
    intro u k h hu hk
    obtain ⟨k, rfl⟩ : ∃ m, k = m + 1 := ⟨k - 1, by omega⟩
    have hw : wrap64 ((u : Int) + 1) = ((u + 1 : Nat) : Int) := by unfold wrap64; omega
    unfold spec_l1Num.f
    rw [hw, if_neg (by omega), if_pos (by omega), if_pos (by omega), if_pos (by omega), if_pos (by omega), Int.toNat_natCast, Int.toNat_natCast, dig_one u (by omega)]
  | succ d ih =>
    intro u k h hu hk
    obtain ⟨k, rfl⟩ : ∃ m, k = m + 1 := ⟨k - 1, by omega⟩
    by_cases h10 : u < 10
    · have hw : wrap64 ((u : Int) + 1) = ((u + 1 : Nat) : Int) := by unfold wrap64; omega
      unfold spec_l1Num.f
      rw [hw, if_neg (by omega), if_pos (by omega), if_pos (by omega), if_pos (by omega), if_pos (by omega), Int.toNat_natCast, Int.toNat_natCast, dig_one u h10]
    · have e1 : Int.tdiv (u : Int) 10 = ((u / 10 : Nat) : Int) := by rw [Int.tdiv_eq_ediv_of_nonneg (by omega)]; omega
      have e2 : Int.tmod (u : Int) 10 = ((u % 10 : Nat) : Int) := by rw [Int.tmod_eq_emod_of_nonneg (by omega)]; omega
      have hw1 : wrap64 ((u / 10 : Nat) : Int) = ((u / 10 : Nat) : Int) := by unfold wrap64; omega
      have hw2 : wrap64 (((u % 10 : Nat) : Int) + 1) = ((u % 10 + 1 : Nat) : Int) := by unfold wrap64; omega
      have h2 : u / 10 < 10 ^ (d + 1) := by rw [Nat.pow_succ] at h; omega
      have hs := dig_size (u / 10) (by omega)
      have hs2 := cut_size (u % 10) (by omega)
      unfold spec_l1Num.f
      rw [e1, e2, hw1, hw2, if_neg (by omega), if_neg (by omega), ih (u / 10) k h2 (by omega) (by omega)]
      simp only [Option.bind_some, Int.toNat_natCast]
      rw [if_pos (by omega), if_pos (by omega), if_pos (by omega), if_pos (by omega), dig_one (u % 10) (by omega), dig_more u h10]
def neg (u : Nat) : ByteArray := ⟨(45 :: Lib.decDigits u).toArray⟩
theorem neg_one (u : Nat) : neg u = (⟨#[45]⟩ : ByteArray) ++ dig u := by
  unfold neg dig
  apply ByteArray.ext
  simp [ByteArray.data_append]
theorem neg_more (u : Nat) (h : ¬ u < 10) : neg u = neg (u / 10) ++ dig (u % 10) := by
  rw [neg_one, neg_one, dig_more u h]
  apply ByteArray.ext
  simp [ByteArray.data_append]
theorem num_neg (d : Nat) : ∀ (u k : Nat), 1 ≤ u → u < 10 ^ (d + 1) → u ≤ 1000000000 → d + 2 < k → spec_l1Num.f k (-(u : Int)) = some (neg u) := by
  have small : ∀ (u k : Nat), 1 ≤ u → u < 10 → 2 < k → spec_l1Num.f k (-(u : Int)) = some (neg u) := by
    intro u k h1 h hk
    obtain ⟨k, rfl⟩ : ∃ m, k = m + 1 := ⟨k - 1, by omega⟩
    have hw : wrap64 (-(-(u : Int))) = (u : Int) := by unfold wrap64; omega
    have hs := dig_size u (by omega)
    unfold spec_l1Num.f
    rw [hw, if_pos (by omega), if_pos (by omega), num_nat 0 u k (by omega) (by omega) (by omega)]
    simp only [Option.bind_some]
    rw [if_pos (by omega), neg_one]
  induction d with
  | zero =>
    intro u k h1 h hu hk
    exact small u k h1 (by omega) (by omega)
  | succ d ih =>
    intro u k h1 h hu hk
    by_cases h10 : u < 10
    · exact small u k h1 h10 (by omega)
    · obtain ⟨k, rfl⟩ : ∃ m, k = m + 1 := ⟨k - 1, by omega⟩
      have e1 : Int.tdiv (-(u : Int)) 10 = -((u / 10 : Nat) : Int) := by rw [Int.neg_tdiv, Int.tdiv_eq_ediv_of_nonneg (by omega)]; omega
      have e2 : Int.tmod (-(u : Int)) 10 = -((u % 10 : Nat) : Int) := by rw [Int.neg_tmod, Int.tmod_eq_emod_of_nonneg (by omega)]; omega
      have hw1 : wrap64 (-((u / 10 : Nat) : Int)) = -((u / 10 : Nat) : Int) := by unfold wrap64; omega
      have hw2 : wrap64 (-(-((u % 10 : Nat) : Int))) = ((u % 10 : Nat) : Int) := by unfold wrap64; omega
      have h2 : u / 10 < 10 ^ (d + 1) := by rw [Nat.pow_succ] at h; omega
      have hs := dig_size (u / 10) (by omega)
      have hs2 := dig_size (u % 10) (by omega)
      have hs3 : (neg (u / 10)).size ≤ 31 := by
        rw [neg_one, ByteArray.size_append]
        show 1 + _ ≤ 31
        omega
      unfold spec_l1Num.f
      rw [e1, e2, hw1, hw2, if_pos (by omega), if_neg (by omega), ih (u / 10) k (by omega) h2 (by omega) (by omega)]
      simp only [Option.bind_some]
      rw [num_nat 0 (u % 10) k (by omega) (by omega) (by omega)]
      simp only [Option.bind_some]
      rw [if_pos (by omega), neg_more u h10]
/-- the reference's text of a number -/
theorem num_f (n : Int) (h0 : -100000000 ≤ n) (h1 : n ≤ 100000000) (k : Nat) (hk : 20 < k) : spec_l1Num.f k n = some ⟨(Lib.itoa n).toArray⟩ := by
  by_cases h : n < 0
  · obtain ⟨u, rfl⟩ : ∃ u : Nat, n = -(u : Int) := ⟨n.natAbs, by omega⟩
    rw [num_neg 8 u k (by omega) (by omega) (by omega) (by omega), Lib.itoa_neg u (by omega)]
    rfl
  · obtain ⟨u, rfl⟩ : ∃ u : Nat, n = (u : Int) := ⟨n.toNat, by omega⟩
    rw [num_nat 8 u k (by omega) (by omega) (by omega), Lib.itoa_nonneg]
    rfl
end Go.Proofs.YtneaomnlpfeedaaDoor.Pure
