/-
  The statement FnExactChecksum is proved: for all strings, program and reference have the same checksum. No conditions.
-/
import Derived.Test.YtneaomnlpfeedaaPFnExactChecksumx1
namespace Go.Proofs.Ytneaomnlpfeedaa.Pure
open Go.RowKit Go.Proofs.Ytneaomnlpfeedaa.PFnExactChecksum Go.Proofs.YtneaomnlpfeedaaW.PrintWords Go.Proofs.YtneaomnlpfeedaaW.PrintLast

theorem sum_same (s : ByteArray) (hn : s.size ≤ 4000) (d : Nat) : ∀ (k : Nat) (h i : Int), 0 ≤ i → i ≤ s.size → (s.size : Int) - i = d → d < k →
    ∃ r, spec_l1Sum.l0 k s h i = some r ∧ impl_checksum.l0 k s h (s.size : Int) i = some r := by
  induction d with
  | zero =>
    intro k h i h0 h1 hd hk
    obtain ⟨k, rfl⟩ : ∃ m, k = m + 1 := ⟨k - 1, by omega⟩
    exact ⟨h, by simp only [spec_l1Sum.l0]; rw [if_neg (by omega)], by simp only [impl_checksum.l0]; rw [if_neg (by omega)]⟩
  | succ d ih =>
    intro k h i h0 h1 hd hk
    obtain ⟨k, rfl⟩ : ∃ m, k = m + 1 := ⟨k - 1, by omega⟩
    have hlt : i < (s.size : Int) := by omega
    have hw : wrap64 (i + 1) = i + 1 := by unfold wrap64; omega
    obtain ⟨r, h2, h3⟩ := ih k (Int.tmod (wrap64 ((wrap64 ((wrap64 (41 * h)) + (wrap64 (bt s i)))) + 1)) 999979) (i + 1) (by omega) (by omega) (by omega) (by omega)
    refine ⟨r, ?_, ?_⟩
    · simp only [spec_l1Sum.l0]; rw [if_pos hlt, if_pos h0, hw]; exact h2
    · simp only [impl_checksum.l0]; rw [if_pos hlt, if_pos h0, if_pos hlt, hw]; exact h3

theorem FnExactChecksum : laws_FnExactChecksum.Pure := by
  intro s _
  by_cases hs : (s.size : Int) > 4000
  · refine ⟨0, ?_⟩
    unfold laws_FnExactChecksum.f spec_Checksum.f impl_Checksum.f
    by_cases hb : (s.size : Int) > 1048576
    · rw [if_pos hb]
    · rw [if_neg hb, if_pos hs, if_pos hs]; simp
  · obtain ⟨r, h1, h2⟩ := sum_same s (by omega) s.size (s.size + 1) 7 0 (by omega) (by omega) (by omega) (by omega)
    refine ⟨s.size + 1, ?_⟩
    unfold laws_FnExactChecksum.f spec_Checksum.f impl_Checksum.f spec_l1Sum.f impl_checksum.f
    rw [if_neg (by omega), if_neg hs, if_neg hs, h1, h2]; simp

end Go.Proofs.Ytneaomnlpfeedaa.Pure
