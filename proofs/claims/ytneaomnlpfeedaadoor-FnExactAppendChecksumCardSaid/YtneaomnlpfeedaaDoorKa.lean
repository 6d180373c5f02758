/-
  AppendChecksum: program and reference append alike. No conditions.
-/
import Derived.Test.YtneaomnlpfeedaaDoorNaA
import Derived.Test.YtneaomnlpfeedaaDoorPFnExactAppendChecksumx2
namespace Go.Proofs.YtneaomnlpfeedaaDoor.Pure
open Go.RowKit Go.Proofs.YtneaomnlpfeedaaDoor.PFnExactAppendChecksum Go.Proofs.YtneaomnlpfeedaaDoorW.PrintWords Go.Proofs.YtneaomnlpfeedaaDoorW.PrintLast

def hasB (s : ByteArray) (x : Int) : Bool := s.data.toList.any fun b => decide (((b.toNat : Nat) : Int) = x)
theorem len_data (s : ByteArray) : s.data.toList.length = s.size := by
  show s.data.toList.length = s.data.size
  simp
theorem bt_at (s : ByteArray) (i : Nat) (hi : i < s.size) (b : UInt8) (r : List UInt8) (h : s.data.toList.drop i = b :: r) : bt s (i : Int) = ((b.toNat : Nat) : Int) := by
  have h1 : s.data.toList[i]? = some b := by
    have := congrArg (fun l => l[0]?) h
    simpa using this
  unfold bt
  rw [dif_pos (by simpa using hi)]
  have h2 : (s[(i : Int).toNat]'(by simpa using hi)) = b := by
    have h3 : s.data.toList[i]? = some (s.data.toList[i]'(by rw [len_data]; exact hi)) := List.getElem?_eq_getElem _
    rw [h3] at h1
    injection h1
  rw [h2]
theorem stands_l0 (s : ByteArray) (hs : s.size ≤ 4611686018427387904) (x : Int) (d : Nat) : ∀ (k i : Nat), s.size - i = d → i ≤ s.size → d < k →
    spec_l1Stands.l0 k s x (i : Int) = some ((s.data.toList.drop i).any fun b => decide (((b.toNat : Nat) : Int) = x)) := by
  induction d with
  | zero =>
    intro k i hd hi hk
    obtain ⟨k, rfl⟩ : ∃ m, k = m + 1 := ⟨k - 1, by omega⟩
    simp only [spec_l1Stands.l0]; rw [if_neg (by omega), List.drop_eq_nil_of_le (by rw [len_data]; omega)]
    rfl
  | succ d ih =>
    intro k i hd hi hk
    obtain ⟨k, rfl⟩ : ∃ m, k = m + 1 := ⟨k - 1, by omega⟩
    have hlt : i < s.data.toList.length := by rw [len_data]; omega
    have hdr := List.drop_eq_getElem_cons hlt
    have hb := bt_at s i (by omega) _ _ hdr
    have hw : wrap64 ((i : Int) + 1) = ((i + 1 : Nat) : Int) := by unfold wrap64; omega
    simp only [spec_l1Stands.l0]; rw [if_pos (by omega), if_pos (by omega), hb, hdr, List.any_cons, hw, ih k (i + 1) (by omega) (by omega) (by omega)]
    by_cases e : (((s.data.toList[i]).toNat : Nat) : Int) = x
    · rw [if_pos e, decide_eq_true e, Bool.true_or]
    · rw [if_neg e, decide_eq_false e, Bool.false_or]
theorem stands_f (s : ByteArray) (hs : s.size ≤ 4611686018427387904) (x : Int) (k : Nat) (hk : s.size < k) : spec_l1Stands.f k s x = some (hasB s x) := by
  have := stands_l0 s hs x s.size k 0 (by omega) (by omega) hk
  exact this
theorem index_any (l : List UInt8) (c : UInt8) : decide (0 ≤ Lib.indexByte l c) = l.any fun b => decide (((b.toNat : Nat) : Int) = ((c.toNat : Nat) : Int)) := by
  induction l with
  | nil => rfl
  | cons b l ih =>
    have hge := Lib.indexByte_ge l c
    rw [List.any_cons, ← ih]
    show decide (0 ≤ (if (b == c) = true then (0 : Int) else if (Lib.indexByte l c == -1) = true then -1 else Lib.indexByte l c + 1)) = _
    by_cases e : b = c
    · subst e; simp
    · have e1 : ¬ (((b.toNat : Nat) : Int) = ((c.toNat : Nat) : Int)) := fun h => e (UInt8.toNat_inj.1 (by omega))
      have e2 : (b == c) = false := by simpa using e
      rw [e2, decide_eq_false e1, Bool.false_or]
      simp only [Bool.false_eq_true, if_false]
      by_cases h1 : Lib.indexByte l c = -1
      · rw [h1]; rfl
      · have e3 : (Lib.indexByte l c == -1) = false := by simpa using h1
        rw [e3]
        simp only [Bool.false_eq_true, if_false]
        rw [decide_eq_true (by omega), decide_eq_true (by omega)]
theorem contains_f (s : ByteArray) : strings_Contains.f s (⟨#[35]⟩ : ByteArray) = some (hasB s 35) := by
  unfold strings_Contains.f
  rw [if_pos (show (⟨#[35]⟩ : ByteArray).size = 1 from rfl), index_any]
  rfl
/-- the checksum is a number of six digits at most -/
theorem sum_same (s : ByteArray) (hn : s.size ≤ 4000) (d : Nat) : ∀ (k : Nat) (h i : Int), 0 ≤ h → h < 999979 → 0 ≤ i → i ≤ s.size → (s.size : Int) - i = d → d < k →
    ∃ r, 0 ≤ r ∧ r < 999979 ∧ spec_l1Sum.l0 k s h i = some r ∧ impl_checksum.l0 k s h (s.size : Int) i = some r := by
  induction d with
  | zero =>
    intro k h i b0 b1 h0 h1 hd hk
    obtain ⟨k, rfl⟩ : ∃ m, k = m + 1 := ⟨k - 1, by omega⟩
    exact ⟨h, b0, b1, by simp only [spec_l1Sum.l0]; rw [if_neg (by omega)], by simp only [impl_checksum.l0]; rw [if_neg (by omega)]⟩
  | succ d ih =>
    intro k h i b0 b1 h0 h1 hd hk
    obtain ⟨k, rfl⟩ : ∃ m, k = m + 1 := ⟨k - 1, by omega⟩
    have hlt : i < (s.size : Int) := by omega
    have hw : wrap64 (i + 1) = i + 1 := by unfold wrap64; omega
    have hbt : 0 ≤ bt s i ∧ bt s i ≤ 255 := by
      unfold bt
      split
      · next h => have := (s[i.toNat]'h).toNat_lt; omega
      · omega
    have hm : wrap64 ((wrap64 ((wrap64 (41 * h)) + (wrap64 (bt s i)))) + 1) = 41 * h + bt s i + 1 := by unfold wrap64; omega
    have hp : 0 ≤ 41 * h + bt s i + 1 := by omega
    have ht : Int.tmod (41 * h + bt s i + 1) 999979 = (41 * h + bt s i + 1) % 999979 := Int.tmod_eq_emod_of_nonneg hp
    obtain ⟨r, r0, r1, h2, h3⟩ := ih k (Int.tmod (wrap64 ((wrap64 ((wrap64 (41 * h)) + (wrap64 (bt s i)))) + 1)) 999979) (i + 1) (by rw [hm, ht]; omega) (by rw [hm, ht]; omega) (by omega) (by omega) (by omega) (by omega)
    refine ⟨r, r0, r1, ?_, ?_⟩
    · simp only [spec_l1Sum.l0]; rw [if_pos hlt, if_pos h0, hw]; exact h2
    · simp only [impl_checksum.l0]; rw [if_pos hlt, if_pos h0, if_pos hlt, hw]; exact h3
theorem app1 (s : ByteArray) : (s ++ (⟨#[35]⟩ : ByteArray)).size = s.size + 1 := by rw [ByteArray.size_append]; rfl
theorem itoa_size (n : Int) (h0 : 0 ≤ n) (h1 : n < 999979) : (⟨(Lib.itoa n).toArray⟩ : ByteArray).size ≤ 21 := by
  have := Lib.itoa_length_le n (by omega) (by omega)
  show (Lib.itoa n).toArray.size ≤ 21
  simpa using this
/-- both sides' seal of a string -/
theorem seal_f (s : ByteArray) (hn : s.size ≤ 4000) (k : Nat) (hk : 5000 ≤ k) : ∃ r : ByteArray, spec_l1Seal.f k s = some r ∧
    ∃ c t, impl_checksum.f k s = some c ∧ strconv_Itoa_23.f c = some t ∧ r = (s ++ (⟨#[35]⟩ : ByteArray)) ++ t ∧ t.size ≤ 21 := by
  obtain ⟨c, c0, c1, h1, h2⟩ := sum_same s hn s.size k 7 0 (by omega) (by omega) (by omega) (by omega) (by omega) (by omega)
  have hz := itoa_size c c0 c1
  refine ⟨(s ++ (⟨#[35]⟩ : ByteArray)) ++ ⟨(Lib.itoa c).toArray⟩, ?_, c, ⟨(Lib.itoa c).toArray⟩, h2, ?_, rfl, hz⟩
  · have h3 : spec_l1Sum.f k s = some c := h1
    unfold spec_l1Seal.f
    rw [if_pos (by omega), h3]
    simp only [Option.bind_some]
    rw [num_f c (by omega) (by omega) k (by omega)]
    simp only [Option.bind_some]
    rw [if_pos (by rw [app1]; omega)]
  · unfold strconv_Itoa_23.f
    rw [if_pos ⟨by omega, by omega⟩]
theorem append_f (s : ByteArray) (hb : s.size ≤ 1048576) (k : Nat) (hk : 5001 ≤ k) : ∃ a, spec_AppendChecksum.f k s = some a ∧ impl_AppendChecksum.f k s = some a := by
  obtain ⟨k, rfl⟩ : ∃ m, k = m + 1 := ⟨k - 1, by omega⟩
  unfold spec_AppendChecksum.f impl_AppendChecksum.f
  by_cases h1 : (s.size : Int) > 4000
  · exact ⟨(⟨#[]⟩, false), by rw [if_pos h1], by rw [if_pos h1]; simp [impl_AppendChecksum.j0]⟩
  · rw [if_neg h1, if_neg h1, stands_f s (by omega) 35 (k + 1) (by omega), contains_f]
    simp only [Option.bind_some, impl_AppendChecksum.j0]
    by_cases h2 : hasB s 35 = true
    · exact ⟨(⟨#[]⟩, false), by rw [if_pos h2], by rw [if_pos h2]⟩
    · obtain ⟨r, e1, c, t, e2, e3, e4, e5⟩ := seal_f s (by omega) (k + 1) (by omega)
      obtain ⟨r', e1', c', t', e2', e3', e4', e5'⟩ := seal_f s (by omega) k (by omega)
      have hcc : c' = c := by
        have := impl_checksum.mono s k
        have h5 := this _ e2'
        rw [e2] at h5
        exact (Option.some.inj h5).symm
      subst hcc
      have htt : t' = t := by rw [e3] at e3'; exact (Option.some.inj e3').symm
      subst htt
      rw [if_neg h2, if_neg h2, e1]
      simp only [Option.bind_some]
      rw [if_pos (show s.size + 1 ≤ 9223372036854775807 by omega), e2']
      simp only [Option.bind_some]
      rw [e3]
      simp only [Option.bind_some]
      rw [if_pos (show (s ++ (⟨#[35]⟩ : ByteArray)).size + t'.size ≤ 9223372036854775807 by rw [app1]; omega), ← e4]
      by_cases h6 : (r.size : Int) > 4000
      · exact ⟨(⟨#[]⟩, false), by rw [if_pos h6], by rw [if_pos h6]⟩
      · exact ⟨(r, true), by rw [if_neg h6], by rw [if_neg h6]⟩

theorem FnExactAppendChecksum (s : ByteArray) : laws_FnExactAppendChecksum.f 9000 s = some true := by
  unfold laws_FnExactAppendChecksum.f
  by_cases hb : (s.size : Int) > 1048576
  · rw [if_pos hb]
  · obtain ⟨a, e1, e2⟩ := append_f s (by omega) 9000 (by omega)
    rw [if_neg hb, e1, e2]
    simp only [Option.bind_some, if_true, bne_self_eq_false, Bool.false_eq_true, if_false]
end Go.Proofs.YtneaomnlpfeedaaDoor.Pure
