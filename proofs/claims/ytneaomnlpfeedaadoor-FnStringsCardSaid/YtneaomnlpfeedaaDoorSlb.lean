/-
  FnStrings: both sides append checksums alike; what the program verifies. No conditions.
-/
import Derived.Test.YtneaomnlpfeedaaDoorSla
import Derived.Test.YtneaomnlpfeedaaDoorPFnStringsx2
import Derived.Lib.IndexLaws
namespace Go.Proofs.YtneaomnlpfeedaaDoor.Pure
open Go.RowKit Go.Proofs.YtneaomnlpfeedaaDoor.PFnStrings Go.Proofs.YtneaomnlpfeedaaDoorW.PrintWords Go.Proofs.YtneaomnlpfeedaaDoorW.PrintLast
set_option linter.unusedVariables false
set_option linter.unusedSimpArgs false


def hasB (s : ByteArray) (x : Int) : Bool := s.data.toList.any fun b => decide (((b.toNat : Nat) : Int) = x)
theorem len_data (s : ByteArray) : s.data.toList.length = s.size := by
  show s.data.toList.length = s.data.size
  simp
theorem bt_at (s : ByteArray) (i : Nat) (hi : i < s.size) (b : UInt8) (r : List UInt8) (h : s.data.toList.drop i = b :: r) : bt s (i : Int) = ((b.toNat : Nat) : Int) := by
  have h1 : s.data.toList[i]? = some b := by
    have := congrArg (fun l => l[0]?) h
    simpa using this
  unfold bt
  rw [dif_pos (by simpa using hi)]
  have h2 : (s[(i : Int).toNat]'(by simpa using hi)) = b := by
    have h3 : s.data.toList[i]? = some (s.data.toList[i]'(by rw [len_data]; exact hi)) := List.getElem?_eq_getElem _
    rw [h3] at h1
    injection h1
  rw [h2]
theorem stands_l0 (s : ByteArray) (hs : s.size ≤ 4611686018427387904) (x : Int) (d : Nat) : ∀ (k i : Nat), s.size - i = d → i ≤ s.size → d < k →
    spec_l1Stands.l0 k s x (i : Int) = some ((s.data.toList.drop i).any fun b => decide (((b.toNat : Nat) : Int) = x)) := by
  induction d with
  | zero =>
    intro k i hd hi hk
    obtain ⟨k, rfl⟩ : ∃ m, k = m + 1 := ⟨k - 1, by omega⟩
    simp only [spec_l1Stands.l0]; rw [if_neg (by omega), List.drop_eq_nil_of_le (by rw [len_data]; omega)]
    rfl
  | succ d ih =>
    intro k i hd hi hk
    obtain ⟨k, rfl⟩ : ∃ m, k = m + 1 := ⟨k - 1, by omega⟩
    have hlt : i < s.data.toList.length := by rw [len_data]; omega
    have hdr := List.drop_eq_getElem_cons hlt
    have hb := bt_at s i (by omega) _ _ hdr
    have hw : wrap64 ((i : Int) + 1) = ((i + 1 : Nat) : Int) := by unfold wrap64; omega
    simp only [spec_l1Stands.l0]; rw [if_pos (by omega), if_pos (by omega), hb, hdr, List.any_cons, hw, ih k (i + 1) (by omega) (by omega) (by omega)]
    by_cases e : (((s.data.toList[i]).toNat : Nat) : Int) = x
    · rw [if_pos e, decide_eq_true e, Bool.true_or]
    · rw [if_neg e, decide_eq_false e, Bool.false_or]
theorem stands_f (s : ByteArray) (hs : s.size ≤ 4611686018427387904) (x : Int) (k : Nat) (hk : s.size < k) : spec_l1Stands.f k s x = some (hasB s x) := by
  have := stands_l0 s hs x s.size k 0 (by omega) (by omega) hk
  exact this
theorem index_any (l : List UInt8) (c : UInt8) : decide (0 ≤ Lib.indexByte l c) = l.any fun b => decide (((b.toNat : Nat) : Int) = ((c.toNat : Nat) : Int)) := by
  induction l with
  | nil => rfl
  | cons b l ih =>
    have hge := Lib.indexByte_ge l c
    rw [List.any_cons, ← ih]
    show decide (0 ≤ (if (b == c) = true then (0 : Int) else if (Lib.indexByte l c == -1) = true then -1 else Lib.indexByte l c + 1)) = _
    by_cases e : b = c
    · subst e; simp
    · have e1 : ¬ (((b.toNat : Nat) : Int) = ((c.toNat : Nat) : Int)) := fun h => e (UInt8.toNat_inj.1 (by omega))
      have e2 : (b == c) = false := by simpa using e
      rw [e2, decide_eq_false e1, Bool.false_or]
      simp only [Bool.false_eq_true, if_false]
      by_cases h1 : Lib.indexByte l c = -1
      · rw [h1]; rfl
      · have e3 : (Lib.indexByte l c == -1) = false := by simpa using h1
        rw [e3]
        simp only [Bool.false_eq_true, if_false]
        rw [decide_eq_true (by omega), decide_eq_true (by omega)]
theorem contains_f (s : ByteArray) : strings_Contains.f s (⟨#[35]⟩ : ByteArray) = some (hasB s 35) := by
  unfold strings_Contains.f
  rw [if_pos (show (⟨#[35]⟩ : ByteArray).size = 1 from rfl), index_any]
  rfl
/-- the checksum is a number of six digits at most -/
theorem sum_same (s : ByteArray) (hn : s.size ≤ 4000) (d : Nat) : ∀ (k : Nat) (h i : Int), 0 ≤ h → h < 999979 → 0 ≤ i → i ≤ s.size → (s.size : Int) - i = d → d < k →
    ∃ r, 0 ≤ r ∧ r < 999979 ∧ spec_l1Sum.l0 k s h i = some r ∧ impl_checksum.l0 k s h (s.size : Int) i = some r := by
  induction d with
  | zero =>
    intro k h i b0 b1 h0 h1 hd hk
    obtain ⟨k, rfl⟩ : ∃ m, k = m + 1 := ⟨k - 1, by omega⟩
    exact ⟨h, b0, b1, by simp only [spec_l1Sum.l0]; rw [if_neg (by omega)], by simp only [impl_checksum.l0]; rw [if_neg (by omega)]⟩
  | succ d ih =>
    intro k h i b0 b1 h0 h1 hd hk
    obtain ⟨k, rfl⟩ : ∃ m, k = m + 1 := ⟨k - 1, by omega⟩
    have hlt : i < (s.size : Int) := by omega
    have hw : wrap64 (i + 1) = i + 1 := by unfold wrap64; omega
    have hbt : 0 ≤ bt s i ∧ bt s i ≤ 255 := by
      unfold bt
      split
      · next h => have := (s[i.toNat]'h).toNat_lt; omega
      · omega
    have hm : wrap64 ((wrap64 ((wrap64 (41 * h)) + (wrap64 (bt s i)))) + 1) = 41 * h + bt s i + 1 := by unfold wrap64; omega
    have hp : 0 ≤ 41 * h + bt s i + 1 := by omega
    have ht : Int.tmod (41 * h + bt s i + 1) 999979 = (41 * h + bt s i + 1) % 999979 := Int.tmod_eq_emod_of_nonneg hp
    obtain ⟨r, r0, r1, h2, h3⟩ := ih k (Int.tmod (wrap64 ((wrap64 ((wrap64 (41 * h)) + (wrap64 (bt s i)))) + 1)) 999979) (i + 1) (by rw [hm, ht]; omega) (by rw [hm, ht]; omega) (by omega) (by omega) (by omega) (by omega)
    refine ⟨r, r0, r1, ?_, ?_⟩
    · simp only [spec_l1Sum.l0]; rw [if_pos hlt, if_pos h0, hw]; exact h2
    · simp only [impl_checksum.l0]; rw [if_pos hlt, if_pos h0, if_pos hlt, hw]; exact h3
theorem app1 (s : ByteArray) : (s ++ (⟨#[35]⟩ : ByteArray)).size = s.size + 1 := by rw [ByteArray.size_append]; rfl
theorem itoa_size (n : Int) (h0 : 0 ≤ n) (h1 : n < 999979) : (⟨(Lib.itoa n).toArray⟩ : ByteArray).size ≤ 21 := by
  have := Lib.itoa_length_le n (by omega) (by omega)
  show (Lib.itoa n).toArray.size ≤ 21
  simpa using this
/-- both sides' seal of a string -/
theorem seal_f (s : ByteArray) (hn : s.size ≤ 4000) (k : Nat) (hk : 5000 ≤ k) : ∃ r : ByteArray, spec_l1Seal.f k s = some r ∧
    ∃ c t, impl_checksum.f k s = some c ∧ strconv_Itoa_23.f c = some t ∧ r = (s ++ (⟨#[35]⟩ : ByteArray)) ++ t ∧ t.size ≤ 21 := by
  obtain ⟨c, c0, c1, h1, h2⟩ := sum_same s hn s.size k 7 0 (by omega) (by omega) (by omega) (by omega) (by omega) (by omega)
  have hz := itoa_size c c0 c1
  refine ⟨(s ++ (⟨#[35]⟩ : ByteArray)) ++ ⟨(Lib.itoa c).toArray⟩, ?_, c, ⟨(Lib.itoa c).toArray⟩, h2, ?_, rfl, hz⟩
  · have h3 : spec_l1Sum.f k s = some c := h1
    unfold spec_l1Seal.f
    rw [if_pos (by omega), h3]
    simp only [Option.bind_some]
    rw [num_f c (by omega) (by omega) k (by omega)]
    simp only [Option.bind_some]
    rw [if_pos (by rw [app1]; omega)]
  · unfold strconv_Itoa_23.f
    rw [if_pos ⟨by omega, by omega⟩]
theorem append_f (s : ByteArray) (hb : s.size ≤ 1048576) (k : Nat) (hk : 5001 ≤ k) : ∃ a, spec_AppendChecksum.f k s = some a ∧ impl_AppendChecksum.f k s = some a := by
  obtain ⟨k, rfl⟩ : ∃ m, k = m + 1 := ⟨k - 1, by omega⟩
  unfold spec_AppendChecksum.f impl_AppendChecksum.f
  by_cases h1 : (s.size : Int) > 4000
  · exact ⟨(⟨#[]⟩, false), by rw [if_pos h1], by rw [if_pos h1]; simp [impl_AppendChecksum.j0]⟩
  · rw [if_neg h1, if_neg h1, stands_f s (by omega) 35 (k + 1) (by omega), contains_f]
    simp only [Option.bind_some, impl_AppendChecksum.j0]
    by_cases h2 : hasB s 35 = true
    · exact ⟨(⟨#[]⟩, false), by rw [if_pos h2], by rw [if_pos h2]⟩
    · obtain ⟨r, e1, c, t, e2, e3, e4, e5⟩ := seal_f s (by omega) (k + 1) (by omega)
      obtain ⟨r', e1', c', t', e2', e3', e4', e5'⟩ := seal_f s (by omega) k (by omega)
      have hcc : c' = c := by
        have := impl_checksum.mono s k
        have h5 := this _ e2'
        rw [e2] at h5
        exact (Option.some.inj h5).symm
      subst hcc
      have htt : t' = t := by rw [e3] at e3'; exact (Option.some.inj e3').symm
      subst htt
      rw [if_neg h2, if_neg h2, e1]
      simp only [Option.bind_some]
      rw [if_pos (show s.size + 1 ≤ 9223372036854775807 by omega), e2']
      simp only [Option.bind_some]
      rw [e3]
      simp only [Option.bind_some]
      rw [if_pos (show (s ++ (⟨#[35]⟩ : ByteArray)).size + t'.size ≤ 9223372036854775807 by rw [app1]; omega), ← e4]
      by_cases h6 : (r.size : Int) > 4000
      · exact ⟨(⟨#[]⟩, false), by rw [if_pos h6], by rw [if_pos h6]⟩
      · exact ⟨(r, true), by rw [if_neg h6], by rw [if_neg h6]⟩
theorem app_in (s : ByteArray) (hn : s.size ≤ 4000) (h2 : hasB s 35 = false) (k : Nat) (hk : 5001 ≤ k) :
    ∃ r, spec_l1Seal.f k s = some r ∧ impl_AppendChecksum.f k s = some (if (r.size : Int) > 4000 then (⟨#[]⟩, false) else (r, true)) := by
  obtain ⟨k, rfl⟩ : ∃ m, k = m + 1 := ⟨k - 1, by omega⟩
  obtain ⟨r, e1, c, t, e2, e3, e4, e5⟩ := seal_f s (by omega) (k + 1) (by omega)
  obtain ⟨r', e1', c', t', e2', e3', e4', e5'⟩ := seal_f s (by omega) k (by omega)
  have hcc : c' = c := by
    have := impl_checksum.mono s k
    have h5 := this _ e2'
    rw [e2] at h5
    exact (Option.some.inj h5).symm
  subst hcc
  have htt : t' = t := by rw [e3] at e3'; exact (Option.some.inj e3').symm
  subst htt
  refine ⟨r, e1, ?_⟩
  unfold impl_AppendChecksum.f
  rw [if_neg (by omega), contains_f]
  simp only [Option.bind_some, impl_AppendChecksum.j0]
  rw [h2, if_neg (by decide), if_pos (show s.size + 1 ≤ 9223372036854775807 by omega), e2']
  simp only [Option.bind_some]
  rw [e3]
  simp only [Option.bind_some]
  rw [if_pos (show (s ++ (⟨#[35]⟩ : ByteArray)).size + t'.size ≤ 9223372036854775807 by rw [app1]; omega), ← e4]
  by_cases h6 : (r.size : Int) > 4000
  · rw [if_pos h6, if_pos h6]
  · rw [if_neg h6, if_neg h6]
theorem app_long (s : ByteArray) (hn : ¬ s.size ≤ 4000) (k : Nat) (hk : 1 ≤ k) : impl_AppendChecksum.f k s = some (⟨#[]⟩, false) := by
  obtain ⟨k, rfl⟩ : ∃ m, k = m + 1 := ⟨k - 1, by omega⟩
  unfold impl_AppendChecksum.f
  rw [if_pos (by omega)]
  simp [impl_AppendChecksum.j0]
/-- n is the first place of the sign, or the end -/
def FirstAt (s : ByteArray) (n : Nat) : Prop := n ≤ s.size ∧ (∀ j, j < n → s.data.toList[j]? ≠ some 35) ∧ (n = s.size ∨ s.data.toList[n]? = some 35)
theorem bt_get (s : ByteArray) (i : Nat) (hi : i < s.size) : bt s (i : Int) = 35 ↔ s.data.toList[i]? = some 35 := by
  have hlt : i < s.data.toList.length := by rw [len_data]; exact hi
  have hb := bt_at s i hi _ _ (List.drop_eq_getElem_cons hlt)
  rw [hb, List.getElem?_eq_getElem hlt]
  constructor
  · intro h
    congr 1
    apply UInt8.toNat_inj.1
    show _ = 35
    omega
  · intro h
    injection h with h
    rw [h]
    rfl
theorem ext_all (s : ByteArray) : s.extract 0 s.size = s := by
  apply ByteArray.ext
  rw [ByteArray.data_extract]
  exact Array.extract_size
/-- the program's cut at the first sign -/
theorem cut_f (s : ByteArray) (hs : s.size ≤ 1048576) : ∃ n x y, FirstAt s n ∧ strings_Cut.f s (⟨#[35]⟩ : ByteArray) = some (s.extract 0 n, x, y) := by
  have hI : stringslite_Index.f s (⟨#[35]⟩ : ByteArray) = some (Lib.indexByte s.data.toList 35) := by
    unfold stringslite_Index.f
    rw [if_pos (show (⟨#[35]⟩ : ByteArray).size = 1 from rfl)]
    rfl
  have hz : (⟨#[35]⟩ : ByteArray).size = 1 := rfl
  have hge := Lib.indexByte_ge s.data.toList 35
  by_cases h : Lib.indexByte s.data.toList 35 = -1
  · refine ⟨s.size, ⟨#[]⟩, false, ⟨Nat.le_refl _, fun j _ => Lib.indexByte_none h j, .inl rfl⟩, ?_⟩
    unfold strings_Cut.f stringslite_Cut.f
    rw [hI]
    simp only [Option.bind_some]
    rw [h, if_neg (by omega), ext_all]
    rfl
  · obtain ⟨o, ho⟩ : ∃ o : Nat, Lib.indexByte s.data.toList 35 = o := ⟨(Lib.indexByte s.data.toList 35).toNat, by omega⟩
    obtain ⟨g1, g2⟩ := Lib.indexByte_some ho
    have hlt : o < s.size := by
      have := (List.getElem?_eq_some_iff.1 g1).1
      rw [len_data] at this
      exact this
    have hw : wrap64 ((o : Int) + 1) = ((o + 1 : Nat) : Int) := by unfold wrap64; omega
    refine ⟨o, s.extract (o + 1) s.size, true, ⟨by omega, g2, .inr g1⟩, ?_⟩
    unfold strings_Cut.f stringslite_Cut.f
    rw [hI]
    simp only [Option.bind_some]
    rw [ho, hz]
    show (if (o : Int) ≥ 0 then (if 0 ≤ (o : Int) then (if (o : Int) ≤ (s.size : Int) then (if 0 ≤ wrap64 ((o : Int) + 1) then (if wrap64 ((o : Int) + 1) ≤ (s.size : Int) then (some (s.extract 0 (o : Int).toNat, s.extract (wrap64 ((o : Int) + 1) : Int).toNat s.size, true)) else none) else none) else none) else none) else some (s, (⟨#[]⟩ : ByteArray), false)).bind _ = _
    rw [if_pos (by omega), if_pos (by omega), if_pos (by omega), hw, if_pos (by omega), if_pos (by omega), Int.toNat_natCast, Int.toNat_natCast]
    rfl
theorem pre_no (s : ByteArray) (n : Nat) (hF : FirstAt s n) : hasB (s.extract 0 n) 35 = false := by
  obtain ⟨f1, f2, f3⟩ := hF
  unfold hasB
  have e : (s.extract 0 n).data.toList = s.data.toList.take n := by
    rw [ByteArray.data_extract]
    simp
  rw [e, List.any_eq_false]
  intro b hb h
  obtain ⟨j, hj⟩ := List.getElem?_of_mem hb
  have hjn : j < n := by
    have := (List.getElem?_eq_some_iff.1 hj).1
    rw [List.length_take] at this
    omega
  rw [List.getElem?_take, if_pos hjn] at hj
  refine f2 j hjn ?_
  rw [hj]
  congr 1
  apply UInt8.toNat_inj.1
  have h2 : ((b.toNat : Nat) : Int) = 35 := of_decide_eq_true h
  show _ = 35
  omega
theorem ex_size (s : ByteArray) (n : Nat) (h : n ≤ s.size) : (s.extract 0 n).size = n := by rw [ByteArray.size_extract]; omega
end Go.Proofs.YtneaomnlpfeedaaDoor.Pure
