/-
  JoinStrings: the law's own helpers (sizes, copies, comparing) as functions of lists; the law answers true. No conditions.
-/
import Derived.Test.YtneaomnlpfeedaaJa
namespace Go.Proofs.Ytneaomnlpfeedaa.Pure
open Go.RowKit Go.Proofs.Ytneaomnlpfeedaa.PFnExactJoinStrings Go.Proofs.YtneaomnlpfeedaaW.PrintWords Go.Proofs.YtneaomnlpfeedaaW.PrintLast

theorem sz_l0 (rest : List ByteArray) : ∀ (pre : List ByteArray) (n : Int) (k : Nat), (∀ s, s ∈ rest → s.size ≤ 9223372036854775807) → 0 ≤ n → n ≤ 1048576 → pre.length + rest.length ≤ 1048576 → rest.length < k →
    ∃ r, laws_szStringS.l0 k (pre ++ rest) n (pre.length : Int) = some r ∧ (0 ≤ r → (tot rest : Int) ≤ n) := by
  induction rest with
  | nil =>
    intro pre n k hs h0 h1 hl hk
    obtain ⟨k, rfl⟩ : ∃ m, k = m + 1 := ⟨k - 1, by omega⟩
    refine ⟨n, ?_, fun _ => by rw [tot_nil]; omega⟩
    simp only [laws_szStringS.l0]; rw [if_neg (by simp)]
  | cons s r ih =>
    intro pre n k hs h0 h1 hl hk
    obtain ⟨k, rfl⟩ : ∃ m, k = m + 1 := ⟨k - 1, by omega⟩
    have hsz := hs s List.mem_cons_self
    rw [List.length_cons] at hl hk
    have hw : wrap64 ((pre.length : Int) + 1) = ((pre ++ [s]).length : Int) := by rw [List.length_append]; simp only [List.length_cons, List.length_nil]; unfold wrap64; omega
    have hw2 : wrap64 (n - (s.size : Int)) = n - s.size := by unfold wrap64; omega
    have hL : pre ++ s :: r = (pre ++ [s]) ++ r := by simp
    by_cases hg : n - (s.size : Int) < 0
    · refine ⟨-1, ?_, fun h => by omega⟩
      simp only [laws_szStringS.l0]; rw [if_pos (by rw [List.length_append, List.length_cons]; omega), if_pos (by omega), rd_mid pre s r _ rfl, hw2, if_pos hg]
    · obtain ⟨x, e1, e2⟩ := ih (pre ++ [s]) (n - s.size) k (fun t ht => hs t (List.mem_cons_of_mem _ ht)) (by omega) (by omega) (by rw [List.length_append]; simp; omega) (by omega)
      refine ⟨x, ?_, fun h => by have := e2 h; rw [tot_cons]; omega⟩
      simp only [laws_szStringS.l0]; rw [if_pos (by rw [List.length_append, List.length_cons]; omega), if_pos (by omega), rd_mid pre s r _ rfl, hw2, if_neg hg, hw, hL]
      exact e1
theorem sz_f (l : List ByteArray) (hs : ∀ s, s ∈ l → s.size ≤ 9223372036854775807) (hn : l.length ≤ 9223372036854775807) (k : Nat) (hk : 1048576 < k) :
    ∃ r, laws_szStringS.f k l 1048576 = some r ∧ (0 ≤ r → l.length + tot l ≤ 1048576) := by
  have hw : wrap64 (1048576 - (l.length : Int)) = 1048576 - l.length := by unfold wrap64; omega
  unfold laws_szStringS.f
  rw [hw]
  by_cases hg : 1048576 - (l.length : Int) < 0
  · exact ⟨-1, by rw [if_pos hg], fun h => by omega⟩
  · obtain ⟨r, e1, e2⟩ := sz_l0 l [] (1048576 - l.length) k hs (by omega) (by omega) (by simp; omega) (by omega)
    exact ⟨r, by rw [if_neg hg]; exact e1, fun h => by have := e2 h; omega⟩
theorem to_l0 (l : List ByteArray) (hn : l.length ≤ 1048576) (d : Nat) : ∀ (k i : Nat) (x : List ByteArray), l.length - i = d → i ≤ l.length → x.length = l.length → (∀ j, j < i → x[j]? = l[j]?) → d < k → laws_toStringS.l0 k l x (i : Int) = some l := by
  induction d with
  | zero =>
    intro k i x hd hi hx hj hk
    obtain ⟨k, rfl⟩ : ∃ m, k = m + 1 := ⟨k - 1, by omega⟩
    simp only [laws_toStringS.l0]; rw [if_neg (by omega)]
    congr 1
    apply List.ext_getElem?
    intro j
    by_cases hlt : j < i
    · exact hj j hlt
    · rw [List.getElem?_eq_none (by omega), List.getElem?_eq_none (by omega)]
  | succ d ih =>
    intro k i x hd hi hx hj hk
    obtain ⟨k, rfl⟩ : ∃ m, k = m + 1 := ⟨k - 1, by omega⟩
    have hw : wrap64 ((i : Int) + 1) = ((i + 1 : Nat) : Int) := by unfold wrap64; omega
    have hr : rdOf ByteArray.empty l (i : Int) = l[i]'(by omega) := by
      unfold rdOf
      rw [List.getD_eq_getElem?_getD, Int.toNat_natCast, List.getElem?_eq_getElem (by omega)]
      rfl
    simp only [laws_toStringS.l0]; rw [if_pos (by omega), if_pos (by omega), if_pos (by omega), hw, hr, Int.toNat_natCast]
    refine ih k (i + 1) _ (by omega) (by omega) (by rw [List.length_set]; exact hx) (fun j hlt => ?_) (by omega)
    rw [List.getElem?_set]
    by_cases e : i = j
    · subst e
      rw [if_pos rfl, if_pos (by omega), List.getElem?_eq_getElem (by omega)]
    · rw [if_neg e]
      exact hj j (by omega)
theorem to_f (l : List ByteArray) (hn : l.length ≤ 1048576) (k : Nat) (hk : 1048576 < k) : laws_toStringS.f k l = some l := by
  unfold laws_toStringS.f
  rw [if_pos (by omega), if_pos (by omega), Int.toNat_natCast]
  exact to_l0 l hn l.length k 0 _ (by omega) (by omega) (by simp) (fun j hj => by omega) (by omega)
theorem eq_l0 (l : List ByteArray) (hn : l.length ≤ 1048576) (d : Nat) : ∀ (k : Nat) (i : Int), 0 ≤ i → i ≤ l.length → (l.length : Int) - i = d → d < k → laws_eqStringS.l0 k l l i = some true := by
  induction d with
  | zero =>
    intro k i h0 h1 hd hk
    obtain ⟨k, rfl⟩ : ∃ m, k = m + 1 := ⟨k - 1, by omega⟩
    simp only [laws_eqStringS.l0]; rw [if_neg (by omega)]
  | succ d ih =>
    intro k i h0 h1 hd hk
    obtain ⟨k, rfl⟩ : ∃ m, k = m + 1 := ⟨k - 1, by omega⟩
    have hw : wrap64 (i + 1) = i + 1 := by unfold wrap64; omega
    simp only [laws_eqStringS.l0]; rw [if_pos (by omega), if_pos (by omega), if_pos (by omega), if_pos trivial, hw]
    exact ih k (i + 1) (by omega) (by omega) (by omega) (by omega)
theorem eq_f (l : List ByteArray) (hn : l.length ≤ 1048576) (k : Nat) (hk : 1048576 < k) : laws_eqStringS.f k l l = some true := by
  unfold laws_eqStringS.f
  rw [if_pos rfl]
  exact eq_l0 l hn l.length k 0 (by omega) (by omega) (by omega) (by omega)
theorem mem_tot (l : List ByteArray) : ∀ s, s ∈ l → s.size ≤ tot l := by
  induction l with
  | nil => intro s hs; cases hs
  | cons a l ih =>
    intro s hs
    rw [tot_cons]
    rcases List.mem_cons.1 hs with rfl | h
    · omega
    · have := ih s h; omega
/-- program and reference answer alike -/
theorem join_f (l : List ByteArray) (p : ByteArray) (hn : l.length + tot l ≤ 1048576) (k : Nat) (hk : 4000000 < k) :
    ∃ a, spec_JoinStrings.f k l p = some a ∧ impl_JoinStrings.f k l p = some a := by
  obtain ⟨k, rfl⟩ : ∃ m, k = m + 1 := ⟨k - 1, by omega⟩
  unfold spec_JoinStrings.f impl_JoinStrings.f
  by_cases hp : p.size = 1
  · rw [if_pos (by omega)]
    by_cases hl : l = []
    · subst hl
      exact ⟨(⟨#[]⟩, false), by simp [spec_JoinStrings.j0], by simp [impl_JoinStrings.j0]⟩
    · have hl0 : l.length ≠ 0 := fun h => hl (List.eq_nil_of_length_eq_zero h)
      obtain ⟨a, e1, e2⟩ := both p hp l hl 1048576 (by omega) (fun s hs => by have := mem_tot l s hs; omega) (by omega) k (by omega)
      have b1 : ((l.length : Int) == 0) = false := by simpa using hl0
      have b2 : ((p.size : Int) != 1) = false := by rw [hp]; rfl
      refine ⟨a, ?_, ?_⟩
      · rw [b1]
        simp only [spec_JoinStrings.j0]
        rw [if_neg (by decide)]
        exact e1
      · rw [if_neg (by omega), b2]
        simp only [impl_JoinStrings.j0]
        rw [if_neg (by decide)]
        exact e2
  · rw [if_neg (by omega)]
    refine ⟨(⟨#[]⟩, false), by simp [spec_JoinStrings.j0], ?_⟩
    have b2 : ((p.size : Int) != 1) = true := by simpa using fun h : (p.size : Int) = 1 => hp (by omega)
    rw [b2]
    by_cases hl : (l.length : Int) = 0
    · rw [if_pos hl]; simp [impl_JoinStrings.j0]
    · rw [if_neg hl]; simp [impl_JoinStrings.j0]
theorem FnExactJoinStrings (l : List ByteArray) (p : ByteArray) (hs : ∀ s, s ∈ l → s.size ≤ 9223372036854775807) (hn : l.length ≤ 9223372036854775807) : laws_FnExactJoinStrings.f 4000002 l p = some true := by
  unfold laws_FnExactJoinStrings.f
  by_cases h1 : (p.size : Int) > 1048576
  · rw [if_pos h1]
  · rw [if_neg h1]
    obtain ⟨r, e1, e2⟩ := sz_f l hs hn 4000002 (by omega)
    rw [e1]
    simp only [Option.bind_some]
    by_cases h2 : r < 0
    · rw [if_pos h2]
    · have hb := e2 (by omega)
      obtain ⟨a, e3, e4⟩ := join_f l p hb 4000002 (by omega)
      have e5 := to_f l (by omega) 4000002 (by omega)
      have e6 := to_f l (by omega) 4000001 (by omega)
      have e7 := eq_f l (by omega) 4000001 (by omega)
      rw [if_neg h2, e5]
      simp only [Option.bind_some]
      rw [e3]
      simp only [Option.bind_some]
      rw [e4]
      simp only [Option.bind_some, bne_self_eq_false, if_true]
      rw [show (4000002 : Nat) = 4000001 + 1 from rfl]
      simp only [laws_FnExactJoinStrings.j0, Bool.false_eq_true, if_false]
      rw [e6]
      simp only [Option.bind_some]
      rw [e7]
      simp only [Option.bind_some, if_true]
end Go.Proofs.Ytneaomnlpfeedaa.Pure
