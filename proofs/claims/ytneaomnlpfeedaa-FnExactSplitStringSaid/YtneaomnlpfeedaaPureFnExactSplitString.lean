/-
  The statement FnExactSplitString is proved: for all strings, program and reference split alike, into memory of the call's own. No conditions.
-/
import Derived.Test.YtneaomnlpfeedaaPFnExactSplitStringx2
namespace Go.Proofs.Ytneaomnlpfeedaa.Pure
open Go.RowKit Go.Proofs.Ytneaomnlpfeedaa.PFnExactSplitString Go.Proofs.YtneaomnlpfeedaaW.PrintWords Go.Proofs.YtneaomnlpfeedaaW.PrintLast

theorem split_same (s p : ByteArray) (hp : p.size = 1) (hn : s.size ≤ 4000) (d : Nat) : ∀ (k : Nat) (out : List ByteArray) (f i : Int), 0 ≤ f → f ≤ i → i ≤ s.size → (s.size : Int) - i = d → d < k → (out.length : Int) ≤ i →
    ∃ r, spec_l1Split.l0 k s (bt p 0) out f i = some r ∧ impl_splitAt.l0 k s p out f (s.size : Int) i = some r ∧ r.length ≤ 4001 := by
  induction d with
  | zero =>
    intro k out f i h0 h1 h2 hd hk hl
    obtain ⟨k, rfl⟩ : ∃ m, k = m + 1 := ⟨k - 1, by omega⟩
    refine ⟨out ++ [s.extract f.toNat s.size], ?_, ?_, ?_⟩
    · simp only [spec_l1Split.l0]; rw [if_neg (by omega), if_pos h0, if_pos (by omega), if_pos (by omega)]
    · simp only [impl_splitAt.l0]; rw [if_neg (by omega), if_pos h0, if_pos (by omega), if_pos (by omega)]
    · rw [List.length_append]; simp; omega
  | succ d ih =>
    intro k out f i h0 h1 h2 hd hk hl
    obtain ⟨k, rfl⟩ : ∃ m, k = m + 1 := ⟨k - 1, by omega⟩
    have hlt : i < (s.size : Int) := by omega
    have hw : wrap64 (i + 1) = i + 1 := by unfold wrap64; omega
    by_cases hb : bt s i = bt p 0
    · obtain ⟨r, e1, e2, e3⟩ := ih k (out ++ [s.extract f.toNat i.toNat]) (i + 1) (i + 1) (by omega) (by omega) (by omega) (by omega) (by omega) (by rw [List.length_append]; simp; omega)
      refine ⟨r, ?_, ?_, e3⟩
      · simp only [spec_l1Split.l0]; rw [if_pos hlt, if_pos (by omega), if_pos hb, if_pos h0, if_pos h1, if_pos (by omega), if_pos (by omega), hw]; exact e1
      · simp only [impl_splitAt.l0]; rw [if_pos hlt, if_pos (by omega), if_pos hlt, if_pos (by omega), if_pos hb, if_pos h0, if_pos h1, if_pos (by omega), if_pos (by omega), hw]; exact e2
    · obtain ⟨r, e1, e2, e3⟩ := ih k out f (i + 1) (by omega) (by omega) (by omega) (by omega) (by omega) (by omega)
      refine ⟨r, ?_, ?_, e3⟩
      · simp only [spec_l1Split.l0]; rw [if_pos hlt, if_pos (by omega), if_neg hb, hw]; exact e1
      · simp only [impl_splitAt.l0]; rw [if_pos hlt, if_pos (by omega), if_pos hlt, if_pos (by omega), if_neg hb, hw]; exact e2

theorem eq_same (l : List ByteArray) (hn : l.length ≤ 4001) (d : Nat) : ∀ (k : Nat) (i : Int), 0 ≤ i → i ≤ l.length → (l.length : Int) - i = d → d < k → laws_eqStringS.l0 k l l i = some true := by
  induction d with
  | zero =>
    intro k i h0 h1 hd hk
    obtain ⟨k, rfl⟩ : ∃ m, k = m + 1 := ⟨k - 1, by omega⟩
    simp only [laws_eqStringS.l0]; rw [if_neg (by omega)]
  | succ d ih =>
    intro k i h0 h1 hd hk
    obtain ⟨k, rfl⟩ : ∃ m, k = m + 1 := ⟨k - 1, by omega⟩
    have hw : wrap64 (i + 1) = i + 1 := by unfold wrap64; omega
    simp only [laws_eqStringS.l0]; rw [if_pos (by omega), if_pos (by omega), if_pos (by omega), if_pos trivial, hw]
    exact ih k (i + 1) (by omega) (by omega) (by omega) (by omega)
theorem eq_all (l : List ByteArray) (hn : l.length ≤ 4001) (k : Nat) (hk : 5000 ≤ k) : laws_eqStringS.f k l l = some true := by
  unfold laws_eqStringS.f
  rw [if_pos rfl]
  exact eq_same l hn l.length k 0 (by omega) (by omega) (by omega) (by omega)

theorem nums1 (c : Int) : (strOfNums [c]).size = 1 := by
  unfold strOfNums
  simp [ByteArray.size]
theorem text_some (j : Nat) : ∀ (k : Nat) (n : Int) (t : ByteArray), 0 ≤ n → n ≤ 100000 → n < 10 ^ j → j < k → t.size + j ≤ 1000 → ∃ r, laws_markText.l0 k n t = some r := by
  induction j with
  | zero =>
    intro k n t h0 hx h1 hk ht
    obtain ⟨k, rfl⟩ : ∃ m, k = m + 1 := ⟨k - 1, by omega⟩
    simp only [laws_markText.l0]; rw [if_neg (by simp at h1; omega), if_pos (by omega)]
    exact ⟨_, rfl⟩
  | succ j ih =>
    intro k n t h0 hx h1 hk ht
    obtain ⟨k, rfl⟩ : ∃ m, k = m + 1 := ⟨k - 1, by omega⟩
    by_cases hz : n > 0
    · simp only [laws_markText.l0]; rw [if_pos hz]
      simp only [Option.bind_some]
      have h3 := nums1 ((wrap64 (48 + (Int.tmod n 10))) % 256)
      rw [if_pos (by rw [h3]; omega)]
      have h4 : Int.tdiv n 10 = n / 10 := Int.tdiv_eq_ediv_of_nonneg h0
      have hw : wrap64 (Int.tdiv n 10) = n / 10 := by rw [h4]; unfold wrap64; omega
      rw [hw]
      refine ih k (n / 10) _ (by omega) (by omega) ?_ (by omega) ?_
      · rw [Int.pow_succ] at h1; omega
      · rw [ByteArray.size_append, h3]; omega
    · simp only [laws_markText.l0]; rw [if_neg hz, if_pos (by omega)]
      exact ⟨_, rfl⟩
/-- the text that marks the place n -/
def mt (n : Int) : ByteArray := (laws_markText.f 20 n).getD ByteArray.empty
theorem mt_eq (n : Int) (h0 : 0 < n) (h1 : n ≤ 100000) (k : Nat) (hk : 20 ≤ k) : laws_markText.f k n = some (mt n) := by
  have h2 : ∃ r, laws_markText.f 20 n = some r := by
    unfold laws_markText.f
    rw [if_neg (by omega)]
    exact text_some 6 20 n _ (by omega) h1 (by omega) (by omega) (by simp [ByteArray.size])
  obtain ⟨r, hr⟩ := h2
  have e : mt n = r := by unfold mt; rw [hr]; rfl
  rw [e]
  exact at_rounds (g := fun k => laws_markText.f k n) (fun k => laws_markText.mono n k) hk hr
theorem mark_some (L : Nat) (hL : L ≤ 4001) (d : Nat) : ∀ (k : Nat) (l : List ByteArray) (n i : Int), l.length = L → 0 ≤ i → i ≤ L → (L : Int) - i = d → n = i + 1 → d + 30 < k →
    ∃ l', laws_markStringS.l0 k l n i = some ((L : Int) + 1, l') ∧ l'.length = L ∧ (∀ j : Nat, (j : Int) < i → l'[j]? = l[j]?) ∧ ∀ j : Nat, i ≤ j → j < L → l'[j]? = some (mt (j + 1)) := by
  induction d with
  | zero =>
    intro k l n i hl h0 h1 hd hn hk
    obtain ⟨k, rfl⟩ : ∃ m, k = m + 1 := ⟨k - 1, by omega⟩
    refine ⟨l, ?_, hl, fun j _ => rfl, fun j h2 h3 => by omega⟩
    simp only [laws_markStringS.l0]; rw [if_neg (by omega)]
    rw [show n = (L : Int) + 1 by omega]
  | succ d ih =>
    intro k l n i hl h0 h1 hd hn hk
    obtain ⟨k, rfl⟩ : ∃ m, k = m + 1 := ⟨k - 1, by omega⟩
    have hw : wrap64 (i + 1) = i + 1 := by unfold wrap64; omega
    have hw2 : wrap64 (n + 1) = n + 1 := by unfold wrap64; omega
    obtain ⟨l', e1, e2, e3, e4⟩ := ih k (l.set i.toNat (mt n)) (n + 1) (i + 1) (by rw [List.length_set]; exact hl) (by omega) (by omega) (by omega) (by omega) (by omega)
    refine ⟨l', ?_, e2, ?_, ?_⟩
    · simp only [laws_markStringS.l0]; rw [if_pos (by omega), mt_eq n (by omega) (by omega) k (by omega)]
      simp only [Option.bind_some]
      rw [if_pos h0, hw, hw2]; exact e1
    · intro j hj
      rw [e3 j (by omega), List.getElem?_set, if_neg (by omega)]
    · intro j hj hjL
      by_cases e : (j : Int) = i
      · rw [e3 j (by omega), List.getElem?_set, if_pos (by omega), if_pos (by omega)]
        rw [show n = (j : Int) + 1 by omega]
      · exact e4 j (by omega) hjL
theorem held_some (L : Nat) (hL : L ≤ 4001) (l : List ByteArray) (hl : l.length = L) (hm : ∀ j : Nat, j < L → l[j]? = some (mt (j + 1))) (d : Nat) : ∀ (k : Nat) (n i : Int), 0 ≤ i → i ≤ L → (L : Int) - i = d → n = i + 1 → d + 30 < k →
    laws_heldStringS.l0 k l n i = some ((L : Int) + 1) := by
  induction d with
  | zero =>
    intro k n i h0 h1 hd hn hk
    obtain ⟨k, rfl⟩ : ∃ m, k = m + 1 := ⟨k - 1, by omega⟩
    simp only [laws_heldStringS.l0]; rw [if_neg (by omega)]
    rw [show n = (L : Int) + 1 by omega]
  | succ d ih =>
    intro k n i h0 h1 hd hn hk
    obtain ⟨k, rfl⟩ : ∃ m, k = m + 1 := ⟨k - 1, by omega⟩
    have hw : wrap64 (i + 1) = i + 1 := by unfold wrap64; omega
    have hw2 : wrap64 (n + 1) = n + 1 := by unfold wrap64; omega
    have hr : rdOf ByteArray.empty l i = mt n := by
      unfold rdOf
      rw [List.getD_eq_getElem?_getD, hm i.toNat (by omega)]
      simp only [Option.getD_some]
      congr 1
      omega
    simp only [laws_heldStringS.l0]; rw [if_pos (by omega), if_pos h0, mt_eq n (by omega) (by omega) k (by omega)]
    simp only [Option.bind_some]
    rw [hr, if_pos rfl, hw, hw2]
    exact ih k (n + 1) (i + 1) (by omega) (by omega) (by omega) (by omega) (by omega)

theorem spec_out (s p : ByteArray) (h : ¬ (p.size = 1 ∧ s.size ≤ 4000)) (k : Nat) : spec_SplitString.f k s p = some ([], false) := by
  unfold spec_SplitString.f
  by_cases h1 : (p.size : Int) = 1
  · rw [if_pos h1, if_pos (by omega)]
  · rw [if_neg h1]
theorem impl_out (s p : ByteArray) (h : ¬ (p.size = 1 ∧ s.size ≤ 4000)) (k : Nat) : impl_SplitString.f k s p = some ([], false) := by
  unfold impl_SplitString.f
  by_cases h1 : (s.size : Int) > 4000
  · rw [if_pos h1]
  · rw [if_neg h1, if_neg (by omega)]
theorem both_in (s p : ByteArray) (h1 : p.size = 1) (h2 : s.size ≤ 4000) : ∃ r : List ByteArray, r.length ≤ 4001 ∧ ∀ k, 5000 ≤ k → spec_SplitString.f k s p = some (r, true) ∧ impl_SplitString.f k s p = some (r, true) := by
  obtain ⟨r, e1, e2, e3⟩ := split_same s p h1 h2 s.size 5000 [] 0 0 (by omega) (by omega) (by omega) (by omega) (by omega) (by simp)
  refine ⟨r, e3, fun k hk => ⟨?_, ?_⟩⟩
  · have h := at_rounds (g := fun k => spec_l1Split.f k s (bt p 0)) (fun k => spec_l1Split.mono s (bt p 0) k) hk e1
    unfold spec_SplitString.f
    rw [if_pos (by omega), if_neg (by omega), if_pos (by omega), h]; rfl
  · have h := at_rounds (g := fun k => impl_splitAt.f k s p) (fun k => impl_splitAt.mono s p k) hk e2
    unfold impl_SplitString.f
    rw [if_neg (by omega), if_pos (by omega), h]; rfl
/-- what the law does behind both calls: the same list twice -/
theorem rest_true (s p : ByteArray) (r : List ByteArray) (ok : Bool) (hr : r.length ≤ 4001) (h : ∀ k, 5000 ≤ k → spec_SplitString.f k s p = some (r, ok) ∧ impl_SplitString.f k s p = some (r, ok)) :
    ∃ k, laws_FnExactSplitString.f k s p = some true := by
  refine ⟨6000, ?_⟩
  unfold laws_FnExactSplitString.f
  by_cases h1 : (s.size : Int) > 1048576
  · rw [if_pos h1]
  · rw [if_neg h1]
    by_cases h2 : (p.size : Int) > 1048576
    · rw [if_pos h2]
    · rw [if_neg h2, (h 6000 (by omega)).1, (h 6000 (by omega)).2]
      simp only [Option.bind_some]
      rw [eq_all r hr 6000 (by omega)]
      simp only [Option.bind_some, if_true, bne_self_eq_false]
      obtain ⟨l', e1, e2, e3, e4⟩ := mark_some r.length hr r.length 5999 r 1 0 rfl (by omega) (by omega) (by omega) (by omega) (by omega)
      have g1 := held_some r.length hr l' e2 (fun j hj => e4 j (by omega) hj) r.length 5999 1 0 (by omega) (by omega) (by omega) (by omega) (by omega)
      have g2 := held_some r.length hr l' e2 (fun j hj => e4 j (by omega) hj) r.length 5998 1 0 (by omega) (by omega) (by omega) (by omega) (by omega)
      have g3 : laws_markStringS.f 5999 r 1 = some ((r.length : Int) + 1, l') := e1
      have g4 : laws_heldStringS.f 5999 l' 1 = some ((r.length : Int) + 1) := g1
      have g5 : laws_heldStringS.f 5998 l' 1 = some ((r.length : Int) + 1) := g2
      rw [show (6000 : Nat) = 5999 + 1 from rfl]
      simp only [laws_FnExactSplitString.j0, Bool.false_eq_true, if_false]
      rw [g3]
      simp only [Option.bind_some]
      rw [g4]
      simp only [Option.bind_some]
      rw [if_neg (by omega), if_pos trivial, (h 5999 (by omega)).2]
      simp only [Option.bind_some]
      rw [eq_all r hr 5999 (by omega)]
      simp only [Option.bind_some, if_true, bne_self_eq_false]
      rw [show (5999 : Nat) = 5998 + 1 from rfl]
      simp only [laws_FnExactSplitString.j1, Bool.false_eq_true, if_false]
      rw [g5]
      simp only [Option.bind_some]
      rw [if_neg (by omega), if_pos trivial]

theorem FnExactSplitString : laws_FnExactSplitString.Pure := by
  intro s p _ _
  by_cases h : p.size = 1 ∧ s.size ≤ 4000
  · obtain ⟨r, hr, hh⟩ := both_in s p h.1 h.2
    exact rest_true s p r true hr hh
  · exact rest_true s p [] false (by simp) (fun k _ => ⟨spec_out s p h k, impl_out s p h k⟩)

end Go.Proofs.Ytneaomnlpfeedaa.Pure
