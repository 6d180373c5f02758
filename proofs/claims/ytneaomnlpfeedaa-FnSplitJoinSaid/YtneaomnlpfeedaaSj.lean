/-
  JoinStrings: what program and reference compute, as functions of lists; both are the same. No conditions.
-/
import Derived.Test.YtneaomnlpfeedaaPFnSplitJoinx3
namespace Go.Proofs.Ytneaomnlpfeedaa.Pure
open Go.RowKit Go.Proofs.Ytneaomnlpfeedaa.PFnSplitJoin Go.Proofs.YtneaomnlpfeedaaW.PrintWords Go.Proofs.YtneaomnlpfeedaaW.PrintLast

/-- does a byte stand in a string -/
def hasB (s : ByteArray) (x : Int) : Bool := s.data.toList.any fun b => decide (((b.toNat : Nat) : Int) = x)
def tot (l : List ByteArray) : Nat := (l.map ByteArray.size).sum
theorem tot_nil : tot [] = 0 := rfl
theorem tot_cons (s : ByteArray) (l : List ByteArray) : tot (s :: l) = s.size + tot l := by simp [tot]
theorem rd_mid (pre : List ByteArray) (s : ByteArray) (rest : List ByteArray) (i : Int) (hi : i = pre.length) : rdOf ByteArray.empty (pre ++ s :: rest) i = s := by
  subst hi
  unfold rdOf
  simp [List.getD_eq_getElem?_getD]
theorem len_data (s : ByteArray) : s.data.toList.length = s.size := by
  show s.data.toList.length = s.data.size
  simp
theorem bt_at (s : ByteArray) (i : Nat) (hi : i < s.size) (b : UInt8) (r : List UInt8) (h : s.data.toList.drop i = b :: r) : bt s (i : Int) = ((b.toNat : Nat) : Int) := by
  have h1 : s.data.toList[i]? = some b := by
    have := congrArg (fun l => l[0]?) h
    simpa using this
  unfold bt
  rw [dif_pos (by simpa using hi)]
  have h2 : (s[(i : Int).toNat]'(by simpa using hi)) = b := by
    have h3 : s.data.toList[i]? = some (s.data.toList[i]'(by rw [len_data]; exact hi)) := List.getElem?_eq_getElem _
    rw [h3] at h1
    injection h1
  rw [h2]
theorem stands_l0 (s : ByteArray) (hs : s.size ≤ 4611686018427387904) (x : Int) (d : Nat) : ∀ (k i : Nat), s.size - i = d → i ≤ s.size → d < k →
    spec_l1Stands.l0 k s x (i : Int) = some ((s.data.toList.drop i).any fun b => decide (((b.toNat : Nat) : Int) = x)) := by
  induction d with
  | zero =>
    intro k i hd hi hk
    obtain ⟨k, rfl⟩ : ∃ m, k = m + 1 := ⟨k - 1, by omega⟩
    simp only [spec_l1Stands.l0]; rw [if_neg (by omega), List.drop_eq_nil_of_le (by rw [len_data]; omega)]
    rfl
  | succ d ih =>
    intro k i hd hi hk
    obtain ⟨k, rfl⟩ : ∃ m, k = m + 1 := ⟨k - 1, by omega⟩
    have hlt : i < s.data.toList.length := by rw [len_data]; omega
    have hdr := List.drop_eq_getElem_cons hlt
    have hb := bt_at s i (by omega) _ _ hdr
    have hw : wrap64 ((i : Int) + 1) = ((i + 1 : Nat) : Int) := by unfold wrap64; omega
    simp only [spec_l1Stands.l0]; rw [if_pos (by omega), if_pos (by omega), hb, hdr, List.any_cons, hw, ih k (i + 1) (by omega) (by omega) (by omega)]
    by_cases e : (((s.data.toList[i]).toNat : Nat) : Int) = x
    · rw [if_pos e, decide_eq_true e, Bool.true_or]
    · rw [if_neg e, decide_eq_false e, Bool.false_or]
theorem stands_f (s : ByteArray) (hs : s.size ≤ 4611686018427387904) (x : Int) (k : Nat) (hk : s.size < k) : spec_l1Stands.f k s x = some (hasB s x) := by
  have := stands_l0 s hs x s.size k 0 (by omega) (by omega) hk
  exact this
theorem index_any (l : List UInt8) (c : UInt8) : decide (0 ≤ Lib.indexByte l c) = l.any fun b => decide (((b.toNat : Nat) : Int) = ((c.toNat : Nat) : Int)) := by
  induction l with
  | nil => rfl
  | cons b l ih =>
    have hge := Lib.indexByte_ge l c
    rw [List.any_cons, ← ih]
    show decide (0 ≤ (if (b == c) = true then (0 : Int) else if (Lib.indexByte l c == -1) = true then -1 else Lib.indexByte l c + 1)) = _
    by_cases e : b = c
    · subst e; simp
    · have e1 : ¬ (((b.toNat : Nat) : Int) = ((c.toNat : Nat) : Int)) := fun h => e (UInt8.toNat_inj.1 (by omega))
      have e2 : (b == c) = false := by simpa using e
      rw [e2, decide_eq_false e1, Bool.false_or]
      simp only [Bool.false_eq_true, if_false]
      by_cases h1 : Lib.indexByte l c = -1
      · rw [h1]; rfl
      · have e3 : (Lib.indexByte l c == -1) = false := by simpa using h1
        rw [e3]
        simp only [Bool.false_eq_true, if_false]
        rw [decide_eq_true (by omega), decide_eq_true (by omega)]
theorem contains_f (s p : ByteArray) (hp : p.size = 1) : strings_Contains.f s p = some (hasB s (bt p 0)) := by
  unfold strings_Contains.f
  rw [if_pos hp, index_any]
  obtain ⟨⟨l⟩⟩ := p
  match l, hp with
  | [c], _ => rfl

/-- the reference's loop -/
def spR (p : ByteArray) : List ByteArray → Bool → ByteArray → ByteArray × Bool
  | [], _, acc => (acc, true)
  | s :: r, first, acc => if hasB s (bt p 0) = true then (⟨#[]⟩, false) else
      if (((if first = true then acc else acc ++ p) ++ s).size : Int) > 4000 then (⟨#[]⟩, false) else spR p r false ((if first = true then acc else acc ++ p) ++ s)
/-- the program's loop -/
def imR (p : ByteArray) (J : ByteArray) : List ByteArray → Int → ByteArray × Bool
  | [], n => if n > 4000 then (⟨#[]⟩, false) else (J, true)
  | s :: r, n => if n + s.size > 4000 then (⟨#[]⟩, false) else if hasB s (bt p 0) = true then (⟨#[]⟩, false) else imR p J r (n + s.size)

theorem spec_l0 (p : ByteArray) (hp : p.size = 1) (M : Nat) (hM : M ≤ 2000000) (rest : List ByteArray) : ∀ (pre : List ByteArray) (acc : ByteArray) (k : Nat), (∀ s, s ∈ rest → s.size ≤ M) → acc.size ≤ 4000 → pre.length + rest.length ≤ M → M + rest.length + 1 < k →
    spec_JoinStrings.l0 k (pre ++ rest) p acc (pre.length : Int) = some (spR p rest (decide (pre.length = 0)) acc) := by
  induction rest with
  | nil =>
    intro pre acc k hs ha hl hk
    obtain ⟨k, rfl⟩ : ∃ m, k = m + 1 := ⟨k - 1, by omega⟩
    simp only [spec_JoinStrings.l0]; rw [if_neg (by simp)]
    rfl
  | cons s r ih =>
    intro pre acc k hs ha hl hk
    obtain ⟨k, rfl⟩ : ∃ m, k = m + 1 := ⟨k - 1, by omega⟩
    have hsz := hs s List.mem_cons_self
    rw [List.length_cons] at hl hk
    have hw : wrap64 ((pre.length : Int) + 1) = ((pre ++ [s]).length : Int) := by rw [List.length_append]; simp only [List.length_cons, List.length_nil]; unfold wrap64; omega
    have hL : pre ++ s :: r = (pre ++ [s]) ++ r := by simp
    have hd : decide ((pre ++ [s]).length = 0) = false := by simp
    simp only [spec_JoinStrings.l0]
    rw [if_pos (by rw [List.length_append, List.length_cons]; omega), if_pos (by omega), if_pos (by omega), rd_mid pre s r _ rfl, stands_f s (by omega) _ k (by omega)]
    simp only [Option.bind_some, spR]
    by_cases hb : hasB s (bt p 0) = true
    · rw [if_pos hb, if_pos hb]
    · rw [if_neg hb, if_neg hb]
      by_cases h0 : pre.length = 0
      · rw [if_neg (by omega), decide_eq_true h0]
        simp only [if_true]
        rw [if_pos (by omega)]
        by_cases hg : ((acc ++ s).size : Int) > 4000
        · rw [if_pos hg, if_pos hg]
        · rw [if_neg hg, if_neg hg, hw, hL, ih (pre ++ [s]) (acc ++ s) k (fun t ht => hs t (List.mem_cons_of_mem _ ht)) (by omega) (by rw [List.length_append]; simp; omega) (by omega), hd]
      · rw [if_pos (by omega), decide_eq_false h0]
        simp only [Bool.false_eq_true, if_false]
        rw [if_pos (by omega), if_pos (by rw [ByteArray.size_append]; omega)]
        by_cases hg : ((acc ++ p ++ s).size : Int) > 4000
        · rw [if_pos hg, if_pos hg]
        · rw [if_neg hg, if_neg hg, hw, hL, ih (pre ++ [s]) (acc ++ p ++ s) k (fun t ht => hs t (List.mem_cons_of_mem _ ht)) (by omega) (by rw [List.length_append]; simp; omega) (by omega), hd]
theorem impl_l0 (p : ByteArray) (hp : p.size = 1) (M : Nat) (hM : M ≤ 2000000) (l : List ByteArray) (J : ByteArray) (rest : List ByteArray) : ∀ (pre : List ByteArray) (n : Int) (k : Nat), l = pre ++ rest → (∀ s, s ∈ rest → s.size ≤ M) → (n + tot rest ≤ 4000 → strings_Join.f l p = some J) → 0 ≤ n → n ≤ 4000000 → pre.length + rest.length ≤ M → M + rest.length + 1 < k →
    impl_JoinStrings.l0 k l p n l (l.length : Int) (pre.length : Int) = some (imR p J rest n) := by
  induction rest with
  | nil =>
    intro pre n k he hs hJ h0 h1 hl hk
    obtain ⟨k, rfl⟩ : ∃ m, k = m + 1 := ⟨k - 1, by omega⟩
    have : l.length = pre.length := by rw [he]; simp
    simp only [impl_JoinStrings.l0]; rw [if_neg (by omega)]
    simp only [imR]
    by_cases hg : n > 4000
    · rw [if_pos hg, if_pos hg]
    · rw [if_neg hg, if_neg hg, hJ (by rw [tot_nil]; omega)]
      rfl
  | cons s r ih =>
    intro pre n k he hs hJ h0 h1 hl hk
    obtain ⟨k, rfl⟩ : ∃ m, k = m + 1 := ⟨k - 1, by omega⟩
    have hsz := hs s List.mem_cons_self
    rw [List.length_cons] at hl hk
    have hln : l.length = pre.length + (r.length + 1) := by rw [he]; simp
    have hw : wrap64 ((pre.length : Int) + 1) = ((pre ++ [s]).length : Int) := by rw [List.length_append]; simp only [List.length_cons, List.length_nil]; unfold wrap64; omega
    have hw2 : wrap64 (n + (s.size : Int)) = n + s.size := by unfold wrap64; omega
    have hrd : rdOf ByteArray.empty l (pre.length : Int) = s := by rw [he]; exact rd_mid pre s r _ rfl
    simp only [impl_JoinStrings.l0]
    rw [if_pos (by omega), if_pos (by omega), if_pos (by omega), hrd, hw2]
    simp only [imR]
    by_cases hg : n + (s.size : Int) > 4000
    · rw [if_pos hg, if_pos hg]
    · rw [if_neg hg, if_neg hg, contains_f s p hp]
      simp only [Option.bind_some]
      by_cases hb : hasB s (bt p 0) = true
      · rw [if_pos hb, if_pos hb]
      · rw [if_neg hb, if_neg hb, hw]
        exact ih (pre ++ [s]) (n + s.size) k (by rw [he]; simp) (fun t ht => hs t (List.mem_cons_of_mem _ ht)) (fun h => hJ (by rw [tot_cons]; omega)) (by omega) (by omega) (by rw [List.length_append]; simp; omega) (by omega)

theorem ite_iff {α : Type} {P Q : Prop} [Decidable P] [Decidable Q] {a b : α} (h : P ↔ Q) : (if P then a else b) = if Q then a else b := by
  by_cases hp : P
  · rw [if_pos hp, if_pos (h.1 hp)]
  · rw [if_neg hp, if_neg (fun hq => hp (h.2 hq))]
/-- both loops' answer -/
def tailJ (p : ByteArray) (acc : ByteArray) (r : List ByteArray) : ByteArray := r.foldl (fun a s => a ++ p ++ s) acc
theorem spR_eq (p : ByteArray) (hp : p.size = 1) (r : List ByteArray) : ∀ acc : ByteArray, acc.size ≤ 4000 →
    spR p r false acc = if (r.any fun s => hasB s (bt p 0)) = true ∨ acc.size + tot r + r.length > 4000 then (⟨#[]⟩, false) else (tailJ p acc r, true) := by
  induction r with
  | nil => intro acc ha; rw [if_neg (by simp [tot_nil]; omega)]; rfl
  | cons s r ih =>
    intro acc ha
    have hz : (acc ++ p ++ s).size = acc.size + 1 + s.size := by rw [ByteArray.size_append, ByteArray.size_append, hp]
    simp only [spR, List.any_cons, tot_cons, List.length_cons, Bool.false_eq_true, if_false]
    by_cases hb : hasB s (bt p 0) = true
    · rw [if_pos hb, if_pos (by rw [hb]; exact .inl rfl)]
    · have hb' : hasB s (bt p 0) = false := by simpa using hb
      rw [if_neg hb, hb', Bool.false_or]
      by_cases hg : ((acc ++ p ++ s).size : Int) > 4000
      · rw [if_pos hg, if_pos (.inr (by omega))]
      · rw [if_neg hg, ih _ (by omega), hz]
        exact ite_iff (or_congr Iff.rfl (by omega))
theorem imR_eq (p J : ByteArray) (r : List ByteArray) : ∀ n : Int, 
    imR p J r n = if (r.any fun s => hasB s (bt p 0)) = true ∨ n + tot r > 4000 then (⟨#[]⟩, false) else (J, true) := by
  induction r with
  | nil => intro n; simp only [imR, List.any_nil, tot_nil, Bool.false_eq_true, false_or]; rw [show n + ((0 : Nat) : Int) = n by omega]
  | cons s r ih =>
    intro n
    simp only [imR, List.any_cons, tot_cons]
    by_cases hg : n + (s.size : Int) > 4000
    · rw [if_pos hg, if_pos (.inr (by omega))]
    · rw [if_neg hg]
      by_cases hb : hasB s (bt p 0) = true
      · rw [if_pos hb, if_pos (by rw [hb]; exact .inl rfl)]
      · have hb' : hasB s (bt p 0) = false := by simpa using hb
        rw [if_neg hb, hb', Bool.false_or, ih]
        exact ite_iff (or_congr Iff.rfl (by omega))
theorem tail_data (p : ByteArray) (r : List ByteArray) : ∀ acc : ByteArray, (tailJ p acc r).data.toList = acc.data.toList ++ Lib.joinTail p.data.toList (r.map (·.data.toList)) := by
  induction r with
  | nil => intro acc; simp [tailJ, Lib.joinTail]
  | cons s r ih =>
    intro acc
    have : tailJ p acc (s :: r) = tailJ p (acc ++ p ++ s) r := rfl
    rw [this, ih]
    simp [Lib.joinTail, ByteArray.data_append, List.append_assoc]
theorem join_len (p : ByteArray) (hp : p.size = 1) (r : List ByteArray) : (Lib.joinTail p.data.toList (r.map (·.data.toList))).length = tot r + r.length := by
  induction r with
  | nil => rfl
  | cons s r ih =>
    have h1 : Lib.joinTail p.data.toList ((s :: r).map (·.data.toList)) = (p.data.toList ++ s.data.toList) ++ Lib.joinTail p.data.toList (r.map (·.data.toList)) := by simp [Lib.joinTail]
    rw [h1, List.length_append, List.length_append, ih, tot_cons, List.length_cons, len_data, len_data, hp]
    omega
/-- the one answer -/
theorem both (p : ByteArray) (hp : p.size = 1) (l : List ByteArray) (hl : l ≠ []) (M : Nat) (hM : M ≤ 2000000) (hs : ∀ s, s ∈ l → s.size ≤ M) (hn : l.length ≤ M) (k : Nat) (hk : M + l.length + 1 < k) :
    ∃ a, spec_JoinStrings.l0 k l p ⟨#[]⟩ 0 = some a ∧ impl_JoinStrings.l0 k l p (wrap64 ((l.length : Int) - 1)) l (l.length : Int) 0 = some a := by
  match l, hl with
  | s :: r, _ =>
    rw [List.length_cons] at hn hk
    let J : ByteArray := ⟨(Lib.join ((s :: r).map (·.data.toList)) p.data.toList).toArray⟩
    have hjl : (Lib.join ((s :: r).map (·.data.toList)) p.data.toList).length = s.size + tot r + r.length := by
      rw [List.map_cons, Lib.join_cons, List.length_append, join_len p hp, len_data]
      omega
    have hw : wrap64 (((s :: r).length : Int) - 1) = (r.length : Int) := by rw [List.length_cons]; unfold wrap64; omega
    have e1 := spec_l0 p hp M hM (s :: r) [] ⟨#[]⟩ k hs (by decide) (by simpa using hn) (by simpa using hk)
    have e2 := impl_l0 p hp M hM (s :: r) J (s :: r) [] (r.length : Int) k rfl hs (fun h => by
      unfold strings_Join.f
      rw [tot_cons] at h
      rw [if_pos ⟨by simp, by simp; omega, by rw [hjl]; omega⟩]) (by omega) (by omega) (by simpa using hn) (by simpa using hk)
    rw [hw]
    refine ⟨_, e1, ?_⟩
    refine Eq.trans e2 ?_
    congr 1
    rw [imR_eq]
    simp only [List.length_nil, decide_true, spR, if_true, List.any_cons, tot_cons]
    have hz : ((⟨#[]⟩ : ByteArray) ++ s).size = s.size := by rw [ByteArray.size_append]; exact Nat.zero_add _
    have hes : ((⟨#[]⟩ : ByteArray) ++ s) = s := by apply ByteArray.ext; simp [ByteArray.data_append]
    by_cases hb : hasB s (bt p 0) = true
    · rw [if_pos (by rw [hb]; exact .inl rfl), if_pos hb]
    · have hb' : hasB s (bt p 0) = false := by simpa using hb
      rw [if_neg hb, hb', Bool.false_or]
      by_cases hg : (((⟨#[]⟩ : ByteArray) ++ s).size : Int) > 4000
      · rw [if_pos hg, if_pos (.inr (by omega))]
      · rw [if_neg hg, spR_eq p hp r _ (by omega), hes]
        have e4 : J = tailJ p s r := by
          apply ByteArray.ext
          apply Array.toList_inj.1
          rw [tail_data]
          show (Lib.join ((s :: r).map (·.data.toList)) p.data.toList).toArray.toList = _
          rw [List.map_cons, Lib.join_cons]
        rw [e4]
        exact ite_iff (or_congr Iff.rfl (by omega))
theorem mem_tot (l : List ByteArray) : ∀ s, s ∈ l → s.size ≤ tot l := by
  induction l with
  | nil => intro s hs; cases hs
  | cons a l ih =>
    intro s hs
    rw [tot_cons]
    rcases List.mem_cons.1 hs with rfl | h
    · omega
    · have := ih s h; omega
/-- program and reference answer alike -/
theorem join_f (l : List ByteArray) (p : ByteArray) (hn : l.length + tot l ≤ 1048576) (k : Nat) (hk : 4000000 < k) :
    ∃ a, spec_JoinStrings.f k l p = some a ∧ impl_JoinStrings.f k l p = some a := by
  obtain ⟨k, rfl⟩ : ∃ m, k = m + 1 := ⟨k - 1, by omega⟩
  unfold spec_JoinStrings.f impl_JoinStrings.f
  by_cases hp : p.size = 1
  · rw [if_pos (by omega)]
    by_cases hl : l = []
    · subst hl
      exact ⟨(⟨#[]⟩, false), by simp [spec_JoinStrings.j0], by simp [impl_JoinStrings.j0]⟩
    · have hl0 : l.length ≠ 0 := fun h => hl (List.eq_nil_of_length_eq_zero h)
      obtain ⟨a, e1, e2⟩ := both p hp l hl 1048576 (by omega) (fun s hs => by have := mem_tot l s hs; omega) (by omega) k (by omega)
      have b1 : ((l.length : Int) == 0) = false := by simpa using hl0
      have b2 : ((p.size : Int) != 1) = false := by rw [hp]; rfl
      refine ⟨a, ?_, ?_⟩
      · rw [b1]
        simp only [spec_JoinStrings.j0]
        rw [if_neg (by decide)]
        exact e1
      · rw [if_neg (by omega), b2]
        simp only [impl_JoinStrings.j0]
        rw [if_neg (by decide)]
        exact e2
  · rw [if_neg (by omega)]
    refine ⟨(⟨#[]⟩, false), by simp [spec_JoinStrings.j0], ?_⟩
    have b2 : ((p.size : Int) != 1) = true := by simpa using fun h : (p.size : Int) = 1 => hp (by omega)
    rw [b2]
    by_cases hl : (l.length : Int) = 0
    · rw [if_pos hl]; simp [impl_JoinStrings.j0]
    · rw [if_neg hl]; simp [impl_JoinStrings.j0]
end Go.Proofs.Ytneaomnlpfeedaa.Pure
