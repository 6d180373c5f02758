/-
  Plain facts on a text cut at its slashes: six rows of six signs and what the text then is. No conditions.
-/
import Derived.Lib.SplitLaws
import Derived.Lib.SlTrimSet
import Derived.Lib.IndexBytes
namespace Go.Proofs.YtlemkphajmnbdaaDoor
open Go.Lib
set_option linter.unusedVariables false

/-- a list of bytes cut at the slashes -/
def cutS : List UInt8 → List (List UInt8)
  | [] => [[]]
  | b :: l => if b = 47 then [] :: cutS l else (b :: (cutS l).headD []) :: (cutS l).tail
theorem cutS_ne : ∀ l : List UInt8, cutS l ≠ []
  | [] => by simp [cutS]
  | b :: l => by unfold cutS; split <;> simp
theorem cutS_slash (l : List UInt8) : cutS (47 :: l) = [] :: cutS l := by rw [cutS, if_pos rfl]
theorem cutS_other (b : UInt8) (l : List UInt8) (h : b ≠ 47) : cutS (b :: l) = (b :: (cutS l).headD []) :: (cutS l).tail := by rw [cutS, if_neg h]
theorem splitK_cut : ∀ l : List UInt8, splitK [47] 0 (l.count 47) l = cutS l
  | [] => rfl
  | b :: l => by
      have ih := splitK_cut l
      by_cases hb : b = 47
      · subst hb
        have hix : index (47 :: l) [47] = 0 := by rw [index]; simp [List.isPrefixOf]
        rw [List.count_cons_self, splitK, hix, cutS_slash, ← ih]
        simp
      · have hp : ([47] : List UInt8).isPrefixOf (b :: l) = false := by simp [List.isPrefixOf, Ne.symm hb]
        have hix : index (b :: l) [47] = if index l [47] == -1 then -1 else index l [47] + 1 := by rw [index, hp]; simp
        have hge := index_ge l [47]
        rw [List.count_cons_of_ne hb, cutS_other b l hb, ← ih]
        cases hk : l.count 47 with
        | zero => rfl
        | succ k =>
          rw [splitK, splitK, hix]
          by_cases hm : index l [47] = -1
          · simp [hm]
          · have h1 : ¬ (index l [47] == -1) = true := fun e => hm (beq_iff_eq.1 e)
            have h2 : ¬ (index l [47] + 1 == -1) = true := fun e => by have := beq_iff_eq.1 e; omega
            have h3 : (index l [47] + 1).toNat = (index l [47]).toNat + 1 := by omega
            rw [if_neg h1, if_neg h1, if_neg h2, h3]
            simp
/-- a row of six signs -/
def RowOk (r : List UInt8) : Prop := r.length = 6 ∧ ∀ b ∈ r, b = 35 ∨ b = 46
theorem cut_row : ∀ r : List UInt8, (∀ b ∈ r, b ≠ 47) → cutS r = [r]
  | [], _ => rfl
  | b :: r, h => by
      rw [cutS_other b r (h b List.mem_cons_self), cut_row r (fun c hc => h c (List.mem_cons_of_mem _ hc))]
      rfl
theorem cut_app : ∀ (r l : List UInt8), (∀ b ∈ r, b ≠ 47) → cutS (r ++ 47 :: l) = r :: cutS l
  | [], l, _ => cutS_slash l
  | b :: r, l, h => by
      show cutS (b :: (r ++ 47 :: l)) = (b :: r) :: cutS l
      rw [cutS_other b _ (h b List.mem_cons_self), cut_app r l (fun c hc => h c (List.mem_cons_of_mem _ hc))]
      rfl
/-- what a cut's first piece and the rest are -/
theorem cut_parts : ∀ l : List UInt8, (cutS l = [l] ∧ ∀ b ∈ l, b ≠ 47) ∨ ∃ r m, l = r ++ 47 :: m ∧ cutS l = r :: cutS m ∧ ∀ b ∈ r, b ≠ 47
  | [] => .inl ⟨rfl, by simp⟩
  | b :: l => by
      by_cases hb : b = 47
      · subst hb
        exact .inr ⟨[], l, rfl, cutS_slash l, by simp⟩
      · rcases cut_parts l with ⟨h1, h2⟩ | ⟨r, m, rfl, h2, h3⟩
        · refine .inl ⟨?_, ?_⟩
          · rw [cutS_other b l hb, h1]; rfl
          · intro c hc
            rcases List.mem_cons.1 hc with rfl | hc
            · exact hb
            · exact h2 c hc
        · refine .inr ⟨b :: r, m, rfl, ?_, ?_⟩
          · rw [cutS_other b _ hb, h2]; rfl
          · intro c hc
            rcases List.mem_cons.1 hc with rfl | hc
            · exact hb
            · exact h3 c hc
/-- n + 1 rows of six signs with slashes between -/
def Rows6 : Nat → List UInt8 → Prop
  | 0, l => RowOk l
  | n + 1, l => ∃ r m, l = r ++ 47 :: m ∧ RowOk r ∧ Rows6 n m
theorem RowOk.no {r : List UInt8} (h : RowOk r) : ∀ b ∈ r, b ≠ 47 := fun b hb e => by
  rcases h.2 b hb with h | h <;> (subst e; exact absurd h (by decide))
theorem cut_rows : ∀ (n : Nat) (l : List UInt8), ((cutS l).length = n + 1 ∧ ∀ r ∈ cutS l, RowOk r) ↔ Rows6 n l
  | 0, l => by
      constructor
      · rintro ⟨h1, h2⟩
        rcases cut_parts l with ⟨h3, _⟩ | ⟨r, m, rfl, h3, _⟩
        · exact h2 l (by rw [h3]; exact List.mem_singleton.2 rfl)
        · exfalso
          rw [h3] at h1
          have := cutS_ne m
          simp at h1
          exact this h1
      · intro h
        have h3 := cut_row l (RowOk.no h)
        rw [h3]
        exact ⟨rfl, fun r hr => by rw [List.mem_singleton.1 hr]; exact h⟩
  | n + 1, l => by
      constructor
      · rintro ⟨h1, h2⟩
        rcases cut_parts l with ⟨h3, _⟩ | ⟨r, m, rfl, h3, _⟩
        · exfalso
          rw [h3] at h1
          simp at h1
        · rw [h3] at h1 h2
          exact ⟨r, m, rfl, h2 r List.mem_cons_self, (cut_rows n m).1 ⟨by simpa using h1, fun s hs => h2 s (List.mem_cons_of_mem _ hs)⟩⟩
      · rintro ⟨r, m, rfl, hr, hm⟩
        obtain ⟨h1, h2⟩ := (cut_rows n m).2 hm
        rw [cut_app r m hr.no]
        refine ⟨by simp [h1], fun s hs => ?_⟩
        rcases List.mem_cons.1 hs with rfl | hs
        · exact hr
        · exact h2 s hs
/-- the text by places: every seventh sign is a slash -/
def Text6 (n : Nat) (l : List UInt8) : Prop := l.length = 7 * n + 6 ∧ ∀ i, i < 7 * n + 6 → (i % 7 = 6 → l[i]? = some 47) ∧ (i % 7 < 6 → l[i]? = some 35 ∨ l[i]? = some 46)
theorem rows_text : ∀ (n : Nat) (l : List UInt8), Rows6 n l ↔ Text6 n l
  | 0, l => by
      constructor
      · rintro ⟨h1, h2⟩
        refine ⟨h1, fun i hi => ⟨fun h => by omega, fun _ => ?_⟩⟩
        have hl : i < l.length := by omega
        rw [List.getElem?_eq_getElem hl]
        rcases h2 _ (List.getElem_mem hl) with h | h
        · exact .inl (by rw [h])
        · exact .inr (by rw [h])
      · rintro ⟨h1, h2⟩
        refine ⟨h1, fun b hb => ?_⟩
        obtain ⟨i, hi, rfl⟩ := List.mem_iff_getElem.1 hb
        have := (h2 i (by omega)).2 (by omega)
        rw [List.getElem?_eq_getElem hi] at this
        simpa using this
  | n + 1, l => by
      constructor
      · rintro ⟨r, m, rfl, hr, hm⟩
        obtain ⟨h1, h2⟩ := (rows_text n m).1 hm
        have h6 := hr.1
        refine ⟨by simp [h6, h1]; omega, fun i hi => ?_⟩
        by_cases c : i < 6
        · refine ⟨fun h => by omega, fun _ => ?_⟩
          rw [List.getElem?_append_left (by omega), List.getElem?_eq_getElem (by omega : i < r.length)]
          rcases hr.2 _ (List.getElem_mem (by omega : i < r.length)) with h | h
          · exact .inl (by rw [h])
          · exact .inr (by rw [h])
        · rw [List.getElem?_append_right (by omega), h6]
          by_cases d : i = 6
          · subst d
            exact ⟨fun _ => rfl, fun h => by omega⟩
          · obtain ⟨j, rfl⟩ : ∃ j, i = j + 7 := ⟨i - 7, by omega⟩
            have h3 := h2 j (by omega)
            rw [show j + 7 - 6 = j + 1 by omega, List.getElem?_cons_succ]
            exact ⟨fun h => h3.1 (by omega), fun h => h3.2 (by omega)⟩
      · rintro ⟨h1, h2⟩
        have h7 : l = l.take 6 ++ 47 :: l.drop 7 := by
          have h6 := (h2 6 (by omega)).1 (by omega)
          have hl : 6 < l.length := by omega
          rw [List.getElem?_eq_getElem hl] at h6
          have e : l.drop 6 = 47 :: l.drop 7 := by
            rw [List.drop_eq_getElem_cons hl]
            simp at h6
            rw [h6]
          rw [← e, List.take_append_drop]
        refine ⟨l.take 6, l.drop 7, h7, ⟨by simp; omega, fun b hb => ?_⟩, (rows_text n _).2 ⟨by simp; omega, fun i hi => ?_⟩⟩
        · obtain ⟨i, hi, rfl⟩ := List.mem_iff_getElem.1 hb
          have hi' : i < 6 := by simp at hi; omega
          have := (h2 i (by omega)).2 (by omega)
          rw [List.getElem?_eq_getElem (by omega : i < l.length)] at this
          simpa [List.getElem_take] using this
        · have h3 := h2 (7 + i) (by omega)
          rw [List.getElem?_drop]
          exact ⟨fun h => h3.1 (by omega), fun h => h3.2 (by omega)⟩
/-- row y of a text of rows, its sign x -/
theorem row_at : ∀ (n : Nat) (l : List UInt8), Rows6 n l → ∀ y, y ≤ n → ∀ x, x < 6 → ∃ r, (cutS l)[y]? = some r ∧ r[x]? = l[7 * y + x]?
  | 0, l, h, y, hy, x, hx => by
      have e : y = 0 := by omega
      subst e
      rw [cut_row l (RowOk.no h)]
      exact ⟨l, rfl, by simp⟩
  | n + 1, l, h, y, hy, x, hx => by
      obtain ⟨r, m, rfl, hr, hm⟩ := h
      have h6 := hr.1
      rw [cut_app r m hr.no]
      cases y with
      | zero => exact ⟨r, rfl, by rw [Nat.mul_zero, Nat.zero_add, List.getElem?_append_left (by omega)]⟩
      | succ y =>
        obtain ⟨s, h1, h2⟩ := row_at n m hm y (by omega) x hx
        refine ⟨s, by simpa using h1, ?_⟩
        rw [h2, List.getElem?_append_right (by omega), h6, show 7 * (y + 1) + x - 6 = (7 * y + x) + 1 by omega, List.getElem?_cons_succ]
/-- nothing is left of a row that is trimmed, and it is a row of signs -/
theorem trim_nil (r : List UInt8) : trimS r [35, 46] = [] ↔ ∀ b ∈ r, b = 35 ∨ b = 46 := by
  have hc : ∀ b : UInt8, ([35, 46] : List UInt8).contains b = true ↔ b = 35 ∨ b = 46 := fun b => by simp
  have hd : ∀ l : List UInt8, l.dropWhile (fun b => ([35, 46] : List UInt8).contains b) = [] ↔ ∀ b ∈ l, b = 35 ∨ b = 46 := fun l => by
    induction l with
    | nil => simp
    | cons a l ih =>
      rw [List.dropWhile_cons]
      by_cases h : ([35, 46] : List UInt8).contains a = true
      · rw [if_pos h, ih]
        exact ⟨fun k b hb => (List.mem_cons.1 hb).elim (fun e => e ▸ (hc a).1 h) (k b), fun k b hb => k b (List.mem_cons_of_mem _ hb)⟩
      · rw [if_neg h]
        exact ⟨fun k => by simp at k, fun k => absurd ((hc a).2 (k a List.mem_cons_self)) h⟩
  unfold trimS trimLeftS trimRightS
  rw [hd]
  constructor
  · intro h
    by_cases e : r.reverse.dropWhile (fun b => ([35, 46] : List UInt8).contains b) = []
    · have := (hd r.reverse).1 e
      intro b hb
      exact this b (List.mem_reverse.2 hb)
    · exfalso
      have h1 := List.head_dropWhile_not (p := fun b => ([35, 46] : List UInt8).contains b) (l := r.reverse) e
      have h2 := h _ (List.mem_reverse.2 (List.head_mem e))
      have h3 := (hc _).2 h2
      rw [h3] at h1
      simp at h1
  · intro h b hb
    have h1 : b ∈ r.reverse := by
      have h2 := List.mem_reverse.1 hb
      exact (List.dropWhile_sublist _).subset h2
    exact h b (List.mem_reverse.1 h1)
/-- the shelf's pieces of a text are these -/
theorem splitB_cut (s : ByteArray) : (splitB ⟨#[47]⟩ 0 (countB s ⟨#[47]⟩) s).map (·.data.toList) = cutS s.data.toList := by
  rw [splitB_data, ← splitK_cut]
  show splitK [47] 0 (count s.data.toList [47]) s.data.toList = _
  rw [count_one]
end Go.Proofs.YtlemkphajmnbdaaDoor
