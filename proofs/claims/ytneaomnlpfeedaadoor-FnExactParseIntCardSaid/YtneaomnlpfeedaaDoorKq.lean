/-
  ParseInt: the law answers true. No conditions.
-/
import Derived.Test.YtneaomnlpfeedaaDoorKp
namespace Go.Proofs.YtneaomnlpfeedaaDoor.Pure
open Go.RowKit Go.Proofs.YtneaomnlpfeedaaDoor.PFnExactParseInt Go.Proofs.YtneaomnlpfeedaaDoorW.PrintWords Go.Proofs.YtneaomnlpfeedaaDoorW.PrintLast

theorem bt_zero (s : ByteArray) (c : UInt8) (r : List UInt8) (h : s.data.toList = c :: r) : bt s 0 = ((c.toNat : Nat) : Int) := by
  have hl : 0 < s.size := by rw [← len_data, h]; simp
  exact bt_at s 0 hl c r (by rw [h]; rfl)
/-- where the reference reads a number, the string is that number's text -/
theorem fin_true (s t : ByteArray) (m : Nat) (n : Int) (h : fin s t m = (n, true)) : Lib.itoa n = s.data.toList ∧ (n = m ∨ n = -(m : Int)) := by
  unfold fin at h
  by_cases h1 : (t.size : Int) < (s.size : Int)
  · rw [if_pos h1] at h
    by_cases h2 : Lib.itoa (-(m : Int)) = s.data.toList
    · rw [if_pos h2] at h
      injection h with h3 _
      subst h3
      exact ⟨h2, .inr rfl⟩
    · rw [if_neg h2] at h
      injection h with _ h4
      cases h4
  · rw [if_neg h1] at h
    by_cases h2 : Lib.itoa (m : Int) = s.data.toList
    · rw [if_pos h2] at h
      injection h with h3 _
      subst h3
      exact ⟨h2, .inl rfl⟩
    · rw [if_neg h2] at h
      injection h with _ h4
      cases h4
theorem fin_two (s t : ByteArray) (m : Int) : (∃ n, fin s t m = (n, true)) ∨ fin s t m = (0, false) := by
  unfold fin
  split <;> split <;> first | exact .inl ⟨_, rfl⟩ | exact .inr rfl
theorem vl_lt (l : List UInt8) : ∀ acc v i, vl acc l = some v → acc < 10 ^ i → v < 10 ^ (i + l.length) := by
  induction l with
  | nil => intro acc v i h ha; simp only [vl, Option.some.injEq] at h; subst h; simpa using ha
  | cons c r ih =>
    intro acc v i h ha
    simp only [vl] at h
    by_cases hc : 48 ≤ c.toNat ∧ c.toNat ≤ 57
    · rw [if_pos hc] at h
      have := ih _ v (i + 1) h (by rw [Nat.pow_succ]; omega)
      rw [List.length_cons, show i + (r.length + 1) = i + 1 + r.length by omega]
      exact this
    · rw [if_neg hc] at h; cases h
/-- the program's answer is the reference's -/
theorem both (s : ByteArray) (k : Nat) (hk : 70 < k) : spec_l1Read.f k s = some (pfI s) := by
  obtain ⟨t, ht, e⟩ := read_eq s k hk
  rw [e]
  congr 1
  -- the number that the string is the text of, if there is one, is read by both
  have main : ∀ v : Int, -999999 ≤ v → v ≤ 999999 → Lib.itoa v = s.data.toList → (if 1 ≤ t.size ∧ t.size ≤ 6 then rdR s t else (0, false)) = (v, true) := by
    intro v h0 h1 hv
    by_cases h : v < 0
    · obtain ⟨u, rfl⟩ : ∃ u : Nat, v = -(u : Int) := ⟨v.natAbs, by omega⟩
      obtain ⟨e1, e2, e3⟩ := vl_dec 5 u (by omega)
      rw [Lib.itoa_neg u (by omega)] at hv
      have hb := bt_zero s 45 _ hv.symm
      have hsz : s.size = (Lib.decDigits u).length + 1 := by rw [← len_data, ← hv]; simp
      have hcond : s.size > 1 ∧ bt s 0 = 45 := ⟨by omega, hb⟩
      have htl : t.data.toList = Lib.decDigits u := by
        rcases ht with ⟨_, hn⟩ | ⟨_, ht⟩
        · exact absurd hcond hn
        · rw [ht, ← hv]; rfl
      have htz : t.size = (Lib.decDigits u).length := by rw [← len_data, htl]
      rw [if_pos ⟨by omega, by omega⟩]
      unfold rdR
      rw [htl, e1]
      show fin s t (u : Int) = _
      unfold fin
      rw [if_pos (by omega), if_pos (by rw [Lib.itoa_neg u (by omega)]; exact hv)]
    · obtain ⟨u, rfl⟩ : ∃ u : Nat, v = (u : Int) := ⟨v.toNat, by omega⟩
      obtain ⟨e1, e2, e3⟩ := vl_dec 5 u (by omega)
      have hv0 := hv
      rw [Lib.itoa_nonneg] at hv
      have hsz : s.size = (Lib.decDigits u).length := by rw [← len_data, ← hv]
      have hcond : ¬ (s.size > 1 ∧ bt s 0 = 45) := by
        rintro ⟨_, hb⟩
        match hd : Lib.decDigits u, e1, e3, hv with
        | [], _, e3, _ => simp at e3
        | c :: r, e1, _, hv =>
          have hc := vl_head c r u e1
          have := bt_zero s c r hv.symm
          omega
      have htl : t.data.toList = Lib.decDigits u := by
        rcases ht with ⟨ht, _⟩ | ⟨hn, _⟩
        · rw [ht, ← hv]
        · exact absurd hn hcond
      have htz : t.size = (Lib.decDigits u).length := by rw [← len_data, htl]
      rw [if_pos ⟨by omega, by omega⟩]
      unfold rdR
      rw [htl, e1]
      show fin s t (u : Int) = _
      unfold fin
      rw [if_neg (by omega), if_pos hv0]
  by_cases hx : ∃ v : Int, -999999 ≤ v ∧ v ≤ 999999 ∧ Lib.itoa v = s.data.toList
  · obtain ⟨v, h0, h1, hv⟩ := hx
    rw [main v h0 h1 hv]
    unfold pfI
    rw [← hv, atoi_itoa v h0 h1]
    simp [h0, h1]
  · have hp : pfI s = (0, false) := by
      unfold pfI
      cases hq : Lib.atoiAll s.data.toList
      · rename_i v
        simp only
        rw [if_neg (fun hh => hx ⟨v, hh⟩)]
      · rfl
      · rfl
    rw [hp]
    by_cases hz : 1 ≤ t.size ∧ t.size ≤ 6
    · rw [if_pos hz]
      unfold rdR
      cases hq : vl 0 t.data.toList with
      | none => rfl
      | some m =>
        show fin s t (m : Int) = _
        rcases fin_two s t (m : Int) with ⟨n, hn⟩ | hn
        · exfalso
          obtain ⟨g1, g2⟩ := fin_true s t m n hn
          have g3 := vl_lt _ 0 m 0 hq (by decide)
          rw [len_data, Nat.zero_add] at g3
          have g4 : 10 ^ t.size ≤ 10 ^ 6 := Nat.pow_le_pow_right (Nat.succ_pos 9) hz.2
          have g5 : m < 1000000 := Nat.lt_of_lt_of_le g3 g4
          exact hx ⟨n, by omega, by omega, g1⟩
        · exact hn
    · rw [if_neg hz]
theorem FnExactParseInt (s : ByteArray) : laws_FnExactParseInt.f 90 s = some true := by
  unfold laws_FnExactParseInt.f
  by_cases hb : (s.size : Int) > 1048576
  · rw [if_pos hb]
  · rw [if_neg hb]
    unfold spec_ParseInt.f
    rw [both s 90 (by omega)]
    simp only [Option.bind_some]
    unfold impl_ParseInt.f
    rw [if_pos (by omega)]
    simp only [Option.bind_some, if_true, bne_self_eq_false, Bool.false_eq_true, if_false]
end Go.Proofs.YtneaomnlpfeedaaDoor.Pure
