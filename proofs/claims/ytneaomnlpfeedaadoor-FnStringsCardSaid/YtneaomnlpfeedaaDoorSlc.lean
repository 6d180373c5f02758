/-
  FnStrings: both sides read numbers alike. No conditions.
-/
import Derived.Test.YtneaomnlpfeedaaDoorSlb
import Derived.Lib.AtoiAll
namespace Go.Proofs.YtneaomnlpfeedaaDoor.Pure
open Go.RowKit Go.Proofs.YtneaomnlpfeedaaDoor.PFnStrings Go.Proofs.YtneaomnlpfeedaaDoorW.PrintWords Go.Proofs.YtneaomnlpfeedaaDoorW.PrintLast
set_option linter.unusedVariables false
set_option linter.unusedSimpArgs false


/-- the number that digits spell -/
def vl (acc : Nat) : List UInt8 → Option Nat
  | [] => some acc
  | c :: r => if 48 ≤ c.toNat ∧ c.toNat ≤ 57 then vl (acc * 10 + (c.toNat - 48)) r else none
theorem vl_ge (l : List UInt8) : ∀ acc v, vl acc l = some v → acc ≤ v := by
  induction l with
  | nil => intro acc v h; simp only [vl, Option.some.injEq] at h; omega
  | cons c r ih =>
    intro acc v h
    simp only [vl] at h
    by_cases hc : 48 ≤ c.toNat ∧ c.toNat ≤ 57
    · rw [if_pos hc] at h
      have := ih _ _ h
      omega
    · rw [if_neg hc] at h; cases h
theorem vl_parse (l : List UInt8) : ∀ acc v, vl acc l = some v → v ≤ 10000000 → Lib.parseUint10 acc l = .ok v := by
  induction l with
  | nil => intro acc v h _; simp only [vl, Option.some.injEq] at h; subst h; rfl
  | cons c r ih =>
    intro acc v h hv
    simp only [vl] at h
    by_cases hc : 48 ≤ c.toNat ∧ c.toNat ≤ 57
    · rw [if_pos hc] at h
      have h2 := vl_ge _ _ _ h
      simp only [Lib.parseUint10]
      rw [if_pos hc, if_neg (by omega), if_neg (by omega)]
      exact ih _ _ h hv
    · rw [if_neg hc] at h; cases h
theorem vl_snoc (l : List UInt8) (c : UInt8) : ∀ acc, vl acc (l ++ [c]) = (vl acc l).bind fun a => vl a [c] := by
  induction l with
  | nil => intro acc; rfl
  | cons b r ih =>
    intro acc
    simp only [List.cons_append, vl]
    by_cases hc : 48 ≤ b.toNat ∧ b.toNat ≤ 57
    · rw [if_pos hc, if_pos hc]; exact ih _
    · rw [if_neg hc, if_neg hc]; rfl
theorem dig_byte : ∀ u : Fin 10, (UInt8.ofNat (48 + u.val)).toNat = 48 + u.val := by decide +kernel
theorem vl_one (acc u : Nat) (h : u < 10) : vl acc [UInt8.ofNat (48 + u)] = some (acc * 10 + u) := by
  have e : (UInt8.ofNat (48 + u)).toNat = 48 + u := dig_byte ⟨u, h⟩
  simp only [vl]
  rw [e, if_pos ⟨by omega, by omega⟩]
  congr 1
  omega
theorem vl_dec (d : Nat) : ∀ u, u < 10 ^ (d + 1) → vl 0 (Lib.decDigits u) = some u ∧ (Lib.decDigits u).length ≤ d + 1 ∧ 1 ≤ (Lib.decDigits u).length := by
  induction d with
  | zero =>
    intro u h
    rw [Lib.decDigits_one (by omega), vl_one 0 u (by omega)]
    exact ⟨by congr 1; omega, by simp, by simp⟩
  | succ d ih =>
    intro u h
    by_cases h10 : u < 10
    · rw [Lib.decDigits_one h10, vl_one 0 u h10]
      exact ⟨by congr 1; omega, by simp, by simp⟩
    · have h2 : u / 10 < 10 ^ (d + 1) := by rw [Nat.pow_succ] at h; omega
      obtain ⟨e1, e2, e3⟩ := ih (u / 10) h2
      rw [Lib.decDigits, dif_neg h10, vl_snoc, e1]
      refine ⟨?_, by rw [List.length_append]; simp; omega, by rw [List.length_append]; simp⟩
      show vl (u / 10) _ = _
      rw [vl_one _ _ (by omega)]
      congr 1
      omega
theorem vl_head (c : UInt8) (r : List UInt8) (v : Nat) (h : vl 0 (c :: r) = some v) : 48 ≤ c.toNat := by
  simp only [vl] at h
  by_cases hc : 48 ≤ c.toNat ∧ c.toNat ≤ 57
  · exact hc.1
  · rw [if_neg hc] at h; cases h
/-- the library reads its own text -/
theorem atoi_itoa (v : Int) (h0 : -999999 ≤ v) (h1 : v ≤ 999999) : Lib.atoiAll (Lib.itoa v) = .ok v := by
  by_cases h : v < 0
  · obtain ⟨u, rfl⟩ : ∃ u : Nat, v = -(u : Int) := ⟨v.natAbs, by omega⟩
    obtain ⟨e1, _, e3⟩ := vl_dec 5 u (by omega)
    have hp := vl_parse _ _ _ e1 (by omega)
    have hn : Lib.decDigits u ≠ [] := fun hh => by rw [hh] at e3; simp at e3
    rw [Lib.itoa_neg u (by omega)]
    have hm : Lib.parseMag (Lib.decDigits u) = .ok u := by unfold Lib.parseMag; rw [if_neg hn]; exact hp
    simp only [Lib.atoiAll]
    rw [if_pos (show (45 : UInt8).toNat = 43 ∨ (45 : UInt8).toNat = 45 from .inr rfl), hm]
    simp only
    rw [if_neg (fun hh => hh.1 rfl), if_neg (fun hh => by have := hh.2; omega), if_pos (show (45 : UInt8).toNat = 45 from rfl)]
  · obtain ⟨u, rfl⟩ : ∃ u : Nat, v = (u : Int) := ⟨v.toNat, by omega⟩
    obtain ⟨e1, _, e3⟩ := vl_dec 5 u (by omega)
    have hp := vl_parse _ _ _ e1 (by omega)
    rw [Lib.itoa_nonneg]
    match hd : Lib.decDigits u, e1, e3, hp with
    | [], _, e3, _ => simp at e3
    | c :: r, e1, _, hp =>
      have hc := vl_head c r u e1
      have hm : Lib.parseMag (c :: r) = .ok u := by unfold Lib.parseMag; rw [if_neg (by simp)]; exact hp
      simp only [Lib.atoiAll]
      rw [if_neg (show ¬ (c.toNat = 43 ∨ c.toNat = 45) by omega), hm]
      simp only
      rw [if_neg (fun hh => by have := hh.2; omega), if_neg (fun hh => by have := hh.1; omega), if_neg (show ¬ c.toNat = 45 by omega)]
/-- what the reference answers behind its loop -/
def fin (s t : ByteArray) (m : Int) : Int × Bool :=
  if (t.size : Int) < (s.size : Int) then (if Lib.itoa (-m) = s.data.toList then (-m, true) else (0, false)) else (if Lib.itoa m = s.data.toList then (m, true) else (0, false))
def rdR (s t : ByteArray) : Int × Bool := match vl 0 t.data.toList with | some m => fin s t m | none => (0, false)
theorem eqz (n : Int) (s : ByteArray) : ((⟨(Lib.itoa n).toArray⟩ : ByteArray).toList = s.toList) = (Lib.itoa n = s.data.toList) := by rw [ByteArray.toList_eq, ByteArray.toList_eq]
theorem read_l0 (s t : ByteArray) (ht : t.size ≤ 6) (d : Nat) : ∀ (k i n : Nat), t.size - i = d → i ≤ t.size → n < 10 ^ i → d + 30 < k →
    spec_l1Read.l0 k s t (n : Int) (i : Int) = some (match vl n (t.data.toList.drop i) with | some m => fin s t m | none => (0, false)) := by
  have hpow : ∀ i, i ≤ 6 → 10 ^ i ≤ 1000000 := fun i hi => Nat.le_trans (Nat.pow_le_pow_right (Nat.succ_pos 9) hi) (Nat.le_refl (10 ^ 6))
  induction d with
  | zero =>
    intro k i n hd hi hn hk
    obtain ⟨k, rfl⟩ : ∃ m, k = m + 1 := ⟨k - 1, by omega⟩
    have := hpow i (by omega)
    have hw : wrap64 (-(n : Int)) = -(n : Int) := by unfold wrap64; omega
    simp only [spec_l1Read.l0]
    rw [if_neg (by omega), List.drop_eq_nil_of_le (by rw [len_data]; omega), hw, num_f (-(n : Int)) (by omega) (by omega) k (by omega), num_f (n : Int) (by omega) (by omega) k (by omega)]
    simp only [Option.bind_some, vl, fin, eqz]
    by_cases h1 : (t.size : Int) < (s.size : Int)
    · rw [if_pos h1, if_pos h1]
      by_cases h2 : Lib.itoa (-(n : Int)) = s.data.toList
      · rw [if_pos h2, if_pos h2]
      · rw [if_neg h2, if_neg h2]
    · rw [if_neg h1, if_neg h1]
      by_cases h2 : Lib.itoa (n : Int) = s.data.toList
      · rw [if_pos h2, if_pos h2]
      · rw [if_neg h2, if_neg h2]
  | succ d ih =>
    intro k i n hd hi hn hk
    obtain ⟨k, rfl⟩ : ∃ m, k = m + 1 := ⟨k - 1, by omega⟩
    have hP := hpow i (by omega)
    have hlt : i < t.data.toList.length := by rw [len_data]; omega
    have hdr := List.drop_eq_getElem_cons hlt
    have hb := bt_at t i (by omega) _ _ hdr
    have h8 := (t.data.toList[i]).toNat_lt
    have g1 : t.size - (i + 1) = d := by clear ih hb hdr; omega
    have g2 : i + 1 ≤ t.size := by clear ih hb hdr; omega
    have g3 : d + 30 < k := by clear ih hb hdr; omega
    simp only [spec_l1Read.l0]
    rw [if_pos (by omega), if_pos (by omega), hb, hdr]
    simp only [vl]
    generalize (t.data.toList[i]).toNat = c at *
    clear hb hdr
    by_cases h1 : ((c : Nat) : Int) < 48
    · rw [if_pos h1, if_neg (by omega)]
    · rw [if_neg h1]
      by_cases h2 : ((c : Nat) : Int) > 57
      · rw [if_pos h2, if_neg (by omega)]
      · rw [if_neg h2, if_pos ⟨by omega, by omega⟩]
        have hw : wrap64 ((i : Int) + 1) = ((i + 1 : Nat) : Int) := by unfold wrap64; omega
        have hm : ((c : Int) - 48) % 256 = ((c - 48 : Nat) : Int) := by omega
        have hw2 : wrap64 (10 * (n : Int)) = ((n * 10 : Nat) : Int) := by
          have h3 : n ≤ 1000000 := by omega
          clear hn hP h8 hm hw
          unfold wrap64; omega
        have hw3 : wrap64 (((n * 10 : Nat) : Int) + ((c - 48 : Nat) : Int)) = ((n * 10 + (c - 48) : Nat) : Int) := by
          have h3 : n ≤ 1000000 := by omega
          clear hn hP h8 hm hw hw2
          unfold wrap64; omega
        rw [hw, hm, hw2, hw3]
        have q : n * 10 + (c - 48) < 10 ^ (i + 1) := by
          rw [Nat.pow_succ]
          clear ih hw hm hw2 hw3 hP hlt h1
          omega
        exact ih k (i + 1) (n * 10 + (c - 48)) g1 g2 q g3
theorem j1_eq (s t : ByteArray) (k : Nat) (hk : 60 < k) : spec_l1Read.j1 k s t = some (if 1 ≤ t.size ∧ t.size ≤ 6 then rdR s t else (0, false)) := by
  obtain ⟨k, rfl⟩ : ∃ m, k = m + 1 := ⟨k - 1, by omega⟩
  simp only [spec_l1Read.j1, spec_l1In.f]
  by_cases h1 : 1 ≤ t.size
  · rw [if_pos (by omega)]
    simp only [Option.bind_some, decide_eq_true_eq]
    by_cases h2 : t.size ≤ 6
    · rw [if_pos (by omega), if_pos ⟨h1, h2⟩]
      have := read_l0 s t h2 t.size k 0 0 (by omega) (by omega) (by decide) (by omega)
      exact this
    · rw [if_neg (by omega), if_neg (fun hh => h2 hh.2)]
  · rw [if_neg (by omega), if_neg (fun hh => h1 hh.1)]
    rfl
/-- the reference's answer, with its rounds -/
theorem read_eq (s : ByteArray) (k : Nat) (hk : 70 < k) : ∃ t : ByteArray, (t.data.toList = s.data.toList ∧ ¬ (s.size > 1 ∧ bt s 0 = 45) ∨ (s.size > 1 ∧ bt s 0 = 45) ∧ t.data.toList = s.data.toList.drop 1) ∧
    spec_l1Read.f k s = some (if 1 ≤ t.size ∧ t.size ≤ 6 then rdR s t else (0, false)) := by
  obtain ⟨k, rfl⟩ : ∃ m, k = m + 1 := ⟨k - 1, by omega⟩
  unfold spec_l1Read.f
  by_cases h1 : (s.size : Int) > 1
  · rw [if_pos h1, if_pos (by omega)]
    simp only [spec_l1Read.j0]
    by_cases h2 : bt s 0 = 45
    · refine ⟨s.extract 1 s.size, .inr ⟨⟨by omega, h2⟩, ?_⟩, ?_⟩
      · rw [ByteArray.data_extract]
        simp [List.take_of_length_le]
      · rw [if_pos (by rw [h2]; rfl), if_pos (by omega)]
        exact j1_eq s _ k (by omega)
    · refine ⟨s, .inl ⟨rfl, fun hh => h2 hh.2⟩, ?_⟩
      rw [if_neg (by simpa using h2)]
      exact j1_eq s _ k (by omega)
  · refine ⟨s, .inl ⟨rfl, fun hh => h1 (by omega)⟩, ?_⟩
    rw [if_neg h1]
    simp only [spec_l1Read.j0, Bool.false_eq_true, if_false]
    exact j1_eq s _ k (by omega)

theorem bt_zero (s : ByteArray) (c : UInt8) (r : List UInt8) (h : s.data.toList = c :: r) : bt s 0 = ((c.toNat : Nat) : Int) := by
  have hl : 0 < s.size := by rw [← len_data, h]; simp
  exact bt_at s 0 hl c r (by rw [h]; rfl)
/-- where the reference reads a number, the string is that number's text -/
theorem fin_true (s t : ByteArray) (m : Nat) (n : Int) (h : fin s t m = (n, true)) : Lib.itoa n = s.data.toList ∧ (n = m ∨ n = -(m : Int)) := by
  unfold fin at h
  by_cases h1 : (t.size : Int) < (s.size : Int)
  · rw [if_pos h1] at h
    by_cases h2 : Lib.itoa (-(m : Int)) = s.data.toList
    · rw [if_pos h2] at h
      injection h with h3 _
      subst h3
      exact ⟨h2, .inr rfl⟩
    · rw [if_neg h2] at h
      injection h with _ h4
      cases h4
  · rw [if_neg h1] at h
    by_cases h2 : Lib.itoa (m : Int) = s.data.toList
    · rw [if_pos h2] at h
      injection h with h3 _
      subst h3
      exact ⟨h2, .inl rfl⟩
    · rw [if_neg h2] at h
      injection h with _ h4
      cases h4
theorem fin_two (s t : ByteArray) (m : Int) : (∃ n, fin s t m = (n, true)) ∨ fin s t m = (0, false) := by
  unfold fin
  split <;> split <;> first | exact .inl ⟨_, rfl⟩ | exact .inr rfl
theorem vl_lt (l : List UInt8) : ∀ acc v i, vl acc l = some v → acc < 10 ^ i → v < 10 ^ (i + l.length) := by
  induction l with
  | nil => intro acc v i h ha; simp only [vl, Option.some.injEq] at h; subst h; simpa using ha
  | cons c r ih =>
    intro acc v i h ha
    simp only [vl] at h
    by_cases hc : 48 ≤ c.toNat ∧ c.toNat ≤ 57
    · rw [if_pos hc] at h
      have := ih _ v (i + 1) h (by rw [Nat.pow_succ]; omega)
      rw [List.length_cons, show i + (r.length + 1) = i + 1 + r.length by omega]
      exact this
    · rw [if_neg hc] at h; cases h
/-- the program's answer is the reference's -/
theorem both (s : ByteArray) (k : Nat) (hk : 70 < k) : spec_l1Read.f k s = some (pfI s) := by
  obtain ⟨t, ht, e⟩ := read_eq s k hk
  rw [e]
  congr 1
  -- the number that the string is the text of, if there is one, is read by both
  have main : ∀ v : Int, -999999 ≤ v → v ≤ 999999 → Lib.itoa v = s.data.toList → (if 1 ≤ t.size ∧ t.size ≤ 6 then rdR s t else (0, false)) = (v, true) := by
    intro v h0 h1 hv
    by_cases h : v < 0
    · obtain ⟨u, rfl⟩ : ∃ u : Nat, v = -(u : Int) := ⟨v.natAbs, by omega⟩
      obtain ⟨e1, e2, e3⟩ := vl_dec 5 u (by omega)
      rw [Lib.itoa_neg u (by omega)] at hv
      have hb := bt_zero s 45 _ hv.symm
      have hsz : s.size = (Lib.decDigits u).length + 1 := by rw [← len_data, ← hv]; simp
      have hcond : s.size > 1 ∧ bt s 0 = 45 := ⟨by omega, hb⟩
      have htl : t.data.toList = Lib.decDigits u := by
        rcases ht with ⟨_, hn⟩ | ⟨_, ht⟩
        · exact absurd hcond hn
        · rw [ht, ← hv]; rfl
      have htz : t.size = (Lib.decDigits u).length := by rw [← len_data, htl]
      rw [if_pos ⟨by omega, by omega⟩]
      unfold rdR
      rw [htl, e1]
      show fin s t (u : Int) = _
      unfold fin
      rw [if_pos (by omega), if_pos (by rw [Lib.itoa_neg u (by omega)]; exact hv)]
    · obtain ⟨u, rfl⟩ : ∃ u : Nat, v = (u : Int) := ⟨v.toNat, by omega⟩
      obtain ⟨e1, e2, e3⟩ := vl_dec 5 u (by omega)
      have hv0 := hv
      rw [Lib.itoa_nonneg] at hv
      have hsz : s.size = (Lib.decDigits u).length := by rw [← len_data, ← hv]
      have hcond : ¬ (s.size > 1 ∧ bt s 0 = 45) := by
        rintro ⟨_, hb⟩
        match hd : Lib.decDigits u, e1, e3, hv with
        | [], _, e3, _ => simp at e3
        | c :: r, e1, _, hv =>
          have hc := vl_head c r u e1
          have := bt_zero s c r hv.symm
          omega
      have htl : t.data.toList = Lib.decDigits u := by
        rcases ht with ⟨ht, _⟩ | ⟨hn, _⟩
        · rw [ht, ← hv]
        · exact absurd hn hcond
      have htz : t.size = (Lib.decDigits u).length := by rw [← len_data, htl]
      rw [if_pos ⟨by omega, by omega⟩]
      unfold rdR
      rw [htl, e1]
      show fin s t (u : Int) = _
      unfold fin
      rw [if_neg (by omega), if_pos hv0]
  by_cases hx : ∃ v : Int, -999999 ≤ v ∧ v ≤ 999999 ∧ Lib.itoa v = s.data.toList
  · obtain ⟨v, h0, h1, hv⟩ := hx
    rw [main v h0 h1 hv]
    unfold pfI
    rw [← hv, atoi_itoa v h0 h1]
    simp [h0, h1]
  · have hp : pfI s = (0, false) := by
      unfold pfI
      cases hq : Lib.atoiAll s.data.toList
      · rename_i v
        simp only
        rw [if_neg (fun hh => hx ⟨v, hh⟩)]
      · rfl
      · rfl
    rw [hp]
    by_cases hz : 1 ≤ t.size ∧ t.size ≤ 6
    · rw [if_pos hz]
      unfold rdR
      cases hq : vl 0 t.data.toList with
      | none => rfl
      | some m =>
        show fin s t (m : Int) = _
        rcases fin_two s t (m : Int) with ⟨n, hn⟩ | hn
        · exfalso
          obtain ⟨g1, g2⟩ := fin_true s t m n hn
          have g3 := vl_lt _ 0 m 0 hq (by decide)
          rw [len_data, Nat.zero_add] at g3
          have g4 : 10 ^ t.size ≤ 10 ^ 6 := Nat.pow_le_pow_right (Nat.succ_pos 9) hz.2
          have g5 : m < 1000000 := Nat.lt_of_lt_of_le g3 g4
          exact hx ⟨n, by omega, by omega, g1⟩
        · exact hn
    · rw [if_neg hz]
end Go.Proofs.YtneaomnlpfeedaaDoor.Pure
