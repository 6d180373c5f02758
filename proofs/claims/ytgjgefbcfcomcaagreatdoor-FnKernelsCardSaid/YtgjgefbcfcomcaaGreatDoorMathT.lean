/-
  The program's table of prints by their lowest cells: taking prints off a pair, adding a pair. Plain mathematics, no program. No conditions.
-/
import Derived.Test.YtgjgefbcfcomcaaGreatDoorJA
import Derived.Lib.TrailingZeros
namespace Go.Proofs.YtgjgefbcfcomcaaGreatDoor

/-- the lowest black cell -/
theorem ctz_low (x : Nat) (hx : Vs x) (h0 : x ≠ 0) : Lib.ctz 64 x < 36 ∧ x.testBit (Lib.ctz 64 x) = true ∧ ∀ j, j < Lib.ctz 64 x → x.testBit j = false := by
  obtain ⟨m, hm, _⟩ := Lib.ctzFrom_spec 64 x (by omega) (by have := hx.lt; omega)
  have e : Lib.ctz 64 x = Lib.ctzFrom 64 x := by unfold Lib.ctz; rw [if_neg h0]
  rw [e]
  have hb : ∀ j, x.testBit j = (decide (j ≥ Lib.ctzFrom 64 x) && (2 * m + 1).testBit (j - Lib.ctzFrom 64 x)) := fun j => by
    conv => lhs; rw [hm]
    exact Nat.testBit_two_pow_mul
  have ht : x.testBit (Lib.ctzFrom 64 x) = true := by
    rw [hb, decide_eq_true (Nat.le_refl _), Nat.sub_self, Nat.testBit_zero]
    simp
  refine ⟨?_, ht, fun j hj => by rw [hb, decide_eq_false (by omega), Bool.false_and]⟩
  apply Nat.lt_of_not_le
  intro h
  rw [bit_high hx _ h] at ht
  cases ht
/-- a pair of which the prints of the first n pairs are taken off -/
def rdN (P Q : Nat → Nat) (p q : Nat) : Nat → Nat × Nat
  | 0 => (p, q)
  | n + 1 => if (rdN P Q p q n).1.testBit n = true ∧ P n ≠ 0 then ((rdN P Q p q n).1 ^^^ P n, (rdN P Q p q n).2 ^^^ Q n) else rdN P Q p q n
theorem rdN_yes {P Q : Nat → Nat} {p q n : Nat} (h : (rdN P Q p q n).1.testBit n = true) (h0 : P n ≠ 0) : rdN P Q p q (n + 1) = ((rdN P Q p q n).1 ^^^ P n, (rdN P Q p q n).2 ^^^ Q n) := by
  rw [rdN, if_pos ⟨h, h0⟩]
theorem rdN_no {P Q : Nat → Nat} {p q n : Nat} (h : ¬ ((rdN P Q p q n).1.testBit n = true ∧ P n ≠ 0)) : rdN P Q p q (n + 1) = rdN P Q p q n := by
  rw [rdN, if_neg h]
theorem rdN_vs {P Q : Nat → Nat} {p q : Nat} (hp : Vs p) (hq : Vs q) (hv : ∀ k, k < 36 → Vs (P k) ∧ Vs (Q k)) : ∀ n, n ≤ 36 → Vs (rdN P Q p q n).1 ∧ Vs (rdN P Q p q n).2
  | 0, _ => ⟨hp, hq⟩
  | n + 1, h => by
    have ih := rdN_vs hp hq hv n (by omega)
    have hv := hv n (by omega)
    unfold rdN
    split
    · exact ⟨ih.1.xor hv.1, ih.2.xor hv.2⟩
    · exact ih
/-- the table's pairs and its rows -/
structure Lnk (F : Nat → Nat) (P Q : Nat → Nat) (R : List (Nat × Nat)) : Prop where
  low : ∀ k, k < 36 → P k ≠ 0 → (P k).testBit k = true ∧ ∀ j, j < k → (P k).testBit j = false
  vs : ∀ k, k < 36 → Vs (P k) ∧ Vs (Q k)
  pr : ∀ k, k < 36 → F (Q k) = P k
  into : ∀ k, k < 36 → P k ≠ 0 → (Q k, k) ∈ R
  back : ∀ r, r ∈ R → r.2 < 36 ∧ P r.2 ≠ 0 ∧ Q r.2 = r.1
theorem rd_ok {F : Nat → Nat} (hF : Lin F) {P Q : Nat → Nat} {R : List (Nat × Nat)} (h : Lnk F P Q R) (p q : Nat) : ∀ n, n ≤ 36 →
    (rdN P Q p q n).1 ^^^ F (rdN P Q p q n).2 = p ^^^ F q ∧ Sp (R.map (·.1)) (q ^^^ (rdN P Q p q n).2) ∧ ∀ k, k < n → P k ≠ 0 → (rdN P Q p q n).1.testBit k = false
  | 0, _ => ⟨rfl, by rw [show (rdN P Q p q 0).2 = q from rfl, Nat.xor_self]; exact sp_zero _, fun k hk => by omega⟩
  | n + 1, hn => by
    obtain ⟨h1, h2, h3⟩ := rd_ok hF h p q n (by omega)
    by_cases hc : (rdN P Q p q n).1.testBit n = true ∧ P n ≠ 0
    · rw [rdN_yes hc.1 hc.2]
      obtain ⟨l1, l2⟩ := h.low n (by omega) hc.2
      refine ⟨?_, ?_, fun k hk h0 => ?_⟩
      · show (rdN P Q p q n).1 ^^^ P n ^^^ F ((rdN P Q p q n).2 ^^^ Q n) = _
        rw [hF, h.pr n (by omega), ← h1, Nat.xor_comm (F (rdN P Q p q n).2) (P n), ← Nat.xor_assoc, xx]
      · show Sp _ (q ^^^ ((rdN P Q p q n).2 ^^^ Q n))
        rw [← Nat.xor_assoc]
        exact sp_xor _ _ _ h2 (sp_mem _ _ (List.mem_map.2 ⟨_, h.into n (by omega) hc.2, rfl⟩))
      · show ((rdN P Q p q n).1 ^^^ P n).testBit k = false
        rw [Nat.testBit_xor]
        by_cases e : k = n
        · subst e
          rw [hc.1, l1]; rfl
        · rw [h3 k (by omega) h0, l2 k (by omega)]; rfl
    · rw [rdN_no hc]
      refine ⟨h1, h2, fun k hk h0 => ?_⟩
      by_cases e : k = n
      · subst e
        cases hb : (rdN P Q p q k).1.testBit k with
        | false => rfl
        | true => exact absurd ⟨hb, h0⟩ hc
      · exact h3 k (by omega) h0
/-- the state of a table of the stamp X for the presses G -/
def TS (X : Nat) (G : List Nat) (P Q : Nat → Nat) (L : List Nat) : Prop := ∃ R, Tabl (printS X) G R L ∧ Lnk (printS X) P Q R
theorem TS.start (X : Nat) : TS X [] (fun _ => 0) (fun _ => 0) [] :=
  ⟨[], Tabl.start _, ⟨fun k _ h => absurd rfl h, fun _ _ => ⟨by unfold Vs; omega, by unfold Vs; omega⟩, fun _ _ => (print_lin X).zero, fun k _ h => absurd rfl h, fun r hr => by cases hr⟩⟩
theorem TS.vs {X : Nat} {G : List Nat} {P Q : Nat → Nat} {L : List Nat} (h : TS X G P Q L) : ∀ k, k < 36 → Vs (P k) ∧ Vs (Q k) := by
  obtain ⟨R, _, hl⟩ := h
  exact hl.vs
theorem TS.add0 {X : Nat} {G : List Nat} {P Q : Nat → Nat} {L : List Nat} (h : TS X G P Q L) {x : Nat} (h0 : (rdN P Q (printS X x) x 36).1 = 0) : TS X (G ++ [x]) P Q (L ++ [(rdN P Q (printS X x) x 36).2]) := by
  obtain ⟨R, ht, hl⟩ := h
  obtain ⟨h1, h2, _⟩ := rd_ok (print_lin X) hl (printS X x) x 36 (Nat.le_refl _)
  rw [Nat.xor_self, h0, Nat.zero_xor] at h1
  exact ⟨R, ht.add0 h2 h1, hl⟩
/-- a function with another value at one place -/
def upN (f : Nat → Nat) (k v : Nat) : Nat → Nat := fun j => if j = k then v else f j
theorem TS.add1 {X : Nat} {G : List Nat} {P Q : Nat → Nat} {L : List Nat} (h : TS X G P Q L) {x : Nat} (hx : Vs x) (h0 : (rdN P Q (printS X x) x 36).1 ≠ 0) :
    TS X (G ++ [x]) (upN P (Lib.ctz 64 (rdN P Q (printS X x) x 36).1) (rdN P Q (printS X x) x 36).1) (upN Q (Lib.ctz 64 (rdN P Q (printS X x) x 36).1) (rdN P Q (printS X x) x 36).2) L := by
  obtain ⟨R, ht, hl⟩ := h
  obtain ⟨h1, h2, h3⟩ := rd_ok (print_lin X) hl (printS X x) x 36 (Nat.le_refl _)
  obtain ⟨v1, v2⟩ := rdN_vs (printS_vs X x) hx hl.vs 36 (Nat.le_refl _)
  rw [Nat.xor_self] at h1
  have e := xor_eq0 h1
  obtain ⟨c1, c2, c3⟩ := ctz_low _ v1 h0
  generalize hk : Lib.ctz 64 (rdN P Q (printS X x) x 36).1 = k at c1 c2 c3 ⊢
  generalize hr : rdN P Q (printS X x) x 36 = r at h0 h1 h2 h3 v1 v2 e c2 c3 ⊢
  have hPk : P k = 0 := by
    rcases Nat.decEq (P k) 0 with hn | hy
    · have := h3 k c1 hn
      rw [c2] at this
      cases this
    · exact hy
  refine ⟨R ++ [(r.2, k)], ht.add1 h2 (by rw [← e]; exact c2) (fun s hs => by rw [← e]; obtain ⟨b1, b2, _⟩ := hl.back s hs; exact h3 _ b1 b2), ?_⟩
  refine ⟨fun j hj => ?_, fun j hj => ?_, fun j hj => ?_, fun j hj hn => ?_, fun s hs => ?_⟩
  · unfold upN
    split
    · rename_i hjk
      subst hjk
      exact fun _ => ⟨c2, c3⟩
    · exact hl.low j hj
  · unfold upN
    split
    · exact ⟨v1, v2⟩
    · exact hl.vs j hj
  · unfold upN
    split
    · exact e.symm
    · exact hl.pr j hj
  · unfold upN at hn ⊢
    split
    · rename_i hjk
      rw [hjk]
      exact List.mem_append_right _ List.mem_cons_self
    · rename_i hjk
      rw [if_neg hjk] at hn
      exact List.mem_append_left _ (hl.into j hj hn)
  · rcases List.mem_append.1 hs with hs | hs
    · obtain ⟨b1, b2, b3⟩ := hl.back s hs
      have hne : s.2 ≠ k := fun h => b2 (by rw [h]; exact hPk)
      unfold upN
      rw [if_neg hne, if_neg hne]
      exact ⟨b1, b2, b3⟩
    · rw [List.mem_singleton.1 hs]
      unfold upN
      rw [if_pos rfl, if_pos rfl]
      exact ⟨c1, h0, rfl⟩
/-- what solving answers -/
theorem TS.solve {X : Nat} {G : List Nat} {P Q : Nat → Nat} {L : List Nat} (h : TS X G P Q L) (t : Nat) :
    t = (rdN P Q t 0 36).1 ^^^ printS X (rdN P Q t 0 36).2 ∧ ((rdN P Q t 0 36).1 = 0 ↔ ∃ y, Sp G y ∧ printS X y = t) := by
  obtain ⟨R, ht, hl⟩ := h
  obtain ⟨h1, h2, h3⟩ := rd_ok (print_lin X) hl t 0 36 (Nat.le_refl _)
  rw [(print_lin X).zero, Nat.xor_zero] at h1
  rw [Nat.zero_xor] at h2
  refine ⟨h1.symm, ht.can (print_lin X) ?_ h2 fun r hr => ?_⟩
  · exact xor_cancel (c := printS X (rdN P Q t 0 36).2) (by rw [xx]; exact h1)
  · obtain ⟨b1, b2, _⟩ := hl.back r hr
    exact h3 _ b1 b2
end Go.Proofs.YtgjgefbcfcomcaaGreatDoor
