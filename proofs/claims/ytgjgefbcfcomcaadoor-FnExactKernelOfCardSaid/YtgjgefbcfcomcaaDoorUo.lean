/-
  The reduced basis of a set of sums is the only one; the least of a coset. Plain mathematics, no program. No conditions.
-/
import Derived.Test.YtgjgefbcfcomcaaDoorUn
namespace Go.Proofs.YtgjgefbcfcomcaaDoor

/-- the lead of what a basis spans is a lead of the basis -/
theorem lead_in : ∀ (O : List Nat) (x : Nat), (∀ o, o ∈ O → Vs o ∧ ldN o < 36) → (O.Pairwise fun a b => ldN a < ldN b ∧ b.testBit (ldc (ldN a)) = false ∧ a.testBit (ldc (ldN b)) = false) → Sp O x → x ≠ 0 → ∃ o, o ∈ O ∧ ldN o = ldN x
  | [], x, _, _, hx, h0 => absurd hx h0
  | o :: O, x, hl, hp, hx, h0 => by
    obtain ⟨h1, h2⟩ := List.pairwise_cons.1 hp
    rcases hx with hx | hx
    · obtain ⟨a, ha, e⟩ := lead_in O x (fun a ha => hl a (List.mem_cons_of_mem _ ha)) h2 hx h0
      exact ⟨a, List.mem_cons_of_mem _ ha, e⟩
    · have ho := (hl o List.mem_cons_self).2
      have hc : ∀ m, m ≤ ldN o → (x ^^^ o).testBit (ldc m) = false := fun m hm =>
        sp_clear (ldc m) O _ (fun v hv => ldN_first v m (by have := (h1 v hv).1; omega)) hx
      have hb : ∀ m, m ≤ ldN o → x.testBit (ldc m) = o.testBit (ldc m) := fun m hm => by
        have := hc m hm
        rw [Nat.testBit_xor] at this
        revert this
        cases x.testBit (ldc m) <;> cases o.testBit (ldc m) <;> simp
      refine ⟨o, List.mem_cons_self, (ldN_eq ho ?_ fun m hm => ?_).symm⟩
      · rw [hb _ (Nat.le_refl _)]
        exact ldN_bit o ho
      · rw [hb m (by omega)]
        exact ldN_first o m hm
theorem BS.lead_in {G O : List Nat} (h : BS G O) {x : Nat} (hx : Sp O x) (h0 : x ≠ 0) : ∃ o, o ∈ O ∧ ldN o = ldN x := Go.Proofs.YtgjgefbcfcomcaaDoor.lead_in O x h.lead h.sorted hx h0
theorem pair_of {O : List Nat} (hp : O.Pairwise fun a b => ldN a < ldN b ∧ b.testBit (ldc (ldN a)) = false ∧ a.testBit (ldc (ldN b)) = false) : ∀ a, a ∈ O → ∀ b, b ∈ O → a ≠ b → ldN a ≠ ldN b ∧ a.testBit (ldc (ldN b)) = false := by
  induction O with
  | nil => intro a ha; cases ha
  | cons o O ih =>
    obtain ⟨h1, h2⟩ := List.pairwise_cons.1 hp
    intro a ha b hb hab
    rcases List.mem_cons.1 ha with ea | ha' <;> rcases List.mem_cons.1 hb with eb | hb'
    · exact absurd (ea.trans eb.symm) hab
    · subst ea
      obtain ⟨g1, _, g3⟩ := h1 b hb'
      exact ⟨by omega, g3⟩
    · subst eb
      obtain ⟨g1, g2, _⟩ := h1 a ha'
      exact ⟨by omega, g2⟩
    · exact ih h2 a ha' b hb' hab
theorem BS.sub {G G' O O' : List Nat} (h : BS G O) (h' : BS G' O') (hs : ∀ x, Sp G x ↔ Sp G' x) (o : Nat) (ho : o ∈ O) : o ∈ O' := by
  have hOO : ∀ x, Sp O x ↔ Sp O' x := fun x => by rw [h.sp, h'.sp, hs]
  have hne : ∀ o, o ∈ O → o ≠ 0 := fun o ho e => by
    have := (h.lead o ho).2
    subst e
    have h0 := (ldN_zero 0 (by unfold Vs; omega)).2 rfl
    omega
  obtain ⟨o', ho', e⟩ := h'.lead_in ((hOO o).1 (sp_mem _ o ho)) (hne o ho)
  have hz : o ^^^ o' = 0 := by
    refine h.clear (sp_xor _ _ _ (sp_mem _ o ho) ((hOO o').2 (sp_mem _ o' ho'))) fun b hb => ?_
    rw [Nat.testBit_xor]
    by_cases hbo : b = o
    · subst hbo
      rw [ldN_bit b (h.lead b hb).2]
      have := ldN_bit o' (h'.lead o' ho').2
      rw [e] at this
      rw [this]; rfl
    · obtain ⟨g1, g2⟩ := pair_of h.sorted o ho b hb (fun e => hbo e.symm)
      obtain ⟨b', hb', eb⟩ := h'.lead_in ((hOO b).1 (sp_mem _ b hb)) (hne b hb)
      have hne' : o' ≠ b' := fun e2 => g1 (by rw [← e, ← eb, e2])
      have := (pair_of h'.sorted o' ho' b' hb' hne').2
      rw [eb] at this
      rw [g2, this]; rfl
  rw [xor_eq0 hz]
  exact ho'
theorem sorted_eq : ∀ (A B : List Nat), (A.Pairwise fun a b => ldN a < ldN b) → (B.Pairwise fun a b => ldN a < ldN b) → (∀ x, x ∈ A ↔ x ∈ B) → A = B
  | [], [], _, _, _ => rfl
  | [], b :: B, _, _, h => by have := (h b).2 List.mem_cons_self; cases this
  | a :: A, [], _, _, h => by have := (h a).1 List.mem_cons_self; cases this
  | a :: A, b :: B, hA, hB, h => by
    obtain ⟨a1, a2⟩ := List.pairwise_cons.1 hA
    obtain ⟨b1, b2⟩ := List.pairwise_cons.1 hB
    have e : a = b := by
      rcases List.mem_cons.1 ((h a).1 List.mem_cons_self) with e | hm
      · exact e
      · rcases List.mem_cons.1 ((h b).2 List.mem_cons_self) with e | hm'
        · exact e.symm
        · have := a1 b hm'
          have := b1 a hm
          omega
    subst e
    rw [sorted_eq A B a2 b2 fun x => ?_]
    constructor
    · intro hx
      rcases List.mem_cons.1 ((h x).1 (List.mem_cons_of_mem _ hx)) with e | hm
      · subst e
        have := a1 x hx
        omega
      · exact hm
    · intro hx
      rcases List.mem_cons.1 ((h x).2 (List.mem_cons_of_mem _ hx)) with e | hm
      · subst e
        have := b1 x hx
        omega
      · exact hm
/-- there is one reduced basis -/
theorem BS.uniq {G G' O O' : List Nat} (h : BS G O) (h' : BS G' O') (hs : ∀ x, Sp G x ↔ Sp G' x) : O = O' :=
  sorted_eq O O' (h.sorted.imp fun g => g.1) (h'.sorted.imp fun g => g.1) fun x => ⟨h.sub h' hs x, h'.sub h (fun x => (hs x).symm) x⟩
end Go.Proofs.YtgjgefbcfcomcaaDoor
