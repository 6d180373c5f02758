/-
  The reference's basis of sums: leads taken away, a sheet put to its place; what it spans, how long it is. Plain mathematics, no program.  The reduced basis of a set of sums is the only one; the least of a coset. Plain mathematics, no program. No conditions.
-/
import Derived.Test.YtgjgefbcfcomcaaGreatDoorUm
namespace Go.Proofs.YtgjgefbcfcomcaaGreatDoor

/-- a sheet from which the leads of others have been taken away -/
def awS (s o : Nat) : Nat := if s.testBit (ldc (ldN o)) = true then s ^^^ o else s
def awL (O : List Nat) (s : Nat) : Nat := O.foldl awS s
theorem awL_snoc (O : List Nat) (o s : Nat) : awL (O ++ [o]) s = awS (awL O s) o := by unfold awL; rw [List.foldl_append]; rfl
/-- a sheet that bears the lead of s gets s -/
def adS (s o : Nat) : Nat := if o.testBit (ldc (ldN s)) = true then o ^^^ s else o
/-- sheets with the places of their leads -/
def pvO (O : List Nat) : List (Nat × Nat) := O.map fun o => (o, ldc (ldN o))
/-- O is the reduced basis of all sums of G -/
structure BS (G O : List Nat) : Prop where
  lead : ∀ o, o ∈ O → Vs o ∧ ldN o < 36
  sorted : O.Pairwise fun a b => ldN a < ldN b ∧ b.testBit (ldc (ldN a)) = false ∧ a.testBit (ldc (ldN b)) = false
  sp : ∀ x, Sp O x ↔ Sp G x
theorem BS.start : BS [] [] := ⟨(fun o ho => by cases ho), List.Pairwise.nil, fun x => Iff.rfl⟩
theorem tri_of (O : List Nat) (hl : ∀ o, o ∈ O → ldN o < 36) (hp : O.Pairwise fun a b => ldN a < ldN b ∧ b.testBit (ldc (ldN a)) = false ∧ a.testBit (ldc (ldN b)) = false) : Tri (pvO O) := by
  induction O with
  | nil => trivial
  | cons o O ih =>
    obtain ⟨h1, h2⟩ := List.pairwise_cons.1 hp
    refine ⟨ldN_bit o (hl o List.mem_cons_self), fun s hs => ?_, ih (fun a ha => hl a (List.mem_cons_of_mem _ ha)) h2⟩
    obtain ⟨a, ha, rfl⟩ := List.mem_map.1 hs
    exact (h1 a ha).2.1
theorem pvO_fst (O : List Nat) : (pvO O).map (·.1) = O := by unfold pvO; rw [List.map_map]; exact List.map_id O
theorem BS.tri {G O : List Nat} (h : BS G O) : Tri (pvO O) := tri_of O (fun o ho => (h.lead o ho).2) h.sorted
theorem BS.ind {G O : List Nat} (h : BS G O) : Ind O := by have := tri_ind _ h.tri; rw [pvO_fst] at this; exact this
theorem BS.len {G O : List Nat} (h : BS G O) (hG : Ind G) : O.length = G.length := ind_len h.ind hG h.sp
theorem aw_keep (k : Nat) : ∀ (O : List Nat) (s : Nat), (∀ o, o ∈ O → o.testBit k = false) → s.testBit k = false → (awL O s).testBit k = false
  | [], _, _, h => h
  | o :: O, s, hO, h => by
    show (awL O (awS s o)).testBit k = false
    refine aw_keep k O _ (fun a ha => hO a (List.mem_cons_of_mem _ ha)) ?_
    unfold awS
    split
    · rw [Nat.testBit_xor, h, hO o List.mem_cons_self]; rfl
    · exact h
theorem aw_ok : ∀ (O : List Nat) (s : Nat), Tri (pvO O) → Sp O (s ^^^ awL O s) ∧ ∀ o, o ∈ O → (awL O s).testBit (ldc (ldN o)) = false
  | [], s, _ => ⟨Nat.xor_self s, fun o ho => by cases ho⟩
  | o :: O, s, ht => by
    obtain ⟨t1, t2, t3⟩ := ht
    obtain ⟨h2, h3⟩ := aw_ok O (awS s o) t3
    have hc : (awS s o).testBit (ldc (ldN o)) = false := by
      unfold awS
      split
      · rename_i hb
        rw [Nat.testBit_xor, hb, show o.testBit (ldc (ldN o)) = true from t1]; rfl
      · rename_i hb
        exact Bool.eq_false_iff.2 hb
    have hk := aw_keep (ldc (ldN o)) O (awS s o) (fun a ha => t2 _ (List.mem_map.2 ⟨a, ha, rfl⟩)) hc
    have e : awL (o :: O) s = awL O (awS s o) := rfl
    rw [e]
    refine ⟨?_, fun a ha => ?_⟩
    · have h2' : Sp (o :: O) (awS s o ^^^ awL O (awS s o)) := .inl h2
      have h4 : Sp (o :: O) (s ^^^ awS s o) := by
        unfold awS
        split
        · rw [← Nat.xor_assoc, Nat.xor_self, Nat.zero_xor]
          exact sp_mem _ _ List.mem_cons_self
        · rw [Nat.xor_self]
          exact sp_zero _
      have := sp_xor _ _ _ h4 h2'
      rw [← Nat.xor_assoc, xx] at this
      exact this
    · rcases List.mem_cons.1 ha with rfl | ha
      · exact hk
      · exact h3 a ha
theorem aw_vs : ∀ (O : List Nat) (s : Nat), Vs s → (∀ o, o ∈ O → Vs o) → Vs (awL O s)
  | [], _, h, _ => h
  | o :: O, s, h, hO => by
    refine aw_vs O (awS s o) ?_ (fun a ha => hO a (List.mem_cons_of_mem _ ha))
    unfold awS
    split
    · exact h.xor (hO o List.mem_cons_self)
    · exact h
/-- what has no lead of a basis, and is a sum, is nothing -/
theorem BS.clear {G O : List Nat} (h : BS G O) {x : Nat} (hx : Sp O x) (hc : ∀ o, o ∈ O → x.testBit (ldc (ldN o)) = false) : x = 0 := by
  refine tri_clear (pvO O) x h.tri (by rw [pvO_fst]; exact hx) fun r hr => ?_
  obtain ⟨o, ho, rfl⟩ := List.mem_map.1 hr
  exact hc o ho
theorem BS.add0 {G O : List Nat} (h : BS G O) {x : Nat} (hx : Vs x) (h0 : ldN (awL O x) = 36) : BS (G ++ [x]) O := by
  have hv := aw_vs O x hx (fun o ho => (h.lead o ho).1)
  have hz := (ldN_zero _ hv).1 h0
  have hs := (aw_ok O x h.tri).1
  rw [hz, Nat.xor_zero] at hs
  refine ⟨h.lead, h.sorted, fun z => sp_swap (fun v hv => sp_left ((h.sp v).1 (sp_mem _ v hv))) (fun v hv => ?_) z⟩
  rcases List.mem_append.1 hv with hv | hv
  · exact (h.sp v).2 (sp_mem _ v hv)
  · rw [List.mem_singleton.1 hv]
    exact hs
theorem adS_ld {s o : Nat} (hs : ldN s < 36) (ho : ldN o < 36) (hc : s.testBit (ldc (ldN o)) = false) : ldN (adS s o) = ldN o := by
  have := adR_ld (p := (0, s)) (r := (0, o)) hs ho hc
  unfold adR at this
  unfold adS
  split
  · rename_i hb
    rw [if_pos hb] at this
    exact this
  · rfl
theorem adS_clear {s o : Nat} (hs : ldN s < 36) : (adS s o).testBit (ldc (ldN s)) = false := by
  unfold adS
  split
  · rename_i hb
    rw [Nat.testBit_xor, hb, ldN_bit s hs]; rfl
  · rename_i hb
    exact Bool.eq_false_iff.2 hb
/-- s is put before the first of O whose lead isn't before its own -/
theorem BS.add1 {G O : List Nat} (h : BS G O) {x : Nat} (hx : Vs x) (h0 : ldN (awL O x) < 36) (n : Nat)
    (hlo : ∀ o, o ∈ O.take n → ldN o < ldN (awL O x)) (hhi : ∀ o, o ∈ O.drop n → ¬ ldN o < ldN (awL O x)) :
    BS (G ++ [x]) ((O.map (adS (awL O x))).take n ++ awL O x :: (O.map (adS (awL O x))).drop n) := by
  have hv := aw_vs O x hx (fun o ho => (h.lead o ho).1)
  obtain ⟨hs, hc⟩ := aw_ok O x h.tri
  generalize awL O x = s at *
  have hld : ∀ o, o ∈ O → ldN (adS s o) = ldN o := fun o ho => adS_ld h0 (h.lead o ho).2 (hc o ho)
  have hmem : ∀ z, z ∈ (O.map (adS s)).take n ++ s :: (O.map (adS s)).drop n → z = s ∨ ∃ o, o ∈ O ∧ z = adS s o := by
    intro z hz
    rcases List.mem_append.1 hz with hz | hz
    · obtain ⟨o, ho, rfl⟩ := List.mem_map.1 (List.mem_of_mem_take hz)
      exact .inr ⟨o, ho, rfl⟩
    · rcases List.mem_cons.1 hz with rfl | hz
      · exact .inl rfl
      · obtain ⟨o, ho, rfl⟩ := List.mem_map.1 (List.mem_of_mem_drop hz)
        exact .inr ⟨o, ho, rfl⟩
  -- the sorted row after the sums
  have hsorted : (O.map (adS s)).Pairwise fun a b => ldN a < ldN b ∧ b.testBit (ldc (ldN a)) = false ∧ a.testBit (ldc (ldN b)) = false := by
    rw [List.pairwise_map]
    refine List.Pairwise.imp_of_mem (fun {a b} ha hb hab => ?_) h.sorted
    rw [hld a ha, hld b hb]
    refine ⟨hab.1, ?_, ?_⟩
    · unfold adS
      split
      · rw [Nat.testBit_xor, hab.2.1, hc a ha]; rfl
      · exact hab.2.1
    · unfold adS
      split
      · rw [Nat.testBit_xor, hab.2.2, hc b hb]; rfl
      · exact hab.2.2
  have hs1 : ∀ o, o ∈ O → s.testBit (ldc (ldN (adS s o))) = false := fun o ho => by rw [hld o ho]; exact hc o ho
  have hs2 : ∀ o, o ∈ O → (adS s o).testBit (ldc (ldN s)) = false := fun o _ => adS_clear h0
  have htd := hsorted
  rw [← List.take_append_drop n (O.map (adS s)), List.pairwise_append] at htd
  refine ⟨fun z hz => ?_, ?_, fun z => sp_swap (fun v hvm => ?_) (fun v hvm => ?_) z⟩
  · rcases hmem z hz with rfl | ⟨o, ho, rfl⟩
    · exact ⟨hv, h0⟩
    · refine ⟨?_, by rw [hld o ho]; exact (h.lead o ho).2⟩
      unfold adS
      split
      · exact (h.lead o ho).1.xor hv
      · exact (h.lead o ho).1
  · rw [List.pairwise_append, List.pairwise_cons]
    refine ⟨htd.1, ⟨fun b hb => ?_, htd.2.1⟩, fun a ha b hb => ?_⟩
    · rw [← List.map_drop] at hb
      obtain ⟨o, ho, rfl⟩ := List.mem_map.1 hb
      have hoO := List.mem_of_mem_drop ho
      have h1 := hhi o ho
      have h2 : ldN o ≠ ldN s := fun e => by have := hc o hoO; rw [e, ldN_bit s h0] at this; cases this
      exact ⟨by rw [hld o hoO]; omega, hs2 o hoO, hs1 o hoO⟩
    · rcases List.mem_cons.1 hb with rfl | hb
      · rw [← List.map_take] at ha
        obtain ⟨o, ho, rfl⟩ := List.mem_map.1 ha
        have hoO := List.mem_of_mem_take ho
        exact ⟨by rw [hld o hoO]; exact hlo o ho, hs1 o hoO, hs2 o hoO⟩
      · exact htd.2.2 a ha b hb
  · have hsG : Sp (G ++ [x]) s := by
      have := sp_xor (G ++ [x]) _ _ (sp_mem _ x (List.mem_append_right _ List.mem_cons_self)) (sp_left ((h.sp _).1 hs))
      rw [← Nat.xor_assoc, Nat.xor_self, Nat.zero_xor] at this
      exact this
    rcases hmem v hvm with rfl | ⟨o, ho, rfl⟩
    · exact hsG
    · have hoG : Sp (G ++ [x]) o := sp_left ((h.sp o).1 (sp_mem _ o ho))
      unfold adS
      split
      · exact sp_xor _ _ _ hoG hsG
      · exact hoG
  · have hins : ∀ o, o ∈ O → Sp ((O.map (adS s)).take n ++ s :: (O.map (adS s)).drop n) o := fun o ho => by
      have hsm : Sp ((O.map (adS s)).take n ++ s :: (O.map (adS s)).drop n) s := sp_mem _ s (List.mem_append_right _ List.mem_cons_self)
      have hom : adS s o ∈ (O.map (adS s)).take n ++ s :: (O.map (adS s)).drop n := by
        have : adS s o ∈ (O.map (adS s)).take n ++ (O.map (adS s)).drop n := by rw [List.take_append_drop]; exact List.mem_map.2 ⟨o, ho, rfl⟩
        rcases List.mem_append.1 this with h | h
        · exact List.mem_append_left _ h
        · exact List.mem_append_right _ (List.mem_cons_of_mem _ h)
      have ho' := sp_mem _ _ hom
      unfold adS at ho'
      split at ho'
      · have := sp_xor _ _ _ ho' hsm
        rw [xx] at this
        exact this
      · exact ho'
    rcases List.mem_append.1 hvm with hvm | hvm
    · exact sp_sub _ _ v hins ((h.sp v).2 (sp_mem _ v hvm))
    · rw [List.mem_singleton.1 hvm]
      have := sp_xor _ _ _ (sp_sub _ _ _ hins hs) (sp_mem ((O.map (adS s)).take n ++ s :: (O.map (adS s)).drop n) s (List.mem_append_right _ List.mem_cons_self))
      rw [xx] at this
      exact this
end Go.Proofs.YtgjgefbcfcomcaaGreatDoor
namespace Go.Proofs.YtgjgefbcfcomcaaGreatDoor

/-- the lead of what a basis spans is a lead of the basis -/
theorem lead_in : ∀ (O : List Nat) (x : Nat), (∀ o, o ∈ O → Vs o ∧ ldN o < 36) → (O.Pairwise fun a b => ldN a < ldN b ∧ b.testBit (ldc (ldN a)) = false ∧ a.testBit (ldc (ldN b)) = false) → Sp O x → x ≠ 0 → ∃ o, o ∈ O ∧ ldN o = ldN x
  | [], x, _, _, hx, h0 => absurd hx h0
  | o :: O, x, hl, hp, hx, h0 => by
    obtain ⟨h1, h2⟩ := List.pairwise_cons.1 hp
    rcases hx with hx | hx
    · obtain ⟨a, ha, e⟩ := lead_in O x (fun a ha => hl a (List.mem_cons_of_mem _ ha)) h2 hx h0
      exact ⟨a, List.mem_cons_of_mem _ ha, e⟩
    · have ho := (hl o List.mem_cons_self).2
      have hc : ∀ m, m ≤ ldN o → (x ^^^ o).testBit (ldc m) = false := fun m hm =>
        sp_clear (ldc m) O _ (fun v hv => ldN_first v m (by have := (h1 v hv).1; omega)) hx
      have hb : ∀ m, m ≤ ldN o → x.testBit (ldc m) = o.testBit (ldc m) := fun m hm => by
        have := hc m hm
        rw [Nat.testBit_xor] at this
        revert this
        cases x.testBit (ldc m) <;> cases o.testBit (ldc m) <;> simp
      refine ⟨o, List.mem_cons_self, (ldN_eq ho ?_ fun m hm => ?_).symm⟩
      · rw [hb _ (Nat.le_refl _)]
        exact ldN_bit o ho
      · rw [hb m (by omega)]
        exact ldN_first o m hm
theorem BS.lead_in {G O : List Nat} (h : BS G O) {x : Nat} (hx : Sp O x) (h0 : x ≠ 0) : ∃ o, o ∈ O ∧ ldN o = ldN x := Go.Proofs.YtgjgefbcfcomcaaGreatDoor.lead_in O x h.lead h.sorted hx h0
theorem pair_of {O : List Nat} (hp : O.Pairwise fun a b => ldN a < ldN b ∧ b.testBit (ldc (ldN a)) = false ∧ a.testBit (ldc (ldN b)) = false) : ∀ a, a ∈ O → ∀ b, b ∈ O → a ≠ b → ldN a ≠ ldN b ∧ a.testBit (ldc (ldN b)) = false := by
  induction O with
  | nil => intro a ha; cases ha
  | cons o O ih =>
    obtain ⟨h1, h2⟩ := List.pairwise_cons.1 hp
    intro a ha b hb hab
    rcases List.mem_cons.1 ha with ea | ha' <;> rcases List.mem_cons.1 hb with eb | hb'
    · exact absurd (ea.trans eb.symm) hab
    · subst ea
      obtain ⟨g1, _, g3⟩ := h1 b hb'
      exact ⟨by omega, g3⟩
    · subst eb
      obtain ⟨g1, g2, _⟩ := h1 a ha'
      exact ⟨by omega, g2⟩
    · exact ih h2 a ha' b hb' hab
theorem BS.sub {G G' O O' : List Nat} (h : BS G O) (h' : BS G' O') (hs : ∀ x, Sp G x ↔ Sp G' x) (o : Nat) (ho : o ∈ O) : o ∈ O' := by
  have hOO : ∀ x, Sp O x ↔ Sp O' x := fun x => by rw [h.sp, h'.sp, hs]
  have hne : ∀ o, o ∈ O → o ≠ 0 := fun o ho e => by
    have := (h.lead o ho).2
    subst e
    have h0 := (ldN_zero 0 (by unfold Vs; omega)).2 rfl
    omega
  obtain ⟨o', ho', e⟩ := h'.lead_in ((hOO o).1 (sp_mem _ o ho)) (hne o ho)
  have hz : o ^^^ o' = 0 := by
    refine h.clear (sp_xor _ _ _ (sp_mem _ o ho) ((hOO o').2 (sp_mem _ o' ho'))) fun b hb => ?_
    rw [Nat.testBit_xor]
    by_cases hbo : b = o
    · subst hbo
      rw [ldN_bit b (h.lead b hb).2]
      have := ldN_bit o' (h'.lead o' ho').2
      rw [e] at this
      rw [this]; rfl
    · obtain ⟨g1, g2⟩ := pair_of h.sorted o ho b hb (fun e => hbo e.symm)
      obtain ⟨b', hb', eb⟩ := h'.lead_in ((hOO b).1 (sp_mem _ b hb)) (hne b hb)
      have hne' : o' ≠ b' := fun e2 => g1 (by rw [← e, ← eb, e2])
      have := (pair_of h'.sorted o' ho' b' hb' hne').2
      rw [eb] at this
      rw [g2, this]; rfl
  rw [xor_eq0 hz]
  exact ho'
theorem sorted_eq : ∀ (A B : List Nat), (A.Pairwise fun a b => ldN a < ldN b) → (B.Pairwise fun a b => ldN a < ldN b) → (∀ x, x ∈ A ↔ x ∈ B) → A = B
  | [], [], _, _, _ => rfl
  | [], b :: B, _, _, h => by have := (h b).2 List.mem_cons_self; cases this
  | a :: A, [], _, _, h => by have := (h a).1 List.mem_cons_self; cases this
  | a :: A, b :: B, hA, hB, h => by
    obtain ⟨a1, a2⟩ := List.pairwise_cons.1 hA
    obtain ⟨b1, b2⟩ := List.pairwise_cons.1 hB
    have e : a = b := by
      rcases List.mem_cons.1 ((h a).1 List.mem_cons_self) with e | hm
      · exact e
      · rcases List.mem_cons.1 ((h b).2 List.mem_cons_self) with e | hm'
        · exact e.symm
        · have := a1 b hm'
          have := b1 a hm
          omega
    subst e
    rw [sorted_eq A B a2 b2 fun x => ?_]
    constructor
    · intro hx
      rcases List.mem_cons.1 ((h x).1 (List.mem_cons_of_mem _ hx)) with e | hm
      · subst e
        have := a1 x hx
        omega
      · exact hm
    · intro hx
      rcases List.mem_cons.1 ((h x).2 (List.mem_cons_of_mem _ hx)) with e | hm
      · subst e
        have := b1 x hx
        omega
      · exact hm
/-- there is one reduced basis -/
theorem BS.uniq {G G' O O' : List Nat} (h : BS G O) (h' : BS G' O') (hs : ∀ x, Sp G x ↔ Sp G' x) : O = O' :=
  sorted_eq O O' (h.sorted.imp fun g => g.1) (h'.sorted.imp fun g => g.1) fun x => ⟨h.sub h' hs x, h'.sub h (fun x => (hs x).symm) x⟩
end Go.Proofs.YtgjgefbcfcomcaaGreatDoor
