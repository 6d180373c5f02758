/-
  The reference's rows: taking leads away, adding a pair. Plain mathematics, no program. No conditions.
-/
import Derived.Test.YtgjgefbcfcomcaaGreatDoorUb
namespace Go.Proofs.YtgjgefbcfcomcaaGreatDoor

theorem ldN_eq {X n : Nat} (hn : n < 36) (hb : X.testBit (ldc n) = true) (hf : ∀ m, m < n → X.testBit (ldc m) = false) : ldN X = n := by
  rcases Nat.lt_trichotomy (ldN X) n with h | h | h
  · have := hf _ h
    rw [ldN_bit X (by omega)] at this
    cases this
  · exact h
  · have := ldN_first X n h
    rw [hb] at this
    cases this
/-- rows with the places of their leads -/
def pvR (R : List (Nat × Nat)) : List (Nat × Nat) := R.map fun r => (r.1, ldc (ldN r.2))
def trR (R : List (Nat × Nat)) : List (Nat × Nat) := R.map fun r => (r.2, ldc (ldN r.2))
theorem rdL_keep (k : Nat) : ∀ (R : List (Nat × Nat)) (p : Nat × Nat), (∀ r, r ∈ R → r.2.testBit k = false) → p.2.testBit k = false → (rdL R p).2.testBit k = false
  | [], _, _, h => h
  | r :: R, p, hR, h => by
    show (rdL R (rdS p r)).2.testBit k = false
    refine rdL_keep k R _ (fun s hs => hR s (List.mem_cons_of_mem _ hs)) ?_
    unfold rdS
    split
    · show (p.2 ^^^ r.2).testBit k = false
      rw [Nat.testBit_xor, h, hR r List.mem_cons_self]; rfl
    · exact h
theorem rdL_ok {F : Nat → Nat} (hF : Lin F) : ∀ (R : List (Nat × Nat)) (p : Nat × Nat), Tri (trR R) → (∀ r, r ∈ R → r.2 = F r.1) →
    (rdL R p).2 ^^^ F (rdL R p).1 = p.2 ^^^ F p.1 ∧ Sp (R.map (·.1)) (p.1 ^^^ (rdL R p).1) ∧ ∀ r, r ∈ R → (rdL R p).2.testBit (ldc (ldN r.2)) = false
  | [], p, _, _ => ⟨rfl, Nat.xor_self _, fun r hr => by cases hr⟩
  | r :: R, p, ht, hR => by
    obtain ⟨t1, t2, t3⟩ := ht
    have hr := hR r List.mem_cons_self
    obtain ⟨h1, h2, h3⟩ := rdL_ok hF R (rdS p r) t3 (fun s hs => hR s (List.mem_cons_of_mem _ hs))
    have e : rdL (r :: R) p = rdL R (rdS p r) := rfl
    have hk := rdL_keep (ldc (ldN r.2)) R (rdS p r) (fun s hs => t2 _ (List.mem_map.2 ⟨s, hs, rfl⟩))
    have hc : (rdS p r).2.testBit (ldc (ldN r.2)) = false := by
      unfold rdS
      split
      · rename_i hb
        show (p.2 ^^^ r.2).testBit _ = false
        rw [Nat.testBit_xor, hb, show r.2.testBit (ldc (ldN r.2)) = true from t1]; rfl
      · rename_i hb
        exact Bool.eq_false_iff.2 hb
    rw [e]
    refine ⟨h1.trans ?_, ?_, fun s hs => ?_⟩
    · unfold rdS
      split
      · show (p.2 ^^^ r.2) ^^^ F (p.1 ^^^ r.1) = _
        rw [hF, hr, Nat.xor_comm (F p.1), ← Nat.xor_assoc, xx]
      · rfl
    · have h2' : Sp (r.1 :: R.map (·.1)) ((rdS p r).1 ^^^ (rdL R (rdS p r)).1) := .inl h2
      have h4 : Sp (r.1 :: R.map (·.1)) (p.1 ^^^ (rdS p r).1) := by
        unfold rdS
        split
        · show Sp _ (p.1 ^^^ (p.1 ^^^ r.1))
          rw [← Nat.xor_assoc, Nat.xor_self, Nat.zero_xor]
          exact sp_mem _ _ List.mem_cons_self
        · rw [Nat.xor_self]
          exact sp_zero _
      have := sp_xor _ _ _ h4 h2'
      rw [← Nat.xor_assoc, xx] at this
      exact this
    · rcases List.mem_cons.1 hs with rfl | hs
      · exact hk hc
      · exact h3 s hs
/-- the state of the reference's rows for the first presses G -/
structure SR (X : Nat) (G : List Nat) (R : List (Nat × Nat)) (L : List Nat) : Prop where
  rows : ∀ r, r ∈ R → r.2 = printS X r.1 ∧ ldN r.2 < 36
  tabl : Tabl (printS X) G (pvR R) L
theorem SR.start (X : Nat) : SR X [] [] [] := ⟨(fun r hr => by cases hr), Tabl.start _⟩
theorem pvR_fst (R : List (Nat × Nat)) : (pvR R).map (·.1) = R.map (·.1) := by unfold pvR; simp
theorem SR.tri {X : Nat} {G : List Nat} {R : List (Nat × Nat)} {L : List Nat} (h : SR X G R L) : Tri (trR R) := by
  have := h.tabl.tri
  have e : (pvR R).map (fun r => (printS X r.1, r.2)) = trR R := by
    unfold pvR trR
    rw [List.map_map]
    refine List.map_congr_left fun r hr => ?_
    show (printS X r.1, ldc (ldN r.2)) = (r.2, ldc (ldN r.2))
    rw [← (h.rows r hr).1]
  rw [e] at this
  exact this
theorem SR.red {X : Nat} {G : List Nat} {R : List (Nat × Nat)} {L : List Nat} (h : SR X G R L) (x t : Nat) :
    (rdL R (x, t)).2 ^^^ printS X (rdL R (x, t)).1 = t ^^^ printS X x ∧ Sp ((pvR R).map (·.1)) (x ^^^ (rdL R (x, t)).1) ∧ ∀ r, r ∈ pvR R → (rdL R (x, t)).2.testBit r.2 = false := by
  obtain ⟨h1, h2, h3⟩ := rdL_ok (print_lin X) R (x, t) h.tri (fun r hr => (h.rows r hr).1)
  refine ⟨h1, by rw [pvR_fst]; exact h2, fun r hr => ?_⟩
  obtain ⟨s, hs, rfl⟩ := List.mem_map.1 hr
  exact h3 s hs
theorem SR.redp {X : Nat} {G : List Nat} {R : List (Nat × Nat)} {L : List Nat} (h : SR X G R L) (x : Nat) : (rdL R (x, printS X x)).2 = printS X (rdL R (x, printS X x)).1 := by
  have := (h.red x (printS X x)).1
  rw [Nat.xor_self] at this
  exact xor_eq0 this
theorem SR.add0 {X : Nat} {G : List Nat} {R : List (Nat × Nat)} {L : List Nat} (h : SR X G R L) {x : Nat} (h0 : ldN (rdL R (x, printS X x)).2 = 36) : SR X (G ++ [x]) R (L ++ [(rdL R (x, printS X x)).1]) := by
  obtain ⟨_, h2, _⟩ := h.red x (printS X x)
  have hp := h.redp x
  refine ⟨h.rows, h.tabl.add0 h2 ?_⟩
  rw [← hp]
  exact (ldN_zero _ (by rw [hp]; exact printS_vs _ _)).1 h0
/-- rows, to some of which a pair has been added -/
def adR (p : Nat × Nat) (r : Nat × Nat) : Nat × Nat := if r.2.testBit (ldc (ldN p.2)) = true then (r.1 ^^^ p.1, r.2 ^^^ p.2) else r
theorem adR_ld {p r : Nat × Nat} (hp : ldN p.2 < 36) (hr : ldN r.2 < 36) (hc : p.2.testBit (ldc (ldN r.2)) = false) : ldN (adR p r).2 = ldN r.2 := by
  unfold adR
  split
  · rename_i hb
    have hlt : ldN r.2 < ldN p.2 := by
      rcases Nat.lt_trichotomy (ldN r.2) (ldN p.2) with h | h | h
      · exact h
      · rw [h, ldN_bit _ hp] at hc; cases hc
      · have := ldN_first r.2 _ h
        rw [hb] at this; cases this
    refine ldN_eq hr ?_ fun m hm => ?_
    · show (r.2 ^^^ p.2).testBit _ = true
      rw [Nat.testBit_xor, ldN_bit _ hr, ldN_first p.2 _ hlt]; rfl
    · show (r.2 ^^^ p.2).testBit _ = false
      rw [Nat.testBit_xor, ldN_first r.2 m hm, ldN_first p.2 m (by omega)]; rfl
  · rfl
theorem SR.add1 {X : Nat} {G : List Nat} {R : List (Nat × Nat)} {L : List Nat} (h : SR X G R L) {x : Nat} (h0 : ldN (rdL R (x, printS X x)).2 < 36) :
    SR X (G ++ [x]) (R.map (adR (rdL R (x, printS X x))) ++ [rdL R (x, printS X x)]) L := by
  obtain ⟨_, h2, h3⟩ := h.red x (printS X x)
  have hp := h.redp x
  generalize rdL R (x, printS X x) = p at *
  have hld : ∀ r, r ∈ R → ldN (adR p r).2 = ldN r.2 := fun r hr => adR_ld h0 (h.rows r hr).2 (h3 _ (List.mem_map.2 ⟨r, hr, rfl⟩))
  refine ⟨fun s hs => ?_, ?_⟩
  · rcases List.mem_append.1 hs with hs | hs
    · obtain ⟨r, hr, rfl⟩ := List.mem_map.1 hs
      refine ⟨?_, by rw [hld r hr]; exact (h.rows r hr).2⟩
      unfold adR
      split
      · show r.2 ^^^ p.2 = printS X (r.1 ^^^ p.1)
        rw [print_lin, ← hp, ← (h.rows r hr).1]
      · exact (h.rows r hr).1
    · rw [List.mem_singleton.1 hs]
      exact ⟨hp, h0⟩
  · have ha := h.tabl.add2 (print_lin X) h2 (k := ldc (ldN p.2)) (by rw [← hp]; exact ldN_bit _ h0) (fun r hr => by rw [← hp]; exact h3 r hr) (fun r => (printS X r.1).testBit (ldc (ldN p.2)))
    have e : pvR (R.map (adR p) ++ [p]) = ((pvR R).map fun r => (if (printS X r.1).testBit (ldc (ldN p.2)) = true then r.1 ^^^ p.1 else r.1, r.2)) ++ [(p.1, ldc (ldN p.2))] := by
      unfold pvR
      rw [List.map_append, List.map_map, List.map_map]
      refine congrArg (· ++ _) (List.map_congr_left fun r hr => ?_)
      show ((adR p r).1, ldc (ldN (adR p r).2)) = (if (printS X r.1).testBit (ldc (ldN p.2)) = true then r.1 ^^^ p.1 else r.1, ldc (ldN r.2))
      rw [hld r hr, ← (h.rows r hr).1]
      unfold adR
      split <;> rfl
    rw [e]
    exact ha
/-- what solving answers -/
theorem SR.solve {X : Nat} {G : List Nat} {R : List (Nat × Nat)} {L : List Nat} (h : SR X G R L) (t : Nat) :
    t = (rdL R (0, t)).2 ^^^ printS X (rdL R (0, t)).1 ∧ ((rdL R (0, t)).2 = 0 ↔ ∃ y, Sp G y ∧ printS X y = t) := by
  obtain ⟨h1, h2, h3⟩ := h.red 0 t
  rw [(print_lin X).zero, Nat.xor_zero] at h1
  rw [Nat.zero_xor] at h2
  exact ⟨h1.symm, h.tabl.can (print_lin X) (xor_cancel (c := printS X (rdL R (0, t)).1) (by rw [xx]; exact h1)) h2 h3⟩
end Go.Proofs.YtgjgefbcfcomcaaGreatDoor
