/-
  The sums of a list told by the bits of a number; the least of a coset by size and order; presses that have no lead of a kernel. Plain mathematics, no program. No conditions.
-/
import Derived.Test.YtgjgefbcfcomcaaGreatDoorJD
import Derived.Test.YtgjgefbcfcomcaaGreatDoorUh
import Derived.Test.YtgjgefbcfcomcaaGreatDoorJA
import Derived.Test.YtgjgefbcfcomcaaGreatDoorMathG
namespace Go.Proofs.YtgjgefbcfcomcaaGreatDoor

/-- the sum of those of the first k of a list that the bits of n tell -/
def cs (O : List Nat) (n : Nat) : Nat → Nat
  | 0 => 0
  | k + 1 => if n.testBit k = true then cs O n k ^^^ O.getD k 0 else cs O n k
theorem cs_yes {O : List Nat} {n k : Nat} (h : n.testBit k = true) : cs O n (k + 1) = cs O n k ^^^ O.getD k 0 := by rw [cs, if_pos h]
theorem cs_no {O : List Nat} {n k : Nat} (h : n.testBit k = false) : cs O n (k + 1) = cs O n k := by rw [cs, if_neg (by rw [h]; decide)]
theorem cs_congr (O : List Nat) (n m : Nat) : ∀ k, (∀ j, j < k → n.testBit j = m.testBit j) → cs O n k = cs O m k
  | 0, _ => rfl
  | k + 1, h => by
    rw [cs, cs, cs_congr O n m k (fun j hj => h j (by omega)), h k (by omega)]
theorem cs_zero (O : List Nat) : ∀ k, cs O 0 k = 0
  | 0 => rfl
  | k + 1 => by rw [cs_no (Nat.zero_testBit k), cs_zero O k]
theorem take_succ0 (O : List Nat) (k : Nat) (h : k + 1 ≤ O.length) : O.take (k + 1) = O.take k ++ [O.getD k 0] := take_snoc O 0 k (by omega)
theorem cs_sp (O : List Nat) (n : Nat) : ∀ k, k ≤ O.length → Sp (O.take k) (cs O n k)
  | 0, _ => sp_zero _
  | k + 1, h => by
    have ih := cs_sp O n k (by omega)
    rw [take_succ0 O k h]
    by_cases hb : n.testBit k = true
    · rw [cs_yes hb]
      exact (sp_app _ _ _).2 ⟨_, _, ih, sp_mem _ _ List.mem_cons_self, rfl⟩
    · rw [cs_no (Bool.eq_false_iff.2 hb)]
      exact sp_left ih
theorem cs_onto (O : List Nat) : ∀ k x, k ≤ O.length → Sp (O.take k) x → ∃ n, n < 2 ^ k ∧ cs O n k = x
  | 0, x, _, hx => by
    rw [List.take_zero] at hx
    exact ⟨0, by simp, (show x = 0 from hx).symm⟩
  | k + 1, x, h, hx => by
    rw [take_succ0 O k h] at hx
    obtain ⟨a, b, ha, hb, e⟩ := (sp_app _ _ _).1 hx
    obtain ⟨n, hn, en⟩ := cs_onto O k a (by omega) ha
    have hp : 2 ^ (k + 1) = 2 ^ k + 2 ^ k := by rw [Nat.pow_succ]; omega
    rcases hb with hb | hb
    · have hb0 : b = 0 := hb
      subst hb0
      refine ⟨n, by omega, ?_⟩
      rw [cs_no (Nat.testBit_lt_two_pow hn), en, e, Nat.xor_zero]
    · have hbv : b ^^^ O.getD k 0 = 0 := hb
      have hbv := xor_eq0 hbv
      subst hbv
      refine ⟨2 ^ k + n, by omega, ?_⟩
      rw [cs_yes (by rw [Nat.testBit_two_pow_add_eq, Nat.testBit_lt_two_pow hn]; rfl), cs_congr O (2 ^ k + n) n k (fun j hj => Nat.testBit_two_pow_add_gt hj n), en, e]
theorem cs_all (O : List Nat) (n : Nat) : Sp O (cs O n O.length) := by
  have := cs_sp O n O.length (Nat.le_refl _)
  rwa [List.take_length] at this
theorem cs_every (O : List Nat) (x : Nat) (hx : Sp O x) : ∃ n, n < 2 ^ O.length ∧ cs O n O.length = x :=
  cs_onto O O.length x (Nat.le_refl _) (by rwa [List.take_length])
theorem sp_vs (O : List Nat) (hO : ∀ o, o ∈ O → Vs o) (x : Nat) (hx : Sp O x) : Vs x := sp_lt 36 O x hO hx
theorem cs_vs (O : List Nat) (hO : ∀ o, o ∈ O → Vs o) (n k : Nat) (hk : k ≤ O.length) : Vs (cs O n k) :=
  sp_vs (O.take k) (fun o ho => hO o (List.mem_of_mem_take ho)) _ (cs_sp O n k hk)
/-- the order of sheets by size, then by rows -/
def ky (x : Nat) : Nat := popN x * 68719476736 + rkN x
theorem rkN_lt (x : Nat) : rkN x < 68719476736 := by unfold rkN; omega
theorem ky_lt (a b : Nat) : ky a < ky b ↔ popN a < popN b ∨ popN a = popN b ∧ rkN a < rkN b := by
  have := rkN_lt a
  have := rkN_lt b
  unfold ky
  omega
theorem ky_inj {a b : Nat} (ha : Vs a) (hb : Vs b) (h : ky a = ky b) : a = b := by
  have := rkN_lt a
  have := rkN_lt b
  unfold ky at h
  exact rkN_inj a b ha hb (by omega)
/-- which sum makes y the least -/
def fwA (O : List Nat) (y : Nat) : Nat → Nat := amN fun n => ky (y ^^^ cs O n O.length)
def fwN (O : List Nat) (y : Nat) : Nat := y ^^^ cs O (fwA O y (2 ^ O.length)) O.length
theorem fw_uniq {O O' : List Nat} {y y' : Nat} (hl : O.length = O'.length) (hs : ∀ x, Sp O x ↔ Sp O' x) (hy : Sp O (y ^^^ y')) (hv : Vs y) (hv' : Vs y') (hO : ∀ o, o ∈ O → Vs o) (hO' : ∀ o, o ∈ O' → Vs o) : fwN O y = fwN O' y' := by
  have hp := Nat.two_pow_pos O.length
  have e1 : ∀ i, ∃ n, i < 2 ^ O.length → n < 2 ^ O.length ∧ ky (y ^^^ cs O n O.length) = ky (y' ^^^ cs O' i O'.length) := fun i => by
    obtain ⟨n, h1, h2⟩ := cs_every O (y ^^^ y' ^^^ cs O' i O'.length) (sp_xor _ _ _ hy ((hs _).2 (cs_all O' i)))
    refine ⟨n, fun _ => ⟨h1, ?_⟩⟩
    rw [h2, Nat.xor_assoc, ← Nat.xor_assoc y y, Nat.xor_self, Nat.zero_xor]
  have e2 : ∀ i, ∃ n, i < 2 ^ O.length → n < 2 ^ O.length ∧ ky (y' ^^^ cs O' n O'.length) = ky (y ^^^ cs O i O.length) := fun i => by
    obtain ⟨n, h1, h2⟩ := cs_every O' (y ^^^ y' ^^^ cs O i O.length) ((hs _).1 (sp_xor _ _ _ hy (cs_all O i)))
    refine ⟨n, fun _ => ⟨by rw [hl]; exact h1, ?_⟩⟩
    rw [h2, Nat.xor_comm y y', Nat.xor_assoc, ← Nat.xor_assoc y' y', Nat.xor_self, Nat.zero_xor]
  have h := amN_same (fun n => ky (y ^^^ cs O n O.length)) (fun n => ky (y' ^^^ cs O' n O'.length)) (2 ^ O.length) hp (fun i => (e1 i).choose) (fun i => (e2 i).choose)
    (fun i hi => (e1 i).choose_spec hi) (fun i hi => (e2 i).choose_spec hi)
  unfold fwN fwA
  rw [← hl] at h ⊢
  exact ky_inj (hv.xor (cs_vs O hO _ _ (Nat.le_refl _))) (hv'.xor (by rw [hl]; exact cs_vs O' hO' _ _ (Nat.le_refl _))) h
theorem fwA_one (O : List Nat) (y : Nat) : fwA O y 1 = 0 := amN_one _
theorem fwA_yes {O : List Nat} {y n : Nat} (h : ky (y ^^^ cs O n O.length) < ky (y ^^^ cs O (fwA O y n) O.length)) : fwA O y (n + 1) = n := by
  unfold fwA at h ⊢
  rw [amN, if_pos h]
theorem fwA_no {O : List Nat} {y n : Nat} (h : ¬ ky (y ^^^ cs O n O.length) < ky (y ^^^ cs O (fwA O y n) O.length)) : fwA O y (n + 1) = fwA O y n := by
  unfold fwA at h ⊢
  rw [amN, if_neg h]
/-- O is a basis of the kernel of X -/
structure KB (X d : Nat) (O : List Nat) : Prop where
  vs : ∀ o, o ∈ O → Vs o
  sp : ∀ x, Sp O x ↔ Vs x ∧ printS X x = 0
  len : O.length = d
theorem KB.of_sr {X d : Nat} {R : List (Nat × Nat)} {L O : List Nat} (h : SR X (sgl 36) R L) (hb : BS L O) (hd : KerD X d) : KB X d O :=
  ⟨fun o ho => (hb.lead o ho).1, fun x => by rw [hb.sp, h.tabl.ker (print_lin X), sp_sgl]; exact Iff.rfl, h.base hd hb⟩
theorem KB.of_ts {X d : Nat} {P Q : Nat → Nat} {L : List Nat} (h : TS X (sgl 36) P Q L) (hd : KerD X d) : KB X d L := by
  obtain ⟨R, h1, h2⟩ := h
  have hk : ∀ x, Sp L x ↔ Vs x ∧ printS X x = 0 := fun x => by rw [h1.ker (print_lin X), sp_sgl]; exact Iff.rfl
  exact ⟨fun o ho => ((hk o).1 (sp_mem _ o ho)).1, hk, hd.eq h1⟩
/-- two bases of one kernel lead to one least -/
theorem KB.uniq {X d y y' : Nat} {O O' : List Nat} (h : KB X d O) (h' : KB X d O') (hv : Vs y) (hv' : Vs y') (e : printS X y = printS X y') : fwN O y = fwN O' y' :=
  fw_uniq (h.len.trans h'.len.symm) (fun x => (h.sp x).trans (h'.sp x).symm) ((h.sp _).2 ⟨hv.xor hv', by rw [print_lin, e, Nat.xor_self]⟩) hv hv' h.vs h'.vs
theorem KB.fw_vs {X d y : Nat} {O : List Nat} (h : KB X d O) (hv : Vs y) : Vs (fwN O y) := hv.xor (cs_vs O h.vs _ _ (Nat.le_refl _))
/-- the least presses with the print t: no lead of the kernel -/
def Lst (X t z : Nat) : Prop := Vs z ∧ printS X z = t ∧ ∀ x, Vs x → printS X x = 0 → x ≠ 0 → z.testBit (ldc (ldN x)) = false
theorem Lst.uniq {X t z z' : Nat} (h : Lst X t z) (h' : Lst X t z') : z = z' := by
  apply xor_eq0
  apply Classical.byContradiction
  intro h0
  have hv := h.1.xor h'.1
  have hp : printS X (z ^^^ z') = 0 := by rw [print_lin, h.2.1, h'.2.1, Nat.xor_self]
  have hl : ldN (z ^^^ z') < 36 := Nat.lt_of_le_of_ne (ldN_le _) (fun e => h0 ((ldN_zero _ hv).1 e))
  have hb := ldN_bit _ hl
  rw [Nat.testBit_xor, h.2.2 _ hv hp h0, h'.2.2 _ hv hp h0] at hb
  cases hb
theorem Lst.of_away {X t q : Nat} {R : List (Nat × Nat)} {L O : List Nat} (h : SR X (sgl 36) R L) (hb : BS L O) (hq : Vs q) (e : printS X q = t) : Lst X t (awL O q) := by
  have hk : ∀ x, Sp O x ↔ Vs x ∧ printS X x = 0 := fun x => by rw [hb.sp, h.tabl.ker (print_lin X), sp_sgl]; exact Iff.rfl
  obtain ⟨h1, h2⟩ := aw_ok O q hb.tri
  have hv := aw_vs O q hq (fun o ho => (hb.lead o ho).1)
  refine ⟨hv, ?_, fun x hx h0 hne => ?_⟩
  · have := ((hk _).1 h1).2
    rw [print_lin] at this
    rw [← xor_eq0 this, e]
  · obtain ⟨o, ho, e⟩ := hb.lead_in ((hk x).2 ⟨hx, h0⟩) hne
    rw [← e]
    exact h2 o ho
end Go.Proofs.YtgjgefbcfcomcaaGreatDoor
