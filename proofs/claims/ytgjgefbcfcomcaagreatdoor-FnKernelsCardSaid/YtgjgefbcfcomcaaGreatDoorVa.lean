/-
  The program's basis of quiet presses: numbers sorted downward, each lead taken from all others: what comes of it is the reduced basis. Plain mathematics, no program. No conditions.
-/
import Derived.Test.YtgjgefbcfcomcaaGreatDoorUp
import Derived.Test.YtgjgefbcfcomcaaGreatDoorUq
import Derived.Lib.BitFns
import Derived.Lib.ItoaNum
namespace Go.Proofs.YtgjgefbcfcomcaaGreatDoor

/-- the place of the highest bit -/
def tb (x : Nat) : Nat := Lib.bitLen x - 1
theorem tb_spec (x : Nat) (h : x < 2 ^ 64) (h0 : x ≠ 0) : 2 ^ tb x ≤ x ∧ x < 2 ^ (tb x + 1) := by
  obtain ⟨h1, h2, h3⟩ := Lib.bitLenAux_bounds 64 x h h0
  unfold tb Lib.bitLen
  refine ⟨h2, ?_⟩
  rw [show Lib.bitLenAux 64 x - 1 + 1 = Lib.bitLenAux 64 x by omega]
  exact h3
theorem tb_bit (x : Nat) (h : x < 2 ^ 64) (h0 : x ≠ 0) : x.testBit (tb x) = true := by
  obtain ⟨h1, h2⟩ := tb_spec x h h0
  generalize tb x = k at *
  obtain ⟨r, rfl⟩ : ∃ r, x = 2 ^ k + r := ⟨x - 2 ^ k, by omega⟩
  have h3 : r < 2 ^ k := by rw [Nat.pow_succ] at h2; omega
  rw [Nat.testBit_two_pow_add_eq, Nat.testBit_lt_two_pow h3]
  rfl
theorem tb_eq {x k : Nat} (h : x < 2 ^ 64) (h1 : x.testBit k = true) (h2 : x < 2 ^ (k + 1)) : tb x = k := by
  have h0 : x ≠ 0 := fun e => by subst e; rw [Nat.zero_testBit] at h1; cases h1
  obtain ⟨g1, g2⟩ := tb_spec x h h0
  by_cases a : tb x < k
  · have := Nat.pow_le_pow_right (n := 2) (by omega) (show tb x + 1 ≤ k by omega)
    rw [Nat.testBit_lt_two_pow (by omega)] at h1
    cases h1
  · by_cases b : k < tb x
    · have := Nat.pow_le_pow_right (n := 2) (by omega) (show k + 1 ≤ tb x by omega)
      omega
    · omega
/-- a number that bears the lead of p gets p -/
def adR2 (p x : Nat) : Nat := if x.testBit (tb p) = true then x ^^^ p else x
theorem adR2_lt {p x n : Nat} (hp : p < 2 ^ n) (hx : x < 2 ^ n) : adR2 p x < 2 ^ n := by
  unfold adR2
  split
  · exact Nat.xor_lt_two_pow hx hp
  · exact hx
theorem adR2_clear {p x : Nat} (hp : p < 2 ^ 64) (h0 : p ≠ 0) : (adR2 p x).testBit (tb p) = false := by
  unfold adR2
  split
  · rename_i h
    rw [Nat.testBit_xor, h, tb_bit p hp h0]; rfl
  · rename_i h
    exact Bool.eq_false_iff.2 h
theorem adR2_sp (p : Nat) (l : List Nat) (x : Nat) (hx : x ∈ l) (hp : p ∈ l) : Sp l (adR2 p x) := by
  unfold adR2
  split
  · exact sp_xor _ _ _ (sp_mem _ x hx) (sp_mem _ p hp)
  · exact sp_mem _ x hx
/-- the numbers A are settled, B are left -/
structure BI (G A B : List Nat) : Prop where
  sp : ∀ x, Sp (A ++ B) x ↔ Sp G x
  ind : Ind (A ++ B)
  lt : ∀ x, x ∈ A ++ B → x < 68719476736
  low : ∀ a, a ∈ A → ∀ b, b ∈ B → b < 2 ^ tb a
  sorted : A.Pairwise fun a b => tb b < tb a ∧ a.testBit (tb b) = false
theorem ind_ne {l : List Nat} (h : Ind l) (x : Nat) (hx : x ∈ l) : x ≠ 0 := by
  obtain ⟨a, b, rfl⟩ := List.append_of_mem hx
  have h2 := ind_right a (x :: b) h
  intro e
  subst e
  exact ((ind_cons _ _).1 h2).2 (sp_zero b)
theorem BI.start {G : List Nat} (hi : Ind G) (hl : ∀ x, x ∈ G → x < 68719476736) : BI G [] G :=
  ⟨fun x => Iff.rfl, hi, hl, (fun a ha => by cases ha), List.Pairwise.nil⟩
/-- one round: B's greatest, p, is settled -/
theorem BI.step {G A B C : List Nat} {p : Nat} (h : BI G A B) (hmem : ∀ x, x ∈ B ↔ x ∈ p :: C) (hlen : B.length = C.length + 1) (hmax : ∀ c, c ∈ C → c ≤ p) :
    BI G (A.map (adR2 p) ++ [p]) (C.map (adR2 p)) := by
  have hpB : p ∈ B := (hmem p).2 List.mem_cons_self
  have hCB : ∀ c, c ∈ C → c ∈ B := fun c hc => (hmem c).2 (List.mem_cons_of_mem _ hc)
  have hpAB : p ∈ A ++ B := List.mem_append_right _ hpB
  have hp0 := ind_ne h.ind p hpAB
  have hplt := h.lt p hpAB
  have hp64 : p < 2 ^ 64 := by omega
  have hl64 : ∀ x, x ∈ A ++ B → x < 2 ^ 64 := fun x hx => by have := h.lt x hx; omega
  have hpl : ∀ a, a ∈ A → p < 2 ^ tb a := fun a ha => h.low a ha p hpB
  obtain ⟨hp1, hp2⟩ := tb_spec p hp64 hp0
  have htA : ∀ a, a ∈ A → a.testBit (tb a) = true ∧ a < 2 ^ (tb a + 1) := fun a ha => by
    have ham : a ∈ A ++ B := List.mem_append_left _ ha
    exact ⟨tb_bit a (hl64 a ham) (ind_ne h.ind a ham), (tb_spec a (hl64 a ham) (ind_ne h.ind a ham)).2⟩
  have htb : ∀ a, a ∈ A → tb (adR2 p a) = tb a := fun a ha => by
    obtain ⟨h1, h2⟩ := htA a ha
    have h3 := hpl a ha
    have h4 := Nat.pow_le_pow_right (n := 2) (by omega) (show tb a ≤ tb a + 1 by omega)
    have ham : a ∈ A ++ B := List.mem_append_left _ ha
    refine tb_eq (adR2_lt hp64 (hl64 a ham)) ?_ (adR2_lt (by omega) h2)
    unfold adR2
    split
    · rw [Nat.testBit_xor, h1, Nat.testBit_lt_two_pow h3]; rfl
    · exact h1
  have hpa : ∀ a, a ∈ A → tb p < tb a := fun a ha => by
    have h3 := hpl a ha
    apply Classical.byContradiction
    intro hn
    have := Nat.pow_le_pow_right (n := 2) (by omega) (show tb a ≤ tb p by omega)
    omega
  have hsub : ∀ v, v ∈ (A.map (adR2 p) ++ [p]) ++ C.map (adR2 p) → Sp (A ++ B) v := by
    intro v hv
    rcases List.mem_append.1 hv with hv | hv
    · rcases List.mem_append.1 hv with hv | hv
      · obtain ⟨a, ha, rfl⟩ := List.mem_map.1 hv
        exact adR2_sp p _ a (List.mem_append_left _ ha) hpAB
      · have : v = p := by simpa using hv
        subst this
        exact sp_mem _ _ hpAB
    · obtain ⟨c, hc, rfl⟩ := List.mem_map.1 hv
      exact adR2_sp p _ c (List.mem_append_right _ (hCB c hc)) hpAB
  have hpN : p ∈ (A.map (adR2 p) ++ [p]) ++ C.map (adR2 p) := by simp
  have hback : ∀ x, adR2 p x ∈ (A.map (adR2 p) ++ [p]) ++ C.map (adR2 p) → Sp ((A.map (adR2 p) ++ [p]) ++ C.map (adR2 p)) x := by
    intro x hx
    have h1 := sp_mem _ _ hx
    have h2 := sp_mem _ _ hpN
    by_cases hb : x.testBit (tb p) = true
    · have h3 : x = adR2 p x ^^^ p := by unfold adR2; rw [if_pos hb, xx]
      rw [h3]
      exact sp_xor _ _ _ h1 h2
    · have h3 : x = adR2 p x := by unfold adR2; rw [if_neg hb]
      rw [h3]
      exact h1
  have hsup : ∀ v, v ∈ A ++ B → Sp ((A.map (adR2 p) ++ [p]) ++ C.map (adR2 p)) v := by
    intro v hv
    rcases List.mem_append.1 hv with hv | hv
    · exact hback v (List.mem_append_left _ (List.mem_append_left _ (List.mem_map_of_mem hv)))
    · rcases List.mem_cons.1 ((hmem v).1 hv) with e | hv
      · rw [e]; exact sp_mem _ _ hpN
      · exact hback v (List.mem_append_right _ (List.mem_map_of_mem hv))
  have hlenN : ((A.map (adR2 p) ++ [p]) ++ C.map (adR2 p)).length = (A ++ B).length := by
    simp only [List.length_append, List.length_map, List.length_cons, List.length_nil, hlen]
    omega
  refine ⟨fun x => (sp_swap hsub hsup x).trans (h.sp x), ind_of_len h.ind hsup (by omega), ?_, ?_, ?_⟩
  · intro x hx
    rcases List.mem_append.1 hx with hx | hx
    · rcases List.mem_append.1 hx with hx | hx
      · obtain ⟨a, ha, rfl⟩ := List.mem_map.1 hx
        exact adR2_lt (n := 36) hplt (h.lt a (List.mem_append_left _ ha))
      · have : x = p := by simpa using hx
        rw [this]
        exact hplt
    · obtain ⟨c, hc, rfl⟩ := List.mem_map.1 hx
      exact adR2_lt (n := 36) hplt (h.lt c (List.mem_append_right _ (hCB c hc)))
  · intro a ha b hb
    obtain ⟨c, hc, rfl⟩ := List.mem_map.1 hb
    rcases List.mem_append.1 ha with ha | ha
    · obtain ⟨a0, ha0, rfl⟩ := List.mem_map.1 ha
      rw [htb a0 ha0]
      exact adR2_lt (hpl a0 ha0) (h.low a0 ha0 c (hCB c hc))
    · have : a = p := by simpa using ha
      subst this
      have hcp := hmax c hc
      have hc1 : c < 2 ^ (tb a + 1) := by omega
      have hl : adR2 a c < 2 ^ (tb a + 1) := adR2_lt hp2 hc1
      have hcl := adR2_clear (x := c) hp64 hp0
      apply lt_of_bits
      intro j hj
      by_cases e : j = tb a
      · rw [e]; exact hcl
      · have h5 := Nat.pow_le_pow_right (n := 2) (by omega) (show tb a + 1 ≤ j by omega)
        exact Nat.testBit_lt_two_pow (by omega)
  · refine List.pairwise_append.2 ⟨?_, List.pairwise_singleton _ _, ?_⟩
    · rw [List.pairwise_map]
      refine h.sorted.imp_of_mem ?_
      intro a b ha hb hab
      rw [htb a ha, htb b hb]
      refine ⟨hab.1, ?_⟩
      unfold adR2
      split
      · rw [Nat.testBit_xor, hab.2, Nat.testBit_lt_two_pow (hpl b hb)]; rfl
      · exact hab.2
    · intro a ha b hb
      have : b = p := by simpa using hb
      subst this
      obtain ⟨a0, ha0, rfl⟩ := List.mem_map.1 ha
      rw [htb a0 ha0]
      exact ⟨hpa a0 ha0, adR2_clear hp64 hp0⟩
/-! ### numbers in the order of rows, and sheets -/
theorem rkP_bit (X : Nat) : ∀ k j, (rkP X k).testBit j = (decide (j < 6 * k) && X.testBit (6 * (k - 1 - j / 6) + j % 6))
  | 0, j => by simp [rkP]
  | k + 1, j => by
    have h1 : X / 64 ^ k % 64 < 2 ^ 6 := Nat.mod_lt _ (by omega)
    rw [rkP, Nat.mul_comm (rkP X k) 64, show (64 : Nat) = 2 ^ 6 from rfl, Nat.testBit_two_pow_mul_add _ (by simpa using h1), rkP_bit X k]
    by_cases hj : j < 6
    · rw [if_pos hj, show ((2 : Nat) ^ 6) ^ k = 2 ^ (6 * k) by rw [← Nat.pow_mul], Nat.testBit_mod_two_pow, Nat.testBit_div_two_pow, decide_eq_true hj, decide_eq_true (show j < 6 * (k + 1) by omega)]
      congr 2
      have : j / 6 = 0 := by omega
      omega
    · rw [if_neg hj]
      congr 1
      · rw [decide_eq_decide]; omega
      · congr 1
        omega
theorem rk_bit (X j : Nat) (hj : j < 36) : (rkN X).testBit j = X.testBit (6 * (5 - j / 6) + j % 6) := by
  rw [← rkP_six, rkP_bit, decide_eq_true (by omega), Bool.true_and]
theorem rk_ldc (X n : Nat) (hn : n < 36) : (rkN X).testBit (35 - n) = X.testBit (ldc n) := by
  rw [rk_bit X _ (by omega)]
  congr 1
  unfold ldc
  omega
theorem ldc_rk (X n : Nat) (hn : n < 36) (hX : X < 68719476736) : (rkN X).testBit (ldc n) = X.testBit (35 - n) := by
  have := rk_ldc (rkN X) n hn
  rw [rk_back X hX] at this
  exact this.symm
theorem rk_lin : Lin rkN := fun a b => by
  refine eq_of_cells (rk_vs _) ((rk_vs _).xor (rk_vs _)) fun j hj => ?_
  rw [rk_bit _ _ hj, Nat.testBit_xor, Nat.testBit_xor, rk_bit _ _ hj, rk_bit _ _ hj]
theorem rk_tb (x : Nat) (hx : x < 68719476736) (h0 : x ≠ 0) : ldN (rkN x) = 35 - tb x ∧ tb x < 36 := by
  have hx64 : x < 2 ^ 64 := by omega
  obtain ⟨h1, h2⟩ := tb_spec x hx64 h0
  have h3 : tb x < 36 := by
    apply Classical.byContradiction
    intro hn
    have := Nat.pow_le_pow_right (n := 2) (by omega) (show 36 ≤ tb x by omega)
    omega
  refine ⟨?_, h3⟩
  refine ldN_eq (by omega) ?_ fun m hm => ?_
  · rw [ldc_rk x _ (by omega) hx, show 35 - (35 - tb x) = tb x by omega]
    exact tb_bit x hx64 h0
  · rw [ldc_rk x _ (by omega) hx]
    have := Nat.pow_le_pow_right (n := 2) (by omega) (show tb x + 1 ≤ 35 - m by omega)
    exact Nat.testBit_lt_two_pow (by omega)
/-- the settled numbers as sheets are the reduced basis -/
theorem BI.base {L A : List Nat} (h : BI (L.map rkN) A []) (hL : ∀ x, x ∈ L → Vs x) : BS L (A.map rkN) := by
  have hlt : ∀ a, a ∈ A → a < 68719476736 := fun a ha => h.lt a (List.mem_append_left _ ha)
  have hne : ∀ a, a ∈ A → a ≠ 0 := fun a ha => ind_ne h.ind a (List.mem_append_left _ ha)
  have hback : (A.map rkN).map rkN = A := by
    rw [List.map_map]
    conv => rhs; rw [← List.map_id A]
    exact List.map_congr_left fun a ha => rk_back a (hlt a ha)
  have hbackL : (L.map rkN).map rkN = L := by
    rw [List.map_map]
    conv => rhs; rw [← List.map_id L]
    exact List.map_congr_left fun a ha => rk_back a (hL a ha)
  refine ⟨fun o ho => ?_, ?_, fun x => ?_⟩
  · obtain ⟨a, ha, rfl⟩ := List.mem_map.1 ho
    obtain ⟨h1, h2⟩ := rk_tb a (hlt a ha) (hne a ha)
    exact ⟨rk_vs a, by omega⟩
  · rw [List.pairwise_map]
    refine h.sorted.imp_of_mem ?_
    intro a b ha hb hab
    obtain ⟨h1, h2⟩ := rk_tb a (hlt a ha) (hne a ha)
    obtain ⟨g1, g2⟩ := rk_tb b (hlt b hb) (hne b hb)
    rw [h1, g1]
    refine ⟨by omega, ?_, ?_⟩
    · rw [ldc_rk b _ (by omega) (hlt b hb), show 35 - (35 - tb a) = tb a by omega]
      obtain ⟨_, k2⟩ := tb_spec b (by have := hlt b hb; omega) (hne b hb)
      have := Nat.pow_le_pow_right (n := 2) (by omega) (show tb b + 1 ≤ tb a by omega)
      exact Nat.testBit_lt_two_pow (by omega)
    · rw [ldc_rk a _ (by omega) (hlt a ha), show 35 - (35 - tb b) = tb b by omega]
      exact hab.2
  · have hs : ∀ y, Sp A y ↔ Sp (L.map rkN) y := fun y => by have := h.sp y; rwa [List.append_nil] at this
    constructor
    · intro hx
      have h1 := rk_lin.sp _ _ hx
      rw [hback] at h1
      have h2 := rk_lin.sp _ _ ((hs _).1 h1)
      rw [hbackL] at h2
      have hxv : Vs x := sp_vs _ (fun o ho => by obtain ⟨a, _, rfl⟩ := List.mem_map.1 ho; exact rk_vs a) x hx
      rwa [rk_back x hxv] at h2
    · intro hx
      have hxv : Vs x := sp_vs _ hL x hx
      have h1 := (hs _).2 (rk_lin.sp _ _ hx)
      have h2 := rk_lin.sp _ _ h1
      rwa [rk_back x hxv] at h2
end Go.Proofs.YtgjgefbcfcomcaaGreatDoor
