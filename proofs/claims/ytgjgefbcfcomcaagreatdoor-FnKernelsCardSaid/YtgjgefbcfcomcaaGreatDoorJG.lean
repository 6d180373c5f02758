/-
  FnKernels: plain facts on kernels, orders, parities. Plain mathematics, no program.  What the calls of FnKernels answer, for any stamp at once. Under: where it says TabZ, the library's table of the lowest bits lies as its initialiser lays it. What PowerOf, IsQuiet and QuietStamps answer, for any arguments at once. Under: where it says TabZ, the library's table of the lowest bits lies as its initialiser lays it. No conditions.
-/
import Derived.Test.YtgjgefbcfcomcaaGreatDoorVe
import Derived.Test.YtgjgefbcfcomcaaGreatDoorUp
import Derived.Test.YtgjgefbcfcomcaaGreatDoorUi
import Derived.Test.YtgjgefbcfcomcaaGreatDoorTf
import Derived.Test.YtgjgefbcfcomcaaGreatDoorWb
import Derived.Test.YtgjgefbcfcomcaaGreatDoorMathG
import Derived.Test.YtgjgefbcfcomcaaGreatDoorGb
import Derived.Test.YtgjgefbcfcomcaaGreatDoorCi
import Derived.Test.YtgjgefbcfcomcaaGreatDoorEa
import Derived.Test.YtgjgefbcfcomcaaGreatDoorLIsSheet
import Derived.Test.YtgjgefbcfcomcaaGreatDoorWc
import Derived.Test.YtgjgefbcfcomcaaGreatDoorWd
namespace Go.Proofs.YtgjgefbcfcomcaaGreatDoor

theorem lt_tbK {n m : Nat} (i : Nat) (hn : n.testBit i = false) (hm : m.testBit i = true) (h : ∀ j, i < j → n.testBit j = m.testBit j) : n < m := by
  apply Classical.byContradiction
  intro hc
  have e : n / 2 ^ (i + 1) = m / 2 ^ (i + 1) := by
    apply Nat.eq_of_testBit_eq
    intro j
    rw [Nat.testBit_div_two_pow, Nat.testBit_div_two_pow]
    exact h _ (by omega)
  have n1 : n / 2 ^ i % 2 = 0 := by
    rw [Nat.testBit_eq_decide_div_mod_eq] at hn
    have := of_decide_eq_false hn
    omega
  have m1 : m / 2 ^ i % 2 = 1 := by
    rw [Nat.testBit_eq_decide_div_mod_eq] at hm
    exact of_decide_eq_true hm
  rw [Nat.pow_succ, ← Nat.div_div_eq_div_mul, ← Nat.div_div_eq_div_mul] at e
  have h2 : n / 2 ^ i < m / 2 ^ i := by omega
  have h3 : m / 2 ^ i ≤ n / 2 ^ i := Nat.div_le_div_right (by omega)
  omega
theorem KerD.zero_of {X d : Nat} (hd : KerD X d) (hn : NoKer X) : d = 0 := by
  obtain ⟨R, L, hT, hl⟩ := hd
  have h := ind_le (hT.ind (sgl_ind 36)) (m := []) fun v hv => by
    have h1 := (hT.ker (print_lin X) v).1 (sp_mem L v hv)
    exact hn v ((sp_sgl 36 v).1 h1.1) h1.2
  simp at h
  rw [← hl, h]
  rfl
theorem KerD.ord {X d : Nat} (hX : Vs X) (hd : KerD X d) : (∃ n, OrdP X n) ↔ d = 0 := by
  constructor
  · rintro ⟨n, hn⟩
    exact hd.zero_of (hn.ker hX)
  · intro h
    subst h
    by_cases ho : ∃ n, OrdP X n
    · exact ho
    · exact absurd hd.none (no_ord hX fun n hn => ho ⟨n, hn⟩).1
theorem OrdP.six {X n : Nat} (hX : Vs X) (h : OrdP X n) : 6 % n = 0 := by
  have h6 := pw_six X hX (h.ker hX)
  obtain ⟨h1, h2, h3, h4⟩ := h
  rcases (by omega : n = 1 ∨ n = 2 ∨ n = 3 ∨ n = 4 ∨ n = 5 ∨ n = 6) with rfl | rfl | rfl | rfl | rfl | rfl
  · rfl
  · rfl
  · rfl
  · have := pw_add X hX 2 4
    rw [h3, print_one _ (pwN_vs X 2)] at this
    exact absurd (this.symm.trans h6) (h4 2 (by omega) (by omega))
  · have := pw_add X hX 1 5
    rw [h3, print_one _ (pwN_vs X 1)] at this
    exact absurd (this.symm.trans h6) (h4 1 (by omega) (by omega))
  · rfl
theorem KOf.len {X d : Nat} {O : List Nat} (h : KOf X O) (hd : KerD X d) : O.length = d := by
  obtain ⟨L, hB, hS⟩ := h.1
  obtain ⟨R, L', hT, hl⟩ := hd
  rw [← hl]
  exact ind_len hB.ind (hT.ind (sgl_ind 36)) fun x => by
    rw [hB.sp, hS, hT.ker (print_lin X), sp_sgl]
    exact Iff.rfl
theorem KOf.mem {X x : Nat} {O : List Nat} (h : KOf X O) (hx : x ∈ O) : Vs x ∧ printS X x = 0 ∧ x ≠ 0 := by
  obtain ⟨Lb, hB, hS⟩ := h.1
  refine ⟨(hB.lead x hx).1, ((hS x).1 ((hB.sp x).1 (sp_mem O x hx))).2, fun e => ?_⟩
  have hl := (hB.lead x hx).2
  subst e
  have : ldN 0 = 36 := by decide
  omega
theorem ld_rk {a b : Nat} (ha : ldN a < 36) (h : ldN a < ldN b) : rkN b < rkN a := by
  refine lt_tbK (35 - ldN a) ?_ ?_ fun j hj => ?_
  · rw [rk_ldc _ _ ha]; exact ldN_first b _ h
  · rw [rk_ldc _ _ ha]; exact ldN_bit a ha
  · by_cases h36 : j < 36
    · have e := rk_ldc b (35 - j) (by omega)
      have e' := rk_ldc a (35 - j) (by omega)
      rw [show 35 - (35 - j) = j by omega] at e e'
      rw [e, e', ldN_first b _ (by omega), ldN_first a _ (by omega)]
    · have h2 := Nat.pow_le_pow_right (n := 2) (by omega) (show 36 ≤ j by omega)
      have ha' := rkN_lt a
      have hb' := rkN_lt b
      rw [Nat.testBit_lt_two_pow (show rkN b < 2 ^ j by omega), Nat.testBit_lt_two_pow (show rkN a < 2 ^ j by omega)]
theorem KOf.falls {X : Nat} {O : List Nat} (h : KOf X O) (i : Nat) (hi : i + 1 < O.length) : lessB (O.getD (i + 1) 0) (O.getD i 0) = true := by
  obtain ⟨Lb, hB, hS⟩ := h.1
  have h1 := (List.pairwise_iff_getElem.1 hB.sorted) i (i + 1) (by omega) hi (by omega)
  have h2 := (hB.lead O[i] (List.getElem_mem (by omega))).2
  have e1 : O.getD i 0 = O[i] := by rw [List.getD_eq_getElem?_getD, List.getElem?_eq_getElem (by omega)]; rfl
  have e2 : O.getD (i + 1) 0 = O[i + 1] := by rw [List.getD_eq_getElem?_getD, List.getElem?_eq_getElem hi]; rfl
  rw [e1, e2, lessB_rk, decide_eq_true (ld_rk h2 h1.1)]
theorem QD.under {Xs L : List Nat} {X d : Nat} (h : QD Xs L) (hX : X ∈ Xs) (hd : KerD X d) : L.length ≤ d := by
  obtain ⟨R, L', hT, hl⟩ := hd
  rw [← hl]
  exact ind_le h.ind fun v hv => (hT.ker (print_lin X) v).2 ⟨(sp_sgl 36 v).2 (h.vs v hv), ((h.sp v).1 (sp_mem L v hv)).2 X hX⟩
theorem QD.alone {L : List Nat} {X d : Nat} (h : QD [X] L) (hd : KerD X d) : L.length = d := by
  obtain ⟨R, L', hT, hl⟩ := hd
  rw [← hl]
  exact ind_len h.ind (hT.ind (sgl_ind 36)) fun x => by
    rw [h.sp, hT.ker (print_lin X), sp_sgl]
    simp [Vs]
theorem ds_le : ∀ (n X : Nat), dsN 1 n X ≤ n
  | 0, X => by simp [dsN]
  | n + 1, X => by
    have := ds_le n (X / 2 ^ 1)
    unfold dsN
    omega
theorem pop_le (X : Nat) : popN X ≤ 36 := ds_le 36 X
def parN (x : Nat) : Nat := popN x % 2
theorem xor_bits (p q : Nat) : (p % 2) ^^^ (q % 2) = (p + q) % 2 := by
  rcases Nat.mod_two_eq_zero_or_one p with hp | hp <;> rcases Nat.mod_two_eq_zero_or_one q with hq | hq <;> rw [hp, hq] <;> simp <;> omega
theorem ds_par : ∀ (n a b : Nat), dsN 1 n (a ^^^ b) % 2 = (dsN 1 n a + dsN 1 n b) % 2
  | 0, a, b => by simp [dsN]
  | n + 1, a, b => by
    have h1 : (a ^^^ b) / 2 = (a / 2) ^^^ (b / 2) := by
      have := Nat.shiftRight_xor_distrib (a := a) (b := b) (i := 1)
      simpa [Nat.shiftRight_eq_div_pow] using this
    have h2 : (a ^^^ b) % 2 = (a + b) % 2 := by
      have h : (a ^^^ b).testBit 0 = (a.testBit 0 ^^ b.testBit 0) := Nat.testBit_xor ..
      rw [Nat.testBit_zero, Nat.testBit_zero, Nat.testBit_zero] at h
      rcases Nat.mod_two_eq_zero_or_one a with ha | ha <;> rcases Nat.mod_two_eq_zero_or_one b with hb | hb <;> rcases Nat.mod_two_eq_zero_or_one (a ^^^ b) with hx | hx <;> rw [ha, hb, hx] at h <;> first | omega | exact absurd h (by decide)
    have ih := ds_par n (a / 2) (b / 2)
    unfold dsN
    rw [Nat.pow_one, h1]
    omega
theorem par_lin : Lin parN := fun a b => by
  unfold parN popN
  rw [ds_par, xor_bits]
theorem par_cell : ∀ c, c < 36 → parN (2 ^ c) = 1 := by decide
theorem par_bit (x : Nat) : parN x = 0 ∨ parN x = 1 := Nat.mod_two_eq_zero_or_one _
theorem mul_lin (k : Nat) (hk : k = 0 ∨ k = 1) : Lin fun Y => k * parN Y := fun a b => by
  show k * parN (a ^^^ b) = (k * parN a) ^^^ (k * parN b)
  rcases hk with rfl | rfl
  · simp
  · rw [Nat.one_mul, Nat.one_mul, Nat.one_mul, par_lin]
theorem par_print (X Y : Nat) (hX : Vs X) (hY : Vs Y) : parN (printS X Y) = parN X * parN Y := by
  refine lin_cells (G := fun Y => parN (printS X Y)) (H := fun Y => parN X * parN Y) (fun p q => ?_) (mul_lin _ (par_bit X)) (fun c hc => ?_) Y hY
  · show parN (printS X (p ^^^ q)) = _
    rw [print_lin, par_lin]
  · show parN (printS X (2 ^ c)) = parN X * parN (2 ^ c)
    rw [par_cell c hc, Nat.mul_one]
    refine lin_cells (G := fun X => parN (printS X (2 ^ c))) (H := parN) (fun p q => ?_) par_lin (fun a ha => ?_) X hX
    · show parN (printS (p ^^^ q) (2 ^ c)) = parN (printS p (2 ^ c)) ^^^ parN (printS q (2 ^ c))
      rw [print_comm, print_lin, par_lin, print_comm p, print_comm q]
    · show parN (printS (2 ^ a) (2 ^ c)) = parN (2 ^ a)
      rw [print_cells a ha c hc, par_cell _ (ad_lt _ _), par_cell a ha]
theorem odd_of {X : Nat} (hX : Vs X) (hk : NoKer X) : popN X % 2 = 1 := by
  have h := par_print X (pwN X 5) hX (pwN_vs X 5)
  rw [undo_can hX hk] at h
  have h1 : parN 1 = 1 := by decide
  rw [h1] at h
  rcases par_bit X with h0 | h0
  · rw [h0, Nat.zero_mul] at h
    omega
  · exact h0
end Go.Proofs.YtgjgefbcfcomcaaGreatDoor
namespace Go.Proofs.YtgjgefbcfcomcaaGreatDoor
open Go.RowKit
set_option linter.unusedSimpArgs false
set_option linter.unusedVariables false

theorem kern_uni (a0 a1 a2 a3 a4 a5) : ∃ (ok und : Bool) (rk ord : Int) (u0 u1 u2 u3 u4 u5 : Int) (K : List Nat → Prop), 
    (∀ w : World, TabZ w → Calls Tryz.prog 6 #[(.agg #[.int .i64 a0, .int .i64 a1, .int .i64 a2, .int .i64 a3, .int .i64 a4, .int .i64 a5])] w fun e w' => ∃ vo O, e = .returned (.tuple #[vo, .bool ok]) ∧ ReadsS w' vo O ∧ K O ∧ Below w.heap.size w w') ∧
    (∀ w : World, Calls Tryz.prog 7 #[(.agg #[.int .i64 a0, .int .i64 a1, .int .i64 a2, .int .i64 a3, .int .i64 a4, .int .i64 a5])] w fun e w' => ∃ vo O, e = .returned (.tuple #[vo, .bool ok]) ∧ ReadsS w' vo O ∧ K O ∧ Below w.heap.size w w') ∧
    (∀ O O', K O → K O' → O = O') ∧
    (∀ w : World, Calls Tryz.prog 8 #[(.agg #[.int .i64 a0, .int .i64 a1, .int .i64 a2, .int .i64 a3, .int .i64 a4, .int .i64 a5])] w fun e w' => e = .returned (.bool ok) ∧ Below w.heap.size w w') ∧
    (∀ w : World, TabZ w → Calls Tryz.prog 10 #[(.agg #[.int .i64 a0, .int .i64 a1, .int .i64 a2, .int .i64 a3, .int .i64 a4, .int .i64 a5])] w fun e w' => e = .returned (.tuple #[.int .i64 rk, .bool ok]) ∧ Below w.heap.size w w') ∧
    (∀ w : World, Calls Tryz.prog 11 #[(.agg #[.int .i64 a0, .int .i64 a1, .int .i64 a2, .int .i64 a3, .int .i64 a4, .int .i64 a5])] w fun e w' => e = .returned (.tuple #[.int .i64 rk, .bool ok]) ∧ Below w.heap.size w w') ∧
    (∀ w : World, TabZ w → Calls Tryz.prog 12 #[(.agg #[.int .i64 a0, .int .i64 a1, .int .i64 a2, .int .i64 a3, .int .i64 a4, .int .i64 a5])] w fun e w' => e = .returned (.tuple #[.bool und, .bool ok]) ∧ Below w.heap.size w w') ∧
    (∀ w : World, Calls Tryz.prog 13 #[(.agg #[.int .i64 a0, .int .i64 a1, .int .i64 a2, .int .i64 a3, .int .i64 a4, .int .i64 a5])] w fun e w' => e = .returned (.tuple #[.bool und, .bool ok]) ∧ Below w.heap.size w w') ∧
    (∀ w : World, TabZ w → Calls Tryz.prog 14 #[(.agg #[.int .i64 a0, .int .i64 a1, .int .i64 a2, .int .i64 a3, .int .i64 a4, .int .i64 a5])] w fun e w' => e = .returned (.tuple #[(.agg #[.int .i64 u0, .int .i64 u1, .int .i64 u2, .int .i64 u3, .int .i64 u4, .int .i64 u5]), .bool und]) ∧ Below w.heap.size w w') ∧
    (∀ w : World, Calls Tryz.prog 15 #[(.agg #[.int .i64 a0, .int .i64 a1, .int .i64 a2, .int .i64 a3, .int .i64 a4, .int .i64 a5])] w fun e w' => e = .returned (.tuple #[(.agg #[.int .i64 u0, .int .i64 u1, .int .i64 u2, .int .i64 u3, .int .i64 u4, .int .i64 u5]), .bool und]) ∧ Below w.heap.size w w') ∧
    (∀ w : World, TabZ w → Calls Tryz.prog 16 #[(.agg #[.int .i64 a0, .int .i64 a1, .int .i64 a2, .int .i64 a3, .int .i64 a4, .int .i64 a5])] w fun e w' => e = .returned (.tuple #[.int .i64 ord, .bool und]) ∧ Below w.heap.size w w') ∧
    (∀ w : World, Calls Tryz.prog 17 #[(.agg #[.int .i64 a0, .int .i64 a1, .int .i64 a2, .int .i64 a3, .int .i64 a4, .int .i64 a5])] w fun e w' => e = .returned (.tuple #[.int .i64 ord, .bool und]) ∧ Below w.heap.size w w') ∧
    (und = true → ok = true) ∧
    (∀ O, K O → O.length ≤ 36 ∧ (ok = true → rk + (O.length : Int) = 36 ∧ und = decide (O.length = 0)) ∧ (∀ i, i < O.length → (∀ w : World, Calls Tryz.prog 22 #[(.agg #[.int .i64 a0, .int .i64 a1, .int .i64 a2, .int .i64 a3, .int .i64 a4, .int .i64 a5]), (.agg #[.int .i64 (row (O.getD i 0) 0), .int .i64 (row (O.getD i 0) 1), .int .i64 (row (O.getD i 0) 2), .int .i64 (row (O.getD i 0) 3), .int .i64 (row (O.getD i 0) 4), .int .i64 (row (O.getD i 0) 5)])] w fun e w' => e = .returned (.tuple #[.bool true, .bool true]) ∧ Below w.heap.size w w') ∧ ¬ (row (O.getD i 0) 0 = 0 ∧ row (O.getD i 0) 1 = 0 ∧ row (O.getD i 0) 2 = 0 ∧ row (O.getD i 0) 3 = 0 ∧ row (O.getD i 0) 4 = 0 ∧ row (O.getD i 0) 5 = 0) ∧ (0 < i → (∀ w : World, Calls Tryz.prog 29 #[(.agg #[.int .i64 (row (O.getD i 0) 0), .int .i64 (row (O.getD i 0) 1), .int .i64 (row (O.getD i 0) 2), .int .i64 (row (O.getD i 0) 3), .int .i64 (row (O.getD i 0) 4), .int .i64 (row (O.getD i 0) 5)]), (.agg #[.int .i64 (row (O.getD (i - 1) 0) 0), .int .i64 (row (O.getD (i - 1) 0) 1), .int .i64 (row (O.getD (i - 1) 0) 2), .int .i64 (row (O.getD (i - 1) 0) 3), .int .i64 (row (O.getD (i - 1) 0) 4), .int .i64 (row (O.getD (i - 1) 0) 5)])] w fun e w' => e = .returned (.tuple #[.bool true, .bool true]) ∧ Below w.heap.size w w')))) ∧
    (und = true → ok = true ∧ (∃ n : Nat, ord = (n : Int) ∧ 1 ≤ n ∧ n ≤ 6 ∧ 6 % n = 0) ∧ (∀ w : World, Calls Tryz.prog 27 #[(.agg #[.int .i64 a0, .int .i64 a1, .int .i64 a2, .int .i64 a3, .int .i64 a4, .int .i64 a5]), (.agg #[.int .i64 u0, .int .i64 u1, .int .i64 u2, .int .i64 u3, .int .i64 u4, .int .i64 u5])] w fun e w' => e = .returned (.tuple #[.agg #[.int .i64 1, .int .i64 0, .int .i64 0, .int .i64 0, .int .i64 0, .int .i64 0], .bool true]) ∧ Below w.heap.size w w') ∧ (∀ w : World, Calls Tryz.prog 19 #[(.agg #[.int .i64 a0, .int .i64 a1, .int .i64 a2, .int .i64 a3, .int .i64 a4, .int .i64 a5]), .int .i64 ord] w fun e w' => e = .returned (.tuple #[.agg #[.int .i64 1, .int .i64 0, .int .i64 0, .int .i64 0, .int .i64 0, .int .i64 0], .bool true]) ∧ Below w.heap.size w w') ∧ ∃ sz : Nat, (∀ w : World, Calls Tryz.prog 28 #[(.agg #[.int .i64 a0, .int .i64 a1, .int .i64 a2, .int .i64 a3, .int .i64 a4, .int .i64 a5])] w fun e w' => e = .returned (.tuple #[.int .i64 (sz : Int), .bool true]) ∧ Below w.heap.size w w') ∧ sz ≤ 36 ∧ sz % 2 = 1) := by
  by_cases ha : Ok6 a0 a1 a2 a3 a4 a5
  · obtain ⟨X, hX, rfl, rfl, rfl, rfl, rfl, rfl⟩ := set_of_rows a0 a1 a2 a3 a4 a5 ha.1 ha.2.1 ha.2.2.1 ha.2.2.2.1 ha.2.2.2.2.1 ha.2.2.2.2.2
    clear ha
    obtain ⟨d, hd⟩ := ker_ex X
    by_cases h0 : d = 0
    · subst h0
      obtain ⟨n, hn⟩ := (hd.ord hX).2 rfl
      refine ⟨true, true, 36, (n : Int), row (pwN X 5) 0, row (pwN X 5) 1, row (pwN X 5) 2, row (pwN X 5) 3, row (pwN X 5) 4, row (pwN X 5) 5, KOf X, fun w hz => (implKernel_ok X hX w hz).mono fun e w' ⟨v, O, h1, h2, h3, h4⟩ => ⟨v, O, h1, h2.reads, h3, h4⟩, fun w => (specKernel_ok X hX w).mono fun e w' ⟨v, O, B, h1, h2, h3, h4⟩ => ⟨v, O, h1, h2.reads, h3, h4⟩, fun O O' h h' => h.uniq h', fun w => implIsSheet_ok X hX w,
        fun w hz => by have h := implRankOf_ok X 0 hX hd w hz; simpa using h, fun w => by have h := specRankOf_ok X 0 hX hd w; simpa using h, fun w hz => by have h := implIsUndoable_ok X 0 hX hd w hz; simpa using h, fun w => by have h := specIsUndoable_ok X 0 hX hd w; simpa using h,
        fun w hz => implUndoStamp_ok X hX hd w hz, fun w => specUndoStamp_ok X hX hd w, fun w hz => implStampOrder_ok X n hX hn w hz, fun w => specStampOrder_ok X n hX hn w, fun _ => rfl, fun O hO => ⟨hO.2, fun _ => ⟨by have := hO.len hd; omega, by have := hO.len hd; simp [this]⟩, fun i hi => by
          have hm : O.getD i 0 ∈ O := by rw [List.getD_eq_getElem?_getD, List.getElem?_eq_getElem hi]; exact List.getElem_mem hi
          obtain ⟨hv, h0, hne⟩ := hO.mem hm
          refine ⟨fun w => by have h := implIsQuiet_ok X (O.getD i 0) hX hv w; rw [h0] at h; simpa using h, fun hz => hne ?_, fun h1 w => ?_⟩
          · have hr0 : ∀ y, row 0 y = 0 := fun y => by unfold row; simp
            exact eq_of_rows _ 0 hv (by unfold Vs; omega) (hz.1.trans (hr0 0).symm) (hz.2.1.trans (hr0 1).symm) (hz.2.2.1.trans (hr0 2).symm) (hz.2.2.2.1.trans (hr0 3).symm) (hz.2.2.2.2.1.trans (hr0 4).symm) (hz.2.2.2.2.2.trans (hr0 5).symm)
          · have hm' : O.getD (i - 1) 0 ∈ O := by rw [List.getD_eq_getElem?_getD, List.getElem?_eq_getElem (show i - 1 < O.length by omega)]; exact List.getElem_mem _
            have h := implLessSheet_ok (O.getD i 0) (O.getD (i - 1) 0) hv (hO.mem hm').1 w
            have hf := hO.falls (i - 1) (by omega)
            rw [show i - 1 + 1 = i by omega] at hf
            rw [hf] at h
            exact h⟩, fun _ => ⟨rfl, ⟨n, rfl, hn.1, hn.2.1, hn.six hX⟩, fun w => ?_, fun w => ?_, popN X, fun w => implSizeOf_ok X hX w, ?_, odd_of hX hd.none⟩⟩
      · have h := implPrintOf_ok X (pwN X 5) hX (pwN_vs X 5) w
        rw [undo_can hX hd.none] at h
        exact h
      · have h := implPowerOf_ok X n hX (by have := hn.2.1; omega) w
        rw [hn.2.2.1] at h
        exact h
      · exact pop_le X
    · refine ⟨true, false, 36 - (d : Int), 0, 0, 0, 0, 0, 0, 0, KOf X, fun w hz => (implKernel_ok X hX w hz).mono fun e w' ⟨v, O, h1, h2, h3, h4⟩ => ⟨v, O, h1, h2.reads, h3, h4⟩, fun w => (specKernel_ok X hX w).mono fun e w' ⟨v, O, B, h1, h2, h3, h4⟩ => ⟨v, O, h1, h2.reads, h3, h4⟩, fun O O' h h' => h.uniq h', fun w => implIsSheet_ok X hX w, fun w hz => implRankOf_ok X d hX hd w hz, fun w => specRankOf_ok X d hX hd w,
        fun w hz => by have h := implIsUndoable_ok X d hX hd w hz; simpa [h0] using h, fun w => by have h := specIsUndoable_ok X d hX hd w; simpa [h0] using h,
        fun w hz => implUndoStamp_out X d hX hd h0 w hz, fun w => specUndoStamp_out X d hX hd h0 w, fun w hz => implStampOrder_none X hX (fun hk => h0 (hd.zero_of hk)) w hz, fun w => specStampOrder_none X hX (no_ord hX fun n hn => h0 ((hd.ord hX).1 ⟨n, hn⟩)).2 w, fun h => by simp at h, fun O hO => ⟨hO.2, fun _ => ⟨by have := hO.len hd; omega, by have := hO.len hd; simp [this, h0]⟩, fun i hi => by
          have hm : O.getD i 0 ∈ O := by rw [List.getD_eq_getElem?_getD, List.getElem?_eq_getElem hi]; exact List.getElem_mem hi
          obtain ⟨hv, h0, hne⟩ := hO.mem hm
          refine ⟨fun w => by have h := implIsQuiet_ok X (O.getD i 0) hX hv w; rw [h0] at h; simpa using h, fun hz => hne ?_, fun h1 w => ?_⟩
          · have hr0 : ∀ y, row 0 y = 0 := fun y => by unfold row; simp
            exact eq_of_rows _ 0 hv (by unfold Vs; omega) (hz.1.trans (hr0 0).symm) (hz.2.1.trans (hr0 1).symm) (hz.2.2.1.trans (hr0 2).symm) (hz.2.2.2.1.trans (hr0 3).symm) (hz.2.2.2.2.1.trans (hr0 4).symm) (hz.2.2.2.2.2.trans (hr0 5).symm)
          · have hm' : O.getD (i - 1) 0 ∈ O := by rw [List.getD_eq_getElem?_getD, List.getElem?_eq_getElem (show i - 1 < O.length by omega)]; exact List.getElem_mem _
            have h := implLessSheet_ok (O.getD i 0) (O.getD (i - 1) 0) hv (hO.mem hm').1 w
            have hf := hO.falls (i - 1) (by omega)
            rw [show i - 1 + 1 = i by omega] at hf
            rw [hf] at h
            exact h⟩, fun h => by simp at h⟩
  · refine ⟨false, false, 0, 0, 0, 0, 0, 0, 0, 0, fun O => O = [], fun w hz => (implKernel_no a0 a1 a2 a3 a4 a5 ha w).mono fun e w' ⟨h1, h2⟩ => ⟨_, [], h1, .inl ⟨rfl, rfl⟩, rfl, h2⟩, fun w => (specKernel_no a0 a1 a2 a3 a4 a5 ha w).mono fun e w' ⟨v, B, h1, h2, h3⟩ => ⟨v, [], h1, h2.reads, rfl, h3⟩, fun O O' h h' => by rw [h, h'], fun w => implIsSheet_no a0 a1 a2 a3 a4 a5 ha w,
        fun w hz => implRankOf_no a0 a1 a2 a3 a4 a5 ha w, fun w => specRankOf_no a0 a1 a2 a3 a4 a5 ha w, fun w hz => implIsUndoable_no a0 a1 a2 a3 a4 a5 ha w, fun w => specIsUndoable_no a0 a1 a2 a3 a4 a5 ha w, fun w hz => implUndoStamp_no a0 a1 a2 a3 a4 a5 ha w, fun w => specUndoStamp_no a0 a1 a2 a3 a4 a5 ha w, fun w hz => implStampOrder_no a0 a1 a2 a3 a4 a5 ha w, fun w => specStampOrder_no a0 a1 a2 a3 a4 a5 ha w, fun h => by simp at h, fun O hO => ?_, fun h => by simp at h⟩
    subst hO
    exact ⟨by simp, fun h => by simp at h, fun i hi => absurd hi (Nat.not_lt_zero _)⟩
end Go.Proofs.YtgjgefbcfcomcaaGreatDoor
namespace Go.Proofs.YtgjgefbcfcomcaaGreatDoor
open Go.RowKit
set_option linter.unusedSimpArgs false
set_option linter.unusedVariables false

theorem pow_uni (s0 s1 s2 s3 s4 s5 n : Int) : ∃ (r0 r1 r2 r3 r4 r5 : Int) (b : Bool), (∀ w : World, Calls Tryz.prog 19 #[(.agg #[.int .i64 s0, .int .i64 s1, .int .i64 s2, .int .i64 s3, .int .i64 s4, .int .i64 s5]), .int .i64 n] w fun e w' => e = .returned (.tuple #[(.agg #[.int .i64 r0, .int .i64 r1, .int .i64 r2, .int .i64 r3, .int .i64 r4, .int .i64 r5]), .bool b]) ∧ Below w.heap.size w w') ∧ (∀ w : World, Calls Tryz.prog 20 #[(.agg #[.int .i64 s0, .int .i64 s1, .int .i64 s2, .int .i64 s3, .int .i64 s4, .int .i64 s5]), .int .i64 n] w fun e w' => e = .returned (.tuple #[(.agg #[.int .i64 r0, .int .i64 r1, .int .i64 r2, .int .i64 r3, .int .i64 r4, .int .i64 r5]), .bool b]) ∧ Below w.heap.size w w') := by
  by_cases ha : Ok6 s0 s1 s2 s3 s4 s5
  · obtain ⟨X, hX, rfl, rfl, rfl, rfl, rfl, rfl⟩ := set_of_rows s0 s1 s2 s3 s4 s5 ha.1 ha.2.1 ha.2.2.1 ha.2.2.2.1 ha.2.2.2.2.1 ha.2.2.2.2.2
    by_cases hn : 0 ≤ n ∧ n ≤ 24
    · obtain ⟨m, rfl⟩ : ∃ m : Nat, n = (m : Int) := ⟨n.toNat, by omega⟩
      exact ⟨row (pwN X m) 0, row (pwN X m) 1, row (pwN X m) 2, row (pwN X m) 3, row (pwN X m) 4, row (pwN X m) 5, true, fun w => implPowerOf_ok X m hX (by omega) w, fun w => specPowerOf_ok X m hX (by omega) w⟩
    · exact ⟨0, 0, 0, 0, 0, 0, false, fun w => implPowerOf_out X n hX hn w, fun w => specPowerOf_out X n hX hn w⟩
  · exact ⟨0, 0, 0, 0, 0, 0, false, fun w => implPowerOf_no _ _ _ _ _ _ n ha w, fun w => specPowerOf_no _ _ _ _ _ _ n ha w⟩
theorem isq_uni (t0 t1 t2 t3 t4 t5 p0 p1 p2 p3 p4 p5 : Int) : ∃ (q b : Bool), (∀ w : World, Calls Tryz.prog 22 #[(.agg #[.int .i64 t0, .int .i64 t1, .int .i64 t2, .int .i64 t3, .int .i64 t4, .int .i64 t5]), (.agg #[.int .i64 p0, .int .i64 p1, .int .i64 p2, .int .i64 p3, .int .i64 p4, .int .i64 p5])] w fun e w' => e = .returned (.tuple #[.bool q, .bool b]) ∧ Below w.heap.size w w') ∧ (∀ w : World, Calls Tryz.prog 23 #[(.agg #[.int .i64 t0, .int .i64 t1, .int .i64 t2, .int .i64 t3, .int .i64 t4, .int .i64 t5]), (.agg #[.int .i64 p0, .int .i64 p1, .int .i64 p2, .int .i64 p3, .int .i64 p4, .int .i64 p5])] w fun e w' => e = .returned (.tuple #[.bool q, .bool b]) ∧ Below w.heap.size w w') := by
  by_cases hab : Ok6 t0 t1 t2 t3 t4 t5 ∧ Ok6 p0 p1 p2 p3 p4 p5
  · obtain ⟨ha, hb⟩ := hab
    obtain ⟨X, hX, rfl, rfl, rfl, rfl, rfl, rfl⟩ := set_of_rows t0 t1 t2 t3 t4 t5 ha.1 ha.2.1 ha.2.2.1 ha.2.2.2.1 ha.2.2.2.2.1 ha.2.2.2.2.2
    obtain ⟨Y, hY, rfl, rfl, rfl, rfl, rfl, rfl⟩ := set_of_rows p0 p1 p2 p3 p4 p5 hb.1 hb.2.1 hb.2.2.1 hb.2.2.2.1 hb.2.2.2.2.1 hb.2.2.2.2.2
    exact ⟨decide (printS X Y = 0), true, fun w => implIsQuiet_ok X Y hX hY w, fun w => specIsQuiet_ok X Y hX hY w⟩
  · exact ⟨false, false, fun w => implIsQuiet_no _ _ _ _ _ _ _ _ _ _ _ _ hab w, fun w => specIsQuiet_no _ _ _ _ _ _ _ _ _ _ _ _ hab w⟩
theorem quiet_uni (n : Nat) (Z : List Int) : ∃ (m : Int) (b : Bool),
    (∀ v W, ReadsZ W v n Z → Calls Tryz.prog 26 #[v] W fun e w' => e = .returned (.tuple #[.int .i64 m, .bool b]) ∧ Below W.heap.size W w') ∧
    (∀ v W, ReadsZ W v n Z → TabZ W → Calls Tryz.prog 25 #[v] W fun e w' => e = .returned (.tuple #[.int .i64 m, .bool b]) ∧ Below W.heap.size W w') ∧
    (b = true → n ≤ 6 ∧ ∀ i, i < n → ∃ d : Nat, d ≤ 36 ∧ (∀ w : World, TabZ w → Calls Tryz.prog 10 #[.agg #[.int .i64 (Z.getD (i * 6) 0), .int .i64 (Z.getD (i * 6 + 1) 0), .int .i64 (Z.getD (i * 6 + 2) 0), .int .i64 (Z.getD (i * 6 + 3) 0), .int .i64 (Z.getD (i * 6 + 4) 0), .int .i64 (Z.getD (i * 6 + 5) 0)]] w fun e w' => e = .returned (.tuple #[.int .i64 (36 - (d : Int)), .bool true]) ∧ Below w.heap.size w w') ∧ m ≤ (d : Int) ∧ (n = 1 → m = (d : Int))) := by
  by_cases h6 : 6 < n
  · refine ⟨0, false, fun v W h => ?_, fun v W h _ => ?_, fun h => by simp at h⟩
    · obtain ⟨a, c, rfl⟩ := readsZ_form h
      exact specQuiet_long a n c h6 W
    · obtain ⟨a, c, rfl⟩ := readsZ_form h
      exact implQuiet_long a n c h6 W
  · obtain ⟨k0, Xs, h1, h2, h3, h4⟩ := pre_ex Z n
    obtain ⟨L0, hL0⟩ := QD.run (Z := Z) k0 Xs h2
    by_cases e : k0 = n
    · refine ⟨(L0.length : Int), true, fun v W h => specQuiet_run n k0 L0.length Z Xs L0 (by omega) h1 h2 h3 h4 hL0 rfl _ (fun _ => rfl) (fun g => absurd e g) v W h,
        fun v W h hz => implQuiet_run n k0 L0.length Z Xs L0 (by omega) h1 h2 h3 h4 hL0 rfl _ (fun _ => rfl) (fun g => absurd e g) v W h hz, fun _ => ⟨by omega, fun i hi => ?_⟩⟩
      obtain ⟨hv, z0, z1, z2, z3, z4, z5⟩ := h3 i (by omega)
      have hm : Xs.getD i 0 ∈ Xs := by rw [List.getD_eq_getElem?_getD, List.getElem?_eq_getElem (by omega)]; exact List.getElem_mem _
      obtain ⟨d, hd⟩ := ker_ex (Xs.getD i 0)
      refine ⟨d, hd.le, fun w hz => ?_, ?_, fun h => ?_⟩
      · rw [z0, z1, z2, z3, z4, z5]
        exact implRankOf_ok _ d hv hd w hz
      · have := hL0.under hm hd
        omega
      · have e1 : Xs = [Xs.getD i 0] := by
          obtain ⟨x, hx⟩ := List.length_eq_one_iff.1 (h2.trans (e.trans h))
          have hi0 : i = 0 := by omega
          subst hx hi0
          rfl
        rw [e1] at hL0
        have := hL0.alone hd
        omega
    · exact ⟨0, false, fun v W h => specQuiet_run n k0 L0.length Z Xs L0 (by omega) h1 h2 h3 h4 hL0 rfl _ (fun g => absurd g e) (fun _ => rfl) v W h,
        fun v W h hz => implQuiet_run n k0 L0.length Z Xs L0 (by omega) h1 h2 h3 h4 hL0 rfl _ (fun g => absurd g e) (fun _ => rfl) v W h hz, fun h => by simp at h⟩
end Go.Proofs.YtgjgefbcfcomcaaGreatDoor
