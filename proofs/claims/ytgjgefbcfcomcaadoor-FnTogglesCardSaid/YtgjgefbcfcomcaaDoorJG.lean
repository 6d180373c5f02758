/-
  FnToggles: plain facts on prints, on the least and on the fewest presses. Plain mathematics, no program.  What the calls of FnToggles answer, for any stamp and any target at once. Under: where it says TabZ, the library's table of the lowest bits lies as its initialiser lays it. No conditions.
-/
import Derived.Test.YtgjgefbcfcomcaaDoorUr
import Derived.Test.YtgjgefbcfcomcaaDoorVd
import Derived.Test.YtgjgefbcfcomcaaDoorUt
import Derived.Test.YtgjgefbcfcomcaaDoorVe
import Derived.Test.YtgjgefbcfcomcaaDoorCi
import Derived.Test.YtgjgefbcfcomcaaDoorLTwo
import Derived.Test.YtgjgefbcfcomcaaDoorMathG
namespace Go.Proofs.YtgjgefbcfcomcaaDoor

theorem Lst.least {X t z b : Nat} (h : Lst X t z) (hb : Vs b) (h0 : printS X b = 0) (hne : b ≠ 0) : rkN z < rkN (z ^^^ b) := by
  have hl : ldN b < 36 := Nat.lt_of_le_of_ne (ldN_le _) (fun e => hne ((ldN_zero _ hb).1 e))
  have hz := h.2.2 b hb h0 hne
  refine lt_tb (35 - ldN b) ?_ ?_ fun j hj => ?_
  · rw [rk_ldc _ _ hl, hz]
  · rw [rk_ldc _ _ hl, Nat.testBit_xor, hz, ldN_bit b hl]; rfl
  · rw [rk_lin, Nat.testBit_xor]
    have : (rkN b).testBit j = false := by
      by_cases h36 : j < 36
      · have e := rk_ldc b (35 - j) (by omega)
        rw [show 35 - (35 - j) = j by omega] at e
        rw [e]
        exact ldN_first b _ (by omega)
      · have := Nat.pow_le_pow_right (n := 2) (by omega) (show 36 ≤ j by omega)
        have := rkN_lt b
        exact Nat.testBit_lt_two_pow (by omega)
    rw [this, Bool.xor_false]
theorem FwOf.prop {X t d f z : Nat} (h : FwOf X t d f) (hd : KerD X d) (hz : Vs z) (hp : printS X z = t) : Vs f ∧ printS X f = t ∧ popN f ≤ popN z := by
  obtain ⟨P, Q, L, hS⟩ := ts_ex X 36 (Nat.le_refl _)
  have hk := KB.of_ts hS hd
  have e := h L z hk hz hp
  subst e
  refine ⟨hk.fw_vs hz, ?_, ?_⟩
  · unfold fwN
    rw [print_lin, ((hk.sp _).1 (cs_all L _)).2, Nat.xor_zero, hp]
  · have h1 := amN_le (fun n => ky (z ^^^ cs L n L.length)) (2 ^ L.length) 0 (Nat.two_pow_pos _)
    rw [cs_zero, Nat.xor_zero] at h1
    have h2 : ky (fwN L z) ≤ ky z := h1
    have := rkN_lt (fwN L z)
    have := rkN_lt z
    unfold ky at h2
    omega
end Go.Proofs.YtgjgefbcfcomcaaDoor
namespace Go.Proofs.YtgjgefbcfcomcaaDoor
open Go.RowKit
set_option linter.unusedSimpArgs false
set_option linter.unusedVariables false

theorem ldN_zero' : ldN 0 = 36 := by decide
theorem toggles_uni (a0 a1 a2 a3 a4 a5 b0 b1 b2 b3 b4 b5 : Int) : ∃ (l0 l1 l2 l3 l4 l5 f0 f1 f2 f3 f4 f5 sz : Int) (one can two : Bool), 
    (∀ w : World, TabZ w → Calls Tryd.prog 33 #[(.agg #[.int .i64 a0, .int .i64 a1, .int .i64 a2, .int .i64 a3, .int .i64 a4, .int .i64 a5]), (.agg #[.int .i64 b0, .int .i64 b1, .int .i64 b2, .int .i64 b3, .int .i64 b4, .int .i64 b5])] w fun e w' => e = .returned (.tuple #[(.agg #[.int .i64 l0, .int .i64 l1, .int .i64 l2, .int .i64 l3, .int .i64 l4, .int .i64 l5]), .bool (one && can)]) ∧ Below w.heap.size w w') ∧
    (∀ w : World, Calls Tryd.prog 32 #[(.agg #[.int .i64 a0, .int .i64 a1, .int .i64 a2, .int .i64 a3, .int .i64 a4, .int .i64 a5]), (.agg #[.int .i64 b0, .int .i64 b1, .int .i64 b2, .int .i64 b3, .int .i64 b4, .int .i64 b5])] w fun e w' => e = .returned (.tuple #[(.agg #[.int .i64 l0, .int .i64 l1, .int .i64 l2, .int .i64 l3, .int .i64 l4, .int .i64 l5]), .bool (one && can)]) ∧ Below w.heap.size w w') ∧
    (∀ w : World, TabZ w → Calls Tryd.prog 15 #[(.agg #[.int .i64 a0, .int .i64 a1, .int .i64 a2, .int .i64 a3, .int .i64 a4, .int .i64 a5]), (.agg #[.int .i64 b0, .int .i64 b1, .int .i64 b2, .int .i64 b3, .int .i64 b4, .int .i64 b5])] w fun e w' => e = .returned (.tuple #[.bool can, .bool one]) ∧ Below w.heap.size w w') ∧
    (∀ w : World, Calls Tryd.prog 13 #[(.agg #[.int .i64 a0, .int .i64 a1, .int .i64 a2, .int .i64 a3, .int .i64 a4, .int .i64 a5]), (.agg #[.int .i64 b0, .int .i64 b1, .int .i64 b2, .int .i64 b3, .int .i64 b4, .int .i64 b5])] w fun e w' => e = .returned (.tuple #[.bool can, .bool one]) ∧ Below w.heap.size w w') ∧
    (∀ w : World, TabZ w → Calls Tryd.prog 31 #[(.agg #[.int .i64 a0, .int .i64 a1, .int .i64 a2, .int .i64 a3, .int .i64 a4, .int .i64 a5]), (.agg #[.int .i64 b0, .int .i64 b1, .int .i64 b2, .int .i64 b3, .int .i64 b4, .int .i64 b5])] w fun e w' => e = .returned (.tuple #[(.agg #[.int .i64 f0, .int .i64 f1, .int .i64 f2, .int .i64 f3, .int .i64 f4, .int .i64 f5]), .int .i64 sz, .bool two]) ∧ Below w.heap.size w w') ∧
    (∀ w : World, Calls Tryd.prog 30 #[(.agg #[.int .i64 a0, .int .i64 a1, .int .i64 a2, .int .i64 a3, .int .i64 a4, .int .i64 a5]), (.agg #[.int .i64 b0, .int .i64 b1, .int .i64 b2, .int .i64 b3, .int .i64 b4, .int .i64 b5])] w fun e w' => e = .returned (.tuple #[(.agg #[.int .i64 f0, .int .i64 f1, .int .i64 f2, .int .i64 f3, .int .i64 f4, .int .i64 f5]), .int .i64 sz, .bool two]) ∧ Below w.heap.size w w') ∧
    (two = true → (one && can) = true ∧ (∀ w : World, Calls Tryd.prog 41 #[(.agg #[.int .i64 a0, .int .i64 a1, .int .i64 a2, .int .i64 a3, .int .i64 a4, .int .i64 a5]), (.agg #[.int .i64 f0, .int .i64 f1, .int .i64 f2, .int .i64 f3, .int .i64 f4, .int .i64 f5])] w fun e w' => e = .returned (.tuple #[(.agg #[.int .i64 b0, .int .i64 b1, .int .i64 b2, .int .i64 b3, .int .i64 b4, .int .i64 b5]), .bool true]) ∧ Below w.heap.size w w') ∧ (∀ w : World, Calls Tryd.prog 43 #[(.agg #[.int .i64 f0, .int .i64 f1, .int .i64 f2, .int .i64 f3, .int .i64 f4, .int .i64 f5])] w fun e w' => e = .returned (.tuple #[.int .i64 sz, .bool true]) ∧ Below w.heap.size w w') ∧ ∃ most : Int, (∀ w : World, Calls Tryd.prog 43 #[(.agg #[.int .i64 l0, .int .i64 l1, .int .i64 l2, .int .i64 l3, .int .i64 l4, .int .i64 l5])] w fun e w' => e = .returned (.tuple #[.int .i64 most, .bool true]) ∧ Below w.heap.size w w') ∧ sz ≤ most) ∧
    ((one && can) = true → (∀ w : World, Calls Tryd.prog 41 #[(.agg #[.int .i64 a0, .int .i64 a1, .int .i64 a2, .int .i64 a3, .int .i64 a4, .int .i64 a5]), (.agg #[.int .i64 l0, .int .i64 l1, .int .i64 l2, .int .i64 l3, .int .i64 l4, .int .i64 l5])] w fun e w' => e = .returned (.tuple #[(.agg #[.int .i64 b0, .int .i64 b1, .int .i64 b2, .int .i64 b3, .int .i64 b4, .int .i64 b5]), .bool true]) ∧ Below w.heap.size w w') ∧ (∀ w : World, TabZ w → Calls Tryd.prog 35 #[(.agg #[.int .i64 a0, .int .i64 a1, .int .i64 a2, .int .i64 a3, .int .i64 a4, .int .i64 a5])] w fun e w' => ∃ vo O, e = .returned (.tuple #[vo, .bool true]) ∧ OwnsS w' w.heap.size vo O ∧ O.length ≤ 36 ∧ (∀ x, x ∈ O → ∃ o0 o1 o2 o3 o4 o5 : Int, (∀ w : World, Calls Tryd.prog 44 #[(.agg #[.int .i64 l0, .int .i64 l1, .int .i64 l2, .int .i64 l3, .int .i64 l4, .int .i64 l5]), (.agg #[.int .i64 (row x 0), .int .i64 (row x 1), .int .i64 (row x 2), .int .i64 (row x 3), .int .i64 (row x 4), .int .i64 (row x 5)])] w fun e w' => e = .returned (.tuple #[(.agg #[.int .i64 o0, .int .i64 o1, .int .i64 o2, .int .i64 o3, .int .i64 o4, .int .i64 o5]), .bool true]) ∧ Below w.heap.size w w') ∧ (∀ w : World, Calls Tryd.prog 41 #[(.agg #[.int .i64 a0, .int .i64 a1, .int .i64 a2, .int .i64 a3, .int .i64 a4, .int .i64 a5]), (.agg #[.int .i64 o0, .int .i64 o1, .int .i64 o2, .int .i64 o3, .int .i64 o4, .int .i64 o5])] w fun e w' => e = .returned (.tuple #[(.agg #[.int .i64 b0, .int .i64 b1, .int .i64 b2, .int .i64 b3, .int .i64 b4, .int .i64 b5]), .bool true]) ∧ Below w.heap.size w w') ∧ (∀ w : World, Calls Tryd.prog 45 #[(.agg #[.int .i64 o0, .int .i64 o1, .int .i64 o2, .int .i64 o3, .int .i64 o4, .int .i64 o5]), (.agg #[.int .i64 l0, .int .i64 l1, .int .i64 l2, .int .i64 l3, .int .i64 l4, .int .i64 l5])] w fun e w' => e = .returned (.tuple #[.bool false, .bool true]) ∧ Below w.heap.size w w')) ∧ Below w.heap.size w w')) := by
  by_cases hab : Ok6 a0 a1 a2 a3 a4 a5 ∧ Ok6 b0 b1 b2 b3 b4 b5
  · obtain ⟨ha, hb⟩ := hab
    obtain ⟨X, hX, rfl, rfl, rfl, rfl, rfl, rfl⟩ := set_of_rows a0 a1 a2 a3 a4 a5 ha.1 ha.2.1 ha.2.2.1 ha.2.2.2.1 ha.2.2.2.2.1 ha.2.2.2.2.2
    obtain ⟨Y, hY, rfl, rfl, rfl, rfl, rfl, rfl⟩ := set_of_rows b0 b1 b2 b3 b4 b5 hb.1 hb.2.1 hb.2.2.1 hb.2.2.2.1 hb.2.2.2.2.1 hb.2.2.2.2.2
    clear ha hb
    obtain ⟨d, hd⟩ := ker_ex X
    by_cases hC : CanT X Y
    · obtain ⟨z, hL⟩ := Lst.ex X Y hC
      by_cases h12 : d ≤ 12
      · obtain ⟨f, hF, hfv⟩ := FwOf.ex X Y d hd hC
        obtain ⟨_, hfp, hfl⟩ := hF.prop hd hL.1 hL.2.1
        refine ⟨row z 0, row z 1, row z 2, row z 3, row z 4, row z 5, row f 0, row f 1, row f 2, row f 3, row f 4, row f 5, (popN f : Nat), true, true, true, fun w hz => implLeast_ok X Y z hX hY hC hL w hz, fun w => specLeast_z X Y z hX hY hC hL w, fun w hz => implCanToggle_ok X Y true hX hY (by simp [hC]) w hz, fun w => specCanToggle_ok X Y true hX hY (by simp [hC]) w,
          fun w hz => implFewest_ok X Y d f hX hY hd h12 hC hF w hz, fun w => specFewest_ok X Y d f hX hY hd h12 hC hF w, fun _ => ⟨rfl, fun w => by have h := implPrintOf_ok X f hX hfv w; rw [hfp] at h; exact h, fun w => implSizeOf_ok f hfv w, (popN z : Nat), fun w => implSizeOf_ok z hL.1 w, by omega⟩, fun _ => ⟨fun w => by have h := implPrintOf_ok X z hX hL.1 w; rw [hL.2.1] at h; exact h, fun w hz => (implKernel_ok X hX w hz).mono fun e w' ⟨v, O, h1, h2, hK, h4⟩ => ⟨v, O, h1, h2, hK.2, fun x hx => by
          obtain ⟨Lb, hB, hS⟩ := hK.1
          have hv := (hB.lead x hx).1
          have hl := (hB.lead x hx).2
          have h0 : printS X x = 0 := ((hS x).1 ((hB.sp x).1 (sp_mem O x hx))).2
          have hne : x ≠ 0 := fun e => by subst e; rw [ldN_zero'] at hl; omega
          refine ⟨row (z ^^^ x) 0, row (z ^^^ x) 1, row (z ^^^ x) 2, row (z ^^^ x) 3, row (z ^^^ x) 4, row (z ^^^ x) 5, fun w => implDifferOf_ok z x hL.1 hv w, fun w => ?_, fun w => ?_⟩
          · have h := implPrintOf_ok X (z ^^^ x) hX (hL.1.xor hv) w
            rw [print_lin, h0, Nat.xor_zero, hL.2.1] at h
            exact h
          · have h := implLessSheet_ok (z ^^^ x) z (hL.1.xor hv) hL.1 w
            have e : lessB (z ^^^ x) z = false := by
              rw [lessB_rk]
              have := hL.least hv h0 hne
              simp
              omega
            rw [e] at h
            exact h, h4⟩⟩⟩
      · have hbig : 12 < d := by omega
        refine ⟨row z 0, row z 1, row z 2, row z 3, row z 4, row z 5, 0, 0, 0, 0, 0, 0, 0, true, true, false, fun w hz => implLeast_ok X Y z hX hY hC hL w hz, fun w => specLeast_z X Y z hX hY hC hL w, fun w hz => implCanToggle_ok X Y true hX hY (by simp [hC]) w hz, fun w => specCanToggle_ok X Y true hX hY (by simp [hC]) w,
          fun w hz => implFewest_big X Y d hX hY hd hbig hC w hz, fun w => specFewest_big X Y d hX hY hd hbig hC w, fun h => by simp at h, fun _ => ⟨fun w => by have h := implPrintOf_ok X z hX hL.1 w; rw [hL.2.1] at h; exact h, fun w hz => (implKernel_ok X hX w hz).mono fun e w' ⟨v, O, h1, h2, hK, h4⟩ => ⟨v, O, h1, h2, hK.2, fun x hx => by
          obtain ⟨Lb, hB, hS⟩ := hK.1
          have hv := (hB.lead x hx).1
          have hl := (hB.lead x hx).2
          have h0 : printS X x = 0 := ((hS x).1 ((hB.sp x).1 (sp_mem O x hx))).2
          have hne : x ≠ 0 := fun e => by subst e; rw [ldN_zero'] at hl; omega
          refine ⟨row (z ^^^ x) 0, row (z ^^^ x) 1, row (z ^^^ x) 2, row (z ^^^ x) 3, row (z ^^^ x) 4, row (z ^^^ x) 5, fun w => implDifferOf_ok z x hL.1 hv w, fun w => ?_, fun w => ?_⟩
          · have h := implPrintOf_ok X (z ^^^ x) hX (hL.1.xor hv) w
            rw [print_lin, h0, Nat.xor_zero, hL.2.1] at h
            exact h
          · have h := implLessSheet_ok (z ^^^ x) z (hL.1.xor hv) hL.1 w
            have e : lessB (z ^^^ x) z = false := by
              rw [lessB_rk]
              have := hL.least hv h0 hne
              simp
              omega
            rw [e] at h
            exact h, h4⟩⟩⟩
    · exact ⟨0, 0, 0, 0, 0, 0, 0, 0, 0, 0, 0, 0, 0, true, false, false, fun w hz => implLeast_cant X Y hX hY hC w hz, fun w => specLeast_cant X Y hX hY hC w, fun w hz => implCanToggle_ok X Y false hX hY (by simp [hC]) w hz, fun w => specCanToggle_ok X Y false hX hY (by simp [hC]) w,
          fun w hz => implFewest_cant X Y d hX hY hd hC w hz, fun w => specFewest_cant X Y hX hY hC w, fun h => by simp at h, fun h => by simp at h⟩
  · exact ⟨0, 0, 0, 0, 0, 0, 0, 0, 0, 0, 0, 0, 0, false, false, false, fun w hz => implLeast_no _ _ _ _ _ _ _ _ _ _ _ _ hab w, fun w => specLeast_no _ _ _ _ _ _ _ _ _ _ _ _ hab w, fun w hz => implCanToggle_no _ _ _ _ _ _ _ _ _ _ _ _ hab w, fun w => specCanToggle_no _ _ _ _ _ _ _ _ _ _ _ _ hab w,
          fun w hz => implFewest_no _ _ _ _ _ _ _ _ _ _ _ _ hab w, fun w => specFewest_no _ _ _ _ _ _ _ _ _ _ _ _ hab w, fun h => by simp at h, fun h => by simp at h⟩
theorem print_uni (s0 s1 s2 s3 s4 s5 p0 p1 p2 p3 p4 p5 : Int) : ∃ (r0 r1 r2 r3 r4 r5 : Int) (three : Bool), (∀ w : World, Calls Tryd.prog 41 #[(.agg #[.int .i64 s0, .int .i64 s1, .int .i64 s2, .int .i64 s3, .int .i64 s4, .int .i64 s5]), (.agg #[.int .i64 p0, .int .i64 p1, .int .i64 p2, .int .i64 p3, .int .i64 p4, .int .i64 p5])] w fun e w' => e = .returned (.tuple #[(.agg #[.int .i64 r0, .int .i64 r1, .int .i64 r2, .int .i64 r3, .int .i64 r4, .int .i64 r5]), .bool three]) ∧ Below w.heap.size w w') ∧ (∀ w : World, Calls Tryd.prog 42 #[(.agg #[.int .i64 s0, .int .i64 s1, .int .i64 s2, .int .i64 s3, .int .i64 s4, .int .i64 s5]), (.agg #[.int .i64 p0, .int .i64 p1, .int .i64 p2, .int .i64 p3, .int .i64 p4, .int .i64 p5])] w fun e w' => e = .returned (.tuple #[(.agg #[.int .i64 r0, .int .i64 r1, .int .i64 r2, .int .i64 r3, .int .i64 r4, .int .i64 r5]), .bool three]) ∧ Below w.heap.size w w') ∧ (three = true → (∀ w : World, Calls Tryd.prog 41 #[(.agg #[.int .i64 p0, .int .i64 p1, .int .i64 p2, .int .i64 p3, .int .i64 p4, .int .i64 p5]), (.agg #[.int .i64 s0, .int .i64 s1, .int .i64 s2, .int .i64 s3, .int .i64 s4, .int .i64 s5])] w fun e w' => e = .returned (.tuple #[(.agg #[.int .i64 r0, .int .i64 r1, .int .i64 r2, .int .i64 r3, .int .i64 r4, .int .i64 r5]), .bool true]) ∧ Below w.heap.size w w') ∧ (∀ w : World, TabZ w → Calls Tryd.prog 15 #[(.agg #[.int .i64 s0, .int .i64 s1, .int .i64 s2, .int .i64 s3, .int .i64 s4, .int .i64 s5]), (.agg #[.int .i64 r0, .int .i64 r1, .int .i64 r2, .int .i64 r3, .int .i64 r4, .int .i64 r5])] w fun e w' => e = .returned (.tuple #[.bool true, .bool true]) ∧ Below w.heap.size w w')) := by
  by_cases hab : Ok6 s0 s1 s2 s3 s4 s5 ∧ Ok6 p0 p1 p2 p3 p4 p5
  · obtain ⟨ha, hb⟩ := hab
    obtain ⟨X, hX, rfl, rfl, rfl, rfl, rfl, rfl⟩ := set_of_rows s0 s1 s2 s3 s4 s5 ha.1 ha.2.1 ha.2.2.1 ha.2.2.2.1 ha.2.2.2.2.1 ha.2.2.2.2.2
    obtain ⟨Y, hY, rfl, rfl, rfl, rfl, rfl, rfl⟩ := set_of_rows p0 p1 p2 p3 p4 p5 hb.1 hb.2.1 hb.2.2.1 hb.2.2.2.1 hb.2.2.2.2.1 hb.2.2.2.2.2
    clear ha hb
    refine ⟨row (printS X Y) 0, row (printS X Y) 1, row (printS X Y) 2, row (printS X Y) 3, row (printS X Y) 4, row (printS X Y) 5, true, fun w => implPrintOf_ok X Y hX hY w, fun w => specPrintOf_ok X Y hX hY w, fun _ => ⟨fun w => by have h := implPrintOf_ok Y X hY hX w; rw [print_comm] at h; exact h, fun w hz => implCanToggle_ok X (printS X Y) true hX (printS_vs X Y) (by simp; exact ⟨Y, hY, rfl⟩) w hz⟩⟩
  · exact ⟨0, 0, 0, 0, 0, 0, false, fun w => implPrintOf_no _ _ _ _ _ _ _ _ _ _ _ _ hab w, fun w => specPrintOf_no _ _ _ _ _ _ _ _ _ _ _ _ hab w, fun h => by simp at h⟩
end Go.Proofs.YtgjgefbcfcomcaaDoor
