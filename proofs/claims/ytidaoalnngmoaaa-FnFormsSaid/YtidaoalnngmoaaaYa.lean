/-
  Plain facts on moves of sheets: behind one another, back, with shifts, and that the number of black cells stays. No conditions.
-/
import Derived.Test.YtidaoalnngmoaaaDh
import Derived.Test.YtidaoalnngmoaaaDg
import Derived.Test.YtidaoalnngmoaaaMathP
namespace Go.Proofs.Ytidaoalnngmoaaa
set_option linter.unusedVariables false

theorem ds_bit (n X : Nat) : dsN 1 (n + 1) X = dsN 1 n X + (if X.testBit n = true then 1 else 0) := by
  rw [ds_add 1 1 n]
  congr 1
  rw [Nat.testBit_eq_decide_div_mod_eq, Nat.one_mul]
  simp only [dsN, Nat.pow_one, Nat.add_zero, decide_eq_true_eq]
  split <;> omega
theorem ds_or (Y k : Nat) (h : Y.testBit k = false) : ∀ n, dsN 1 n (Y ||| 2 ^ k) = dsN 1 n Y + (if k < n then 1 else 0)
  | 0 => by simp [dsN]
  | n + 1 => by
      rw [ds_bit, ds_bit, ds_or Y k h n, Nat.testBit_or, Nat.testBit_two_pow]
      by_cases e : k = n
      · subst e
        simp [h]
      · have e1 : decide (k = n) = false := decide_eq_false e
        rw [e1, Bool.or_false]
        by_cases c : k < n
        · rw [if_pos c, if_pos (show k < n + 1 by omega)]; omega
        · rw [if_neg c, if_neg (show ¬ k < n + 1 by omega), Nat.add_zero, Nat.add_zero]
theorem ds_mov (X : Nat) (f : Nat → Nat) (hf : ∀ k, k < 36 → f k < 36) (hinj : ∀ i j, i < 36 → j < 36 → f i = f j → i = j) : ∀ n, n ≤ 36 → popN (movN X f n) = dsN 1 n X
  | 0, _ => by rw [movN, popN, ds_zero, dsN]
  | n + 1, hn => by
      rw [movN, ds_bit, ← ds_mov X f hf hinj n (by omega)]
      split
      · have hc : (movN X f n).testBit (f n) = false := by
          rw [Bool.eq_false_iff]
          intro hb
          obtain ⟨j, hj, _, he⟩ := (testBit_movN X f n (f n)).1 hb
          have := hinj j n (by omega) (by omega) he
          omega
        have e := ds_or _ _ hc 36
        rw [if_pos (hf n (by omega))] at e
        exact e
      · rw [Nat.add_zero]
theorem pop_mov (X : Nat) (f : Nat → Nat) (hf : ∀ k, k < 36 → f k < 36) (hinj : ∀ i j, i < 36 → j < 36 → f i = f j → i = j) : popN (movN X f 36) = popN X := ds_mov X f hf hinj 36 (Nat.le_refl _)
theorem shTo_lt (x y c : Nat) : shTo x y c < 36 := by unfold shTo; omega
theorem sh_sh (a b c d e : Nat) : shTo a b (shTo c d e) = shTo ((c + a) % 6) ((d + b) % 6) e := by unfold shTo; omega
theorem sh_zero (c : Nat) (h : c < 36) : shTo 0 0 c = c := by unfold shTo; omega
theorem shTo_inj (x y i j : Nat) (hx : x < 6) (hy : y < 6) (hi : i < 36) (hj : j < 36) (h : shTo x y i = shTo x y j) : i = j := by unfold shTo at h; omega
theorem trTo_inj (t i j : Nat) (ht : t < 8) (hi : i < 36) (hj : j < 36) (h : trTo t i = trTo t j) : i = j := by
  have e : ∀ c, c < 36 → trTo (bkN t) (trTo t c) = c := fun c hc => by
    rw [trTo_comp t ht (bkN t) (bkN_lt t ht) c hc, tbN_back t ht]
    rfl
  rw [← e i hi, ← e j hj, h]
theorem tr_sh : ∀ t, t < 8 → ∀ x, x < 6 → ∀ y, y < 6 → ∀ c, c < 36 → trTo t (shTo x y c) = shTo (vT t (((x : Nat) : Int), ((y : Nat) : Int))).1.toNat (vT t (((x : Nat) : Int), ((y : Nat) : Int))).2.toNat (trTo t c) := by decide +kernel
theorem move_mov (t x y X : Nat) (hx : x < 6) (hy : y < 6) : moveS t x y X = movN X (fun c => shTo x y (trTo t c)) 36 := by
  unfold moveS
  rw [← movN_shift _ x y hx hy]
  unfold turnS
  exact movN_comp X (trTo t) (shTo x y) (fun c hc => trTo_lt t c hc) (fun c _ => shTo_lt x y c)
theorem move_move (m0 m1 m2 n0 n1 n2 X : Nat) (hm0 : m0 < 8) (hm1 : m1 < 6) (hm2 : m2 < 6) (hn0 : n0 < 8) (hn1 : n1 < 6) (hn2 : n2 < 6) : moveS n0 n1 n2 (moveS m0 m1 m2 X) = moveS (tbN m0 n0) (mbX m1 m2 n0 n1) (mbY m1 m2 n0 n2) X := by
  rw [move_mov m0 m1 m2 X hm1 hm2, move_mov n0 n1 n2 _ hn1 hn2, move_mov (tbN m0 n0) _ _ X (mbX_lt _ _ _ _) (mbY_lt _ _ _ _),
    movN_comp X (fun c => shTo m1 m2 (trTo m0 c)) (fun c => shTo n1 n2 (trTo n0 c)) (fun c _ => shTo_lt _ _ _) (fun c _ => shTo_lt _ _ _)]
  refine movN_congr X _ _ (fun c hc => ?_) 36 (Nat.le_refl _)
  show shTo n1 n2 (trTo n0 (shTo m1 m2 (trTo m0 c))) = shTo (mbX m1 m2 n0 n1) (mbY m1 m2 n0 n2) (trTo (tbN m0 n0) c)
  have hb := vT_bd (m1 : Int) (m2 : Int) (by omega) (by omega) n0
  have e1 : ((vT n0 ((m1 : Int), (m2 : Int))).1.toNat + n1) % 6 = mbX m1 m2 n0 n1 := by
    unfold mbX
    generalize vT n0 ((m1 : Int), (m2 : Int)) = p at *
    omega
  have e2 : ((vT n0 ((m1 : Int), (m2 : Int))).2.toNat + n2) % 6 = mbY m1 m2 n0 n2 := by
    unfold mbY
    generalize vT n0 ((m1 : Int), (m2 : Int)) = p at *
    omega
  rw [tr_sh n0 hn0 m1 hm1 m2 hm2 _ (trTo_lt m0 c hc), sh_sh, e1, e2, trTo_comp m0 hm0 n0 hn0 c hc]
theorem move_zero (X : Nat) (hX : Vs X) : moveS 0 0 0 X = X := by
  rw [move_mov 0 0 0 X (by omega) (by omega), movN_congr X _ (fun c => c) (fun c hc => by show shTo 0 0 (trTo 0 c) = c; exact sh_zero c hc) 36 (Nat.le_refl _)]
  exact movN_id X hX
theorem move_back (m0 m1 m2 X : Nat) (hX : Vs X) (hm0 : m0 < 8) (hm1 : m1 < 6) (hm2 : m2 < 6) : moveS (bkN m0) (mkX m0 m1 m2) (mkY m0 m1 m2) (moveS m0 m1 m2 X) = X := by
  rw [move_move m0 m1 m2 _ _ _ X hm0 hm1 hm2 (bkN_lt m0 hm0) (mkX_lt _ _ _) (mkY_lt _ _ _), tbN_back m0 hm0]
  have hb := vT_bd (m1 : Int) (m2 : Int) (by omega) (by omega) (bkN m0)
  have e1 : mbX m1 m2 (bkN m0) (mkX m0 m1 m2) = 0 := by
    unfold mbX mkX
    generalize vT (bkN m0) ((m1 : Int), (m2 : Int)) = p at *
    omega
  have e2 : mbY m1 m2 (bkN m0) (mkY m0 m1 m2) = 0 := by
    unfold mbY mkY
    generalize vT (bkN m0) ((m1 : Int), (m2 : Int)) = p at *
    omega
  rw [e1, e2]
  exact move_zero X hX
theorem move_pop (t x y X : Nat) (ht : t < 8) (hx : x < 6) (hy : y < 6) : popN (moveS t x y X) = popN X := by
  rw [move_mov t x y X hx hy]
  refine pop_mov X _ (fun c _ => shTo_lt _ _ _) (fun i j hi hj h => ?_)
  exact trTo_inj t i j ht hi hj (shTo_inj x y _ _ hx hy (trTo_lt t i hi) (trTo_lt t j hj) h)
theorem turn_shift (t x y X : Nat) (ht : t < 8) (hx : x < 6) (hy : y < 6) : turnS t (shiftN X x y) = shiftN (turnS t X) (vT t ((x : Int), (y : Int))).1.toNat (vT t ((x : Int), (y : Int))).2.toNat := by
  have hb := vT_bd (x : Int) (y : Int) (by omega) (by omega) t
  rw [← movN_shift X x y hx hy, ← movN_shift (turnS t X) _ _ (by omega) (by omega)]
  unfold turnS
  rw [movN_comp X (shTo x y) (trTo t) (fun c _ => shTo_lt _ _ _) (fun c hc => trTo_lt t c hc), movN_comp X (trTo t) _ (fun c hc => trTo_lt t c hc) (fun c _ => shTo_lt _ _ _)]
  exact movN_congr X _ _ (fun c hc => tr_sh t ht x hx y hy c hc) 36 (Nat.le_refl _)
end Go.Proofs.Ytidaoalnngmoaaa
