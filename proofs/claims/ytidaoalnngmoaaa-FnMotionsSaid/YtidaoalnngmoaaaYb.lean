/-
  What the calls of FnMotions answer, for any arguments at once. No conditions.
-/
import Derived.Test.YtidaoalnngmoaaaYa
import Derived.Test.YtidaoalnngmoaaaEa
import Derived.Test.YtidaoalnngmoaaaEb
import Derived.Test.YtidaoalnngmoaaaCh
namespace Go.Proofs.Ytidaoalnngmoaaa
open Go.RowKit
set_option linter.unusedSimpArgs false
set_option linter.unusedVariables false

theorem move_uni (a0 a1 a2 a3 a4 a5 m0 m1 m2 : Int) : ∃ (r0 r1 r2 r3 r4 r5 b0 b1 b2 : Int) (ok there : Bool),
    (∀ w : World, Calls Try.prog 35 #[(.agg #[.int .i64 a0, .int .i64 a1, .int .i64 a2, .int .i64 a3, .int .i64 a4, .int .i64 a5]), (.agg #[.int .i64 m0, .int .i64 m1, .int .i64 m2])] w fun e w' => e = .returned (.tuple #[(.agg #[.int .i64 r0, .int .i64 r1, .int .i64 r2, .int .i64 r3, .int .i64 r4, .int .i64 r5]), .bool ok]) ∧ Below w.heap.size w w') ∧
    (∀ w : World, Calls Try.prog 34 #[(.agg #[.int .i64 a0, .int .i64 a1, .int .i64 a2, .int .i64 a3, .int .i64 a4, .int .i64 a5]), (.agg #[.int .i64 m0, .int .i64 m1, .int .i64 m2])] w fun e w' => e = .returned (.tuple #[(.agg #[.int .i64 r0, .int .i64 r1, .int .i64 r2, .int .i64 r3, .int .i64 r4, .int .i64 r5]), .bool ok]) ∧ Below w.heap.size w w') ∧
    (∀ w : World, Calls Try.prog 33 #[(.agg #[.int .i64 m0, .int .i64 m1, .int .i64 m2])] w fun e w' => e = .returned (.tuple #[(.agg #[.int .i64 b0, .int .i64 b1, .int .i64 b2]), .bool there]) ∧ Below w.heap.size w w') ∧
    (∀ w : World, Calls Try.prog 32 #[(.agg #[.int .i64 m0, .int .i64 m1, .int .i64 m2])] w fun e w' => e = .returned (.tuple #[(.agg #[.int .i64 b0, .int .i64 b1, .int .i64 b2]), .bool there]) ∧ Below w.heap.size w w') ∧
    (ok = true → there = true ∧ Ok6 a0 a1 a2 a3 a4 a5 ∧ (∀ w : World, Calls Try.prog 35 #[(.agg #[.int .i64 r0, .int .i64 r1, .int .i64 r2, .int .i64 r3, .int .i64 r4, .int .i64 r5]), (.agg #[.int .i64 b0, .int .i64 b1, .int .i64 b2])] w fun e w' => e = .returned (.tuple #[(.agg #[.int .i64 a0, .int .i64 a1, .int .i64 a2, .int .i64 a3, .int .i64 a4, .int .i64 a5]), .bool true]) ∧ Below w.heap.size w w') ∧ ∃ sz : Int, (∀ w : World, Calls Try.prog 58 #[(.agg #[.int .i64 a0, .int .i64 a1, .int .i64 a2, .int .i64 a3, .int .i64 a4, .int .i64 a5])] w fun e w' => e = .returned (.tuple #[.int .i64 sz, .bool true]) ∧ Below w.heap.size w w') ∧ (∀ w : World, Calls Try.prog 58 #[(.agg #[.int .i64 r0, .int .i64 r1, .int .i64 r2, .int .i64 r3, .int .i64 r4, .int .i64 r5])] w fun e w' => e = .returned (.tuple #[.int .i64 sz, .bool true]) ∧ Below w.heap.size w w')) := by
  by_cases hm : Mot m0 m1 m2
  · obtain ⟨n0, rfl⟩ := Int.eq_ofNat_of_zero_le hm.1.1
    obtain ⟨n1, rfl⟩ := Int.eq_ofNat_of_zero_le hm.2.1.1
    obtain ⟨n2, rfl⟩ := Int.eq_ofNat_of_zero_le hm.2.2.1
    have n_0 : n0 < 8 := by have := hm.1.2; omega
    have n_1 : n1 < 6 := by have := hm.2.1.2; omega
    have n_2 : n2 < 6 := by have := hm.2.2.2; omega
    by_cases ha : Ok6 a0 a1 a2 a3 a4 a5
    · have ha' := ha
      obtain ⟨X, hX, rfl, rfl, rfl, rfl, rfl, rfl⟩ := set_of_rows a0 a1 a2 a3 a4 a5 ha'.1 ha'.2.1 ha'.2.2.1 ha'.2.2.2.1 ha'.2.2.2.2.1 ha'.2.2.2.2.2
      refine ⟨row (moveS n0 n1 n2 X) 0, row (moveS n0 n1 n2 X) 1, row (moveS n0 n1 n2 X) 2, row (moveS n0 n1 n2 X) 3, row (moveS n0 n1 n2 X) 4, row (moveS n0 n1 n2 X) 5, ((bkN n0 : Nat) : Int), ((mkX n0 n1 n2 : Nat) : Int), ((mkY n0 n1 n2 : Nat) : Int), true, true, fun w => implMoveSheet_ok X n0 n1 n2 hX n_0 n_1 n_2 w, fun w => specMoveSheet_ok X n0 n1 n2 hX n_0 n_1 n_2 w, fun w => implMotionBack_ok n0 n1 n2 n_0 n_1 n_2 w, fun w => specMotionBack_ok n0 n1 n2 n_0 n_1 n_2 w, fun _ => ⟨rfl, ha, fun w => ?_, ((popN X : Nat) : Int), fun w => implSizeOf_ok X hX w, fun w => ?_⟩⟩
      · have h := implMoveSheet_ok (moveS n0 n1 n2 X) (bkN n0) (mkX n0 n1 n2) (mkY n0 n1 n2) (moveS_vs _ _ _ _) (bkN_lt n0 n_0) (mkX_lt _ _ _) (mkY_lt _ _ _) w
        rw [move_back n0 n1 n2 X hX n_0 n_1 n_2] at h
        exact h
      · have h := implSizeOf_ok (moveS n0 n1 n2 X) (moveS_vs _ _ _ _) w
        rw [move_pop n0 n1 n2 X n_0 n_1 n_2] at h
        exact h
    · exact ⟨0, 0, 0, 0, 0, 0, ((bkN n0 : Nat) : Int), ((mkX n0 n1 n2 : Nat) : Int), ((mkY n0 n1 n2 : Nat) : Int), false, true, fun w => implMoveSheet_no _ _ _ _ _ _ _ _ _ ha w, fun w => specMoveSheet_no _ _ _ _ _ _ _ _ _ ha w, fun w => implMotionBack_ok n0 n1 n2 n_0 n_1 n_2 w, fun w => specMotionBack_ok n0 n1 n2 n_0 n_1 n_2 w, fun h => by simp at h⟩
  · by_cases ha : Ok6 a0 a1 a2 a3 a4 a5
    · obtain ⟨X, hX, rfl, rfl, rfl, rfl, rfl, rfl⟩ := set_of_rows a0 a1 a2 a3 a4 a5 ha.1 ha.2.1 ha.2.2.1 ha.2.2.2.1 ha.2.2.2.2.1 ha.2.2.2.2.2
      exact ⟨0, 0, 0, 0, 0, 0, 0, 0, 0, false, false, fun w => implMoveSheet_out X _ _ _ hX hm w, fun w => specMoveSheet_out X _ _ _ hX hm w, fun w => implMotionBack_no _ _ _ hm w, fun w => specMotionBack_no _ _ _ hm w, fun h => by simp at h⟩
    · exact ⟨0, 0, 0, 0, 0, 0, 0, 0, 0, false, false, fun w => implMoveSheet_no _ _ _ _ _ _ _ _ _ ha w, fun w => specMoveSheet_no _ _ _ _ _ _ _ _ _ ha w, fun w => implMotionBack_no _ _ _ hm w, fun w => specMotionBack_no _ _ _ hm w, fun h => by simp at h⟩
theorem behind_uni (p0 p1 p2 q0 q1 q2 : Int) : ∃ (c0 c1 c2 : Int) (fine : Bool),
    (∀ w : World, Calls Try.prog 30 #[(.agg #[.int .i64 p0, .int .i64 p1, .int .i64 p2]), (.agg #[.int .i64 q0, .int .i64 q1, .int .i64 q2])] w fun e w' => e = .returned (.tuple #[(.agg #[.int .i64 c0, .int .i64 c1, .int .i64 c2]), .bool fine]) ∧ Below w.heap.size w w') ∧
    (∀ w : World, Calls Try.prog 28 #[(.agg #[.int .i64 p0, .int .i64 p1, .int .i64 p2]), (.agg #[.int .i64 q0, .int .i64 q1, .int .i64 q2])] w fun e w' => e = .returned (.tuple #[(.agg #[.int .i64 c0, .int .i64 c1, .int .i64 c2]), .bool fine]) ∧ Below w.heap.size w w') ∧
    (fine = true → ∀ a0 a1 a2 a3 a4 a5 : Int, Ok6 a0 a1 a2 a3 a4 a5 → ∃ f0 f1 f2 f3 f4 f5 s0 s1 s2 s3 s4 s5 : Int, (∀ w : World, Calls Try.prog 35 #[(.agg #[.int .i64 a0, .int .i64 a1, .int .i64 a2, .int .i64 a3, .int .i64 a4, .int .i64 a5]), (.agg #[.int .i64 p0, .int .i64 p1, .int .i64 p2])] w fun e w' => e = .returned (.tuple #[(.agg #[.int .i64 f0, .int .i64 f1, .int .i64 f2, .int .i64 f3, .int .i64 f4, .int .i64 f5]), .bool true]) ∧ Below w.heap.size w w') ∧ (∀ w : World, Calls Try.prog 35 #[(.agg #[.int .i64 f0, .int .i64 f1, .int .i64 f2, .int .i64 f3, .int .i64 f4, .int .i64 f5]), (.agg #[.int .i64 q0, .int .i64 q1, .int .i64 q2])] w fun e w' => e = .returned (.tuple #[(.agg #[.int .i64 s0, .int .i64 s1, .int .i64 s2, .int .i64 s3, .int .i64 s4, .int .i64 s5]), .bool true]) ∧ Below w.heap.size w w') ∧ (∀ w : World, Calls Try.prog 35 #[(.agg #[.int .i64 a0, .int .i64 a1, .int .i64 a2, .int .i64 a3, .int .i64 a4, .int .i64 a5]), (.agg #[.int .i64 c0, .int .i64 c1, .int .i64 c2])] w fun e w' => e = .returned (.tuple #[(.agg #[.int .i64 s0, .int .i64 s1, .int .i64 s2, .int .i64 s3, .int .i64 s4, .int .i64 s5]), .bool true]) ∧ Below w.heap.size w w')) := by
  by_cases hpq : Mot p0 p1 p2 ∧ Mot q0 q1 q2
  · obtain ⟨hp, hq⟩ := hpq
    obtain ⟨m0, rfl⟩ := Int.eq_ofNat_of_zero_le hp.1.1
    obtain ⟨m1, rfl⟩ := Int.eq_ofNat_of_zero_le hp.2.1.1
    obtain ⟨m2, rfl⟩ := Int.eq_ofNat_of_zero_le hp.2.2.1
    have m_0 : m0 < 8 := by have := hp.1.2; omega
    have m_1 : m1 < 6 := by have := hp.2.1.2; omega
    have m_2 : m2 < 6 := by have := hp.2.2.2; omega
    obtain ⟨n0, rfl⟩ := Int.eq_ofNat_of_zero_le hq.1.1
    obtain ⟨n1, rfl⟩ := Int.eq_ofNat_of_zero_le hq.2.1.1
    obtain ⟨n2, rfl⟩ := Int.eq_ofNat_of_zero_le hq.2.2.1
    have n_0 : n0 < 8 := by have := hq.1.2; omega
    have n_1 : n1 < 6 := by have := hq.2.1.2; omega
    have n_2 : n2 < 6 := by have := hq.2.2.2; omega
    refine ⟨((tbN m0 n0 : Nat) : Int), ((mbX m1 m2 n0 n1 : Nat) : Int), ((mbY m1 m2 n0 n2 : Nat) : Int), true, fun w => implMotionBehind_ok m0 m1 m2 n0 n1 n2 m_0 m_1 m_2 n_0 n_1 n_2 w, fun w => specMotionBehind_ok m0 m1 m2 n0 n1 n2 m_0 m_1 m_2 n_0 n_1 n_2 w, fun _ a0 a1 a2 a3 a4 a5 ha => ?_⟩
    obtain ⟨X, hX, rfl, rfl, rfl, rfl, rfl, rfl⟩ := set_of_rows a0 a1 a2 a3 a4 a5 ha.1 ha.2.1 ha.2.2.1 ha.2.2.2.1 ha.2.2.2.2.1 ha.2.2.2.2.2
    refine ⟨row (moveS m0 m1 m2 X) 0, row (moveS m0 m1 m2 X) 1, row (moveS m0 m1 m2 X) 2, row (moveS m0 m1 m2 X) 3, row (moveS m0 m1 m2 X) 4, row (moveS m0 m1 m2 X) 5, row (moveS n0 n1 n2 (moveS m0 m1 m2 X)) 0, row (moveS n0 n1 n2 (moveS m0 m1 m2 X)) 1, row (moveS n0 n1 n2 (moveS m0 m1 m2 X)) 2, row (moveS n0 n1 n2 (moveS m0 m1 m2 X)) 3, row (moveS n0 n1 n2 (moveS m0 m1 m2 X)) 4, row (moveS n0 n1 n2 (moveS m0 m1 m2 X)) 5, fun w => implMoveSheet_ok X m0 m1 m2 hX m_0 m_1 m_2 w, fun w => implMoveSheet_ok (moveS m0 m1 m2 X) n0 n1 n2 (moveS_vs _ _ _ _) n_0 n_1 n_2 w, fun w => ?_⟩
    have h := implMoveSheet_ok X (tbN m0 n0) (mbX m1 m2 n0 n1) (mbY m1 m2 n0 n2) hX (tbN_lt _ _) (mbX_lt _ _ _ _) (mbY_lt _ _ _ _) w
    rw [← move_move m0 m1 m2 n0 n1 n2 X m_0 m_1 m_2 n_0 n_1 n_2] at h
    exact h
  · exact ⟨0, 0, 0, false, fun w => implMotionBehind_no _ _ _ _ _ _ hpq w, fun w => specMotionBehind_no _ _ _ _ _ _ hpq w, fun h => by simp at h⟩
theorem vector_uni (t dx dy : Int) : ∃ (ex ey : Int) (three : Bool),
    (∀ w : World, Calls Try.prog 19 #[.int .i64 t, .int .i64 dx, .int .i64 dy] w fun e w' => e = .returned (.tuple #[.int .i64 ex, .int .i64 ey, .bool three]) ∧ Below w.heap.size w w') ∧
    (∀ w : World, Calls Try.prog 18 #[.int .i64 t, .int .i64 dx, .int .i64 dy] w fun e w' => e = .returned (.tuple #[.int .i64 ex, .int .i64 ey, .bool three]) ∧ Below w.heap.size w w') ∧
    (three = true → ∀ a0 a1 a2 a3 a4 a5 : Int, Ok6 a0 a1 a2 a3 a4 a5 → ∃ h0 h1 h2 h3 h4 h5 f0 f1 f2 f3 f4 f5 p0 p1 p2 p3 p4 p5 : Int, (∀ w : World, Calls Try.prog 59 #[(.agg #[.int .i64 a0, .int .i64 a1, .int .i64 a2, .int .i64 a3, .int .i64 a4, .int .i64 a5]), .int .i64 dx, .int .i64 dy] w fun e w' => e = .returned (.tuple #[(.agg #[.int .i64 h0, .int .i64 h1, .int .i64 h2, .int .i64 h3, .int .i64 h4, .int .i64 h5]), .bool true]) ∧ Below w.heap.size w w') ∧ (∀ w : World, Calls Try.prog 26 #[(.agg #[.int .i64 h0, .int .i64 h1, .int .i64 h2, .int .i64 h3, .int .i64 h4, .int .i64 h5]), .int .i64 t] w fun e w' => e = .returned (.tuple #[(.agg #[.int .i64 f0, .int .i64 f1, .int .i64 f2, .int .i64 f3, .int .i64 f4, .int .i64 f5]), .bool true]) ∧ Below w.heap.size w w') ∧ (∀ w : World, Calls Try.prog 26 #[(.agg #[.int .i64 a0, .int .i64 a1, .int .i64 a2, .int .i64 a3, .int .i64 a4, .int .i64 a5]), .int .i64 t] w fun e w' => e = .returned (.tuple #[(.agg #[.int .i64 p0, .int .i64 p1, .int .i64 p2, .int .i64 p3, .int .i64 p4, .int .i64 p5]), .bool true]) ∧ Below w.heap.size w w') ∧ (∀ w : World, Calls Try.prog 59 #[(.agg #[.int .i64 p0, .int .i64 p1, .int .i64 p2, .int .i64 p3, .int .i64 p4, .int .i64 p5]), .int .i64 ex, .int .i64 ey] w fun e w' => e = .returned (.tuple #[(.agg #[.int .i64 f0, .int .i64 f1, .int .i64 f2, .int .i64 f3, .int .i64 f4, .int .i64 f5]), .bool true]) ∧ Below w.heap.size w w')) := by
  by_cases hm : Mot t dx dy
  · obtain ⟨n0, rfl⟩ := Int.eq_ofNat_of_zero_le hm.1.1
    obtain ⟨x, rfl⟩ := Int.eq_ofNat_of_zero_le hm.2.1.1
    obtain ⟨y, rfl⟩ := Int.eq_ofNat_of_zero_le hm.2.2.1
    have n_0 : n0 < 8 := by have := hm.1.2; omega
    have hx : x < 6 := by have := hm.2.1.2; omega
    have hy : y < 6 := by have := hm.2.2.2; omega
    refine ⟨_, _, true, fun w => implTurnVector_ok n0 x y n_0 hm.2.1 hm.2.2 w, fun w => specTurnVector_ok n0 x y n_0 hm.2.1 hm.2.2 w, fun _ a0 a1 a2 a3 a4 a5 ha => ?_⟩
    obtain ⟨X, hX, rfl, rfl, rfl, rfl, rfl, rfl⟩ := set_of_rows a0 a1 a2 a3 a4 a5 ha.1 ha.2.1 ha.2.2.1 ha.2.2.2.1 ha.2.2.2.2.1 ha.2.2.2.2.2
    refine ⟨row (shiftN X x y) 0, row (shiftN X x y) 1, row (shiftN X x y) 2, row (shiftN X x y) 3, row (shiftN X x y) 4, row (shiftN X x y) 5, row (turnS n0 (shiftN X x y)) 0, row (turnS n0 (shiftN X x y)) 1, row (turnS n0 (shiftN X x y)) 2, row (turnS n0 (shiftN X x y)) 3, row (turnS n0 (shiftN X x y)) 4, row (turnS n0 (shiftN X x y)) 5, row (turnS n0 X) 0, row (turnS n0 X) 1, row (turnS n0 X) 2, row (turnS n0 X) 3, row (turnS n0 X) 4, row (turnS n0 X) 5, fun w => ?_, fun w => implTurnSheet_ok (shiftN X x y) n0 (shiftN_vs _ _ _) n_0 w, fun w => implTurnSheet_ok X n0 hX n_0 w, fun w => ?_⟩
    · have h := implShiftSheet_ok X (x : Int) (y : Int) hX w
      rw [show (((x : Nat) : Int) % 6).toNat = x by omega, show (((y : Nat) : Int) % 6).toNat = y by omega] at h
      exact h
    · have h := implShiftSheet_ok (turnS n0 X) (vT n0 ((x : Int), (y : Int))).1 (vT n0 ((x : Int), (y : Int))).2 (turnS_vs _ _) w
      have hb := vT_bd (x : Int) (y : Int) (by omega) (by omega) n0
      rw [show ((vT n0 ((x : Int), (y : Int))).1 % 6).toNat = (vT n0 ((x : Int), (y : Int))).1.toNat by omega, show ((vT n0 ((x : Int), (y : Int))).2 % 6).toNat = (vT n0 ((x : Int), (y : Int))).2.toNat by omega, ← turn_shift n0 x y X n_0 hx hy] at h
      exact h
  · exact ⟨0, 0, false, fun w => implTurnVector_no _ _ _ hm w, fun w => specTurnVector_no _ _ _ hm w, fun h => by simp at h⟩
theorem turns_uni (k n : Int) : ∃ (tu ho : Int) (one two : Bool),
    (∀ w : World, Calls Try.prog 21 #[.int .i64 k, .int .i64 n] w fun e w' => e = .returned (.tuple #[.int .i64 tu, .bool one]) ∧ Below w.heap.size w w') ∧
    (∀ w : World, Calls Try.prog 20 #[.int .i64 k, .int .i64 n] w fun e w' => e = .returned (.tuple #[.int .i64 tu, .bool one]) ∧ Below w.heap.size w w') ∧
    (∀ w : World, Calls Try.prog 23 #[.int .i64 k] w fun e w' => e = .returned (.tuple #[.int .i64 ho, .bool two]) ∧ Below w.heap.size w w') ∧
    (∀ w : World, Calls Try.prog 22 #[.int .i64 k] w fun e w' => e = .returned (.tuple #[.int .i64 ho, .bool two]) ∧ Below w.heap.size w w') ∧
    (two = true → (∀ w : World, Calls Try.prog 21 #[.int .i64 k, .int .i64 ho] w fun e w' => e = .returned (.tuple #[.int .i64 0, .bool true]) ∧ Below w.heap.size w w')) ∧
    (one = true → ∀ u0 u1 u2 u3 u4 u5 : Int, Ok6 u0 u1 u2 u3 u4 u5 → ∃ f0 f1 f2 f3 f4 f5 s0 s1 s2 s3 s4 s5 : Int, (∀ w : World, Calls Try.prog 26 #[(.agg #[.int .i64 u0, .int .i64 u1, .int .i64 u2, .int .i64 u3, .int .i64 u4, .int .i64 u5]), .int .i64 k] w fun e w' => e = .returned (.tuple #[(.agg #[.int .i64 f0, .int .i64 f1, .int .i64 f2, .int .i64 f3, .int .i64 f4, .int .i64 f5]), .bool true]) ∧ Below w.heap.size w w') ∧ (∀ w : World, Calls Try.prog 26 #[(.agg #[.int .i64 f0, .int .i64 f1, .int .i64 f2, .int .i64 f3, .int .i64 f4, .int .i64 f5]), .int .i64 n] w fun e w' => e = .returned (.tuple #[(.agg #[.int .i64 s0, .int .i64 s1, .int .i64 s2, .int .i64 s3, .int .i64 s4, .int .i64 s5]), .bool true]) ∧ Below w.heap.size w w') ∧ (∀ w : World, Calls Try.prog 26 #[(.agg #[.int .i64 u0, .int .i64 u1, .int .i64 u2, .int .i64 u3, .int .i64 u4, .int .i64 u5]), .int .i64 tu] w fun e w' => e = .returned (.tuple #[(.agg #[.int .i64 s0, .int .i64 s1, .int .i64 s2, .int .i64 s3, .int .i64 s4, .int .i64 s5]), .bool true]) ∧ Below w.heap.size w w')) := by
  by_cases hk : 0 ≤ k ∧ k < 8
  · obtain ⟨j, rfl⟩ := Int.eq_ofNat_of_zero_le hk.1
    have hj : j < 8 := by have := hk.2; omega
    have hz : ∀ w : World, Calls Try.prog 21 #[.int .i64 ((j : Nat) : Int), .int .i64 ((bkN j : Nat) : Int)] w fun e w' => e = .returned (.tuple #[.int .i64 0, .bool true]) ∧ Below w.heap.size w w' := fun w => by
      have h := implTurnBehind_ok j (bkN j) hj (bkN_lt j hj) w
      rw [tbN_back j hj] at h
      exact h
    by_cases hn : 0 ≤ n ∧ n < 8
    · obtain ⟨m, rfl⟩ := Int.eq_ofNat_of_zero_le hn.1
      have hm : m < 8 := by have := hn.2; omega
      refine ⟨((tbN j m : Nat) : Int), ((bkN j : Nat) : Int), true, true, fun w => implTurnBehind_ok j m hj hm w, fun w => specTurnBehind_ok j m hj hm w, fun w => implTurnBack_ok j hj w, fun w => specTurnBack_ok j hj w, fun _ => hz, fun _ u0 u1 u2 u3 u4 u5 hu => ?_⟩
      obtain ⟨X, hX, rfl, rfl, rfl, rfl, rfl, rfl⟩ := set_of_rows u0 u1 u2 u3 u4 u5 hu.1 hu.2.1 hu.2.2.1 hu.2.2.2.1 hu.2.2.2.2.1 hu.2.2.2.2.2
      refine ⟨row (turnS j X) 0, row (turnS j X) 1, row (turnS j X) 2, row (turnS j X) 3, row (turnS j X) 4, row (turnS j X) 5, row (turnS m (turnS j X)) 0, row (turnS m (turnS j X)) 1, row (turnS m (turnS j X)) 2, row (turnS m (turnS j X)) 3, row (turnS m (turnS j X)) 4, row (turnS m (turnS j X)) 5, fun w => implTurnSheet_ok X j hX hj w, fun w => implTurnSheet_ok (turnS j X) m (turnS_vs _ _) hm w, fun w => ?_⟩
      have h := implTurnSheet_ok X (tbN j m) hX (tbN_lt _ _) w
      rw [← turnS_comp j m X hj hm] at h
      exact h
    · exact ⟨0, ((bkN j : Nat) : Int), false, true, fun w => implTurnBehind_no _ _ (fun h => hn h.2) w, fun w => specTurnBehind_no _ _ (fun h => hn h.2) w, fun w => implTurnBack_ok j hj w, fun w => specTurnBack_ok j hj w, fun _ => hz, fun h => by simp at h⟩
  · exact ⟨0, 0, false, false, fun w => implTurnBehind_no _ _ (fun h => hk h.1) w, fun w => specTurnBehind_no _ _ (fun h => hk h.1) w, fun w => implTurnBack_no _ hk w, fun w => specTurnBack_no _ hk w, fun h => by simp at h, fun h => by simp at h⟩
theorem turned_uni (u0 u1 u2 u3 u4 u5 q : Int) : ∃ (r0 r1 r2 r3 r4 r5 : Int) (four : Bool),
    (∀ w : World, Calls Try.prog 26 #[(.agg #[.int .i64 u0, .int .i64 u1, .int .i64 u2, .int .i64 u3, .int .i64 u4, .int .i64 u5]), .int .i64 q] w fun e w' => e = .returned (.tuple #[(.agg #[.int .i64 r0, .int .i64 r1, .int .i64 r2, .int .i64 r3, .int .i64 r4, .int .i64 r5]), .bool four]) ∧ Below w.heap.size w w') ∧
    (∀ w : World, Calls Try.prog 24 #[(.agg #[.int .i64 u0, .int .i64 u1, .int .i64 u2, .int .i64 u3, .int .i64 u4, .int .i64 u5]), .int .i64 q] w fun e w' => e = .returned (.tuple #[(.agg #[.int .i64 r0, .int .i64 r1, .int .i64 r2, .int .i64 r3, .int .i64 r4, .int .i64 r5]), .bool four]) ∧ Below w.heap.size w w') ∧
    (four = true → Ok6 u0 u1 u2 u3 u4 u5) := by
  by_cases hu : Ok6 u0 u1 u2 u3 u4 u5
  · have hu' := hu
    obtain ⟨X, hX, rfl, rfl, rfl, rfl, rfl, rfl⟩ := set_of_rows u0 u1 u2 u3 u4 u5 hu'.1 hu'.2.1 hu'.2.2.1 hu'.2.2.2.1 hu'.2.2.2.2.1 hu'.2.2.2.2.2
    by_cases hq : 0 ≤ q ∧ q < 8
    · obtain ⟨j, rfl⟩ := Int.eq_ofNat_of_zero_le hq.1
      have hj : j < 8 := by have := hq.2; omega
      exact ⟨row (turnS j X) 0, row (turnS j X) 1, row (turnS j X) 2, row (turnS j X) 3, row (turnS j X) 4, row (turnS j X) 5, true, fun w => implTurnSheet_ok X j hX hj w, fun w => specTurnSheet_ok X j hX hj w, fun _ => hu⟩
    · exact ⟨0, 0, 0, 0, 0, 0, false, fun w => implTurnSheet_out X _ hX hq w, fun w => specTurnSheet_out X _ hX hq w, fun _ => hu⟩
  · exact ⟨0, 0, 0, 0, 0, 0, false, fun w => implTurnSheet_no _ _ _ _ _ _ _ hu w, fun w => specTurnSheet_no _ _ _ _ _ _ _ hu w, fun h => by simp at h⟩
end Go.Proofs.Ytidaoalnngmoaaa
