/-
  What the calls of FnForms answer, for any arguments at once. No conditions.
-/
import Derived.Test.YtidaoalnngmoaaaZa
import Derived.Test.YtidaoalnngmoaaaYf
import Derived.Test.YtidaoalnngmoaaaDk
import Derived.Test.YtidaoalnngmoaaaCi
namespace Go.Proofs.Ytidaoalnngmoaaa
open Go.RowKit
set_option linter.unusedSimpArgs false
set_option linter.unusedVariables false

theorem move_at (X n : Nat) (hX : Vs X) (hn : n < 288) (w : World) : Calls Try.prog 35 #[(.agg #[.int .i64 (row X 0), .int .i64 (row X 1), .int .i64 (row X 2), .int .i64 (row X 3), .int .i64 (row X 4), .int .i64 (row X 5)]), (.agg #[.int .i64 ((n : Int) / 36), .int .i64 ((n : Int) % 36 / 6), .int .i64 ((n : Int) % 6)])] w fun e w' => e = .returned (.tuple #[(.agg #[.int .i64 (row (mvN X n) 0), .int .i64 (row (mvN X n) 1), .int .i64 (row (mvN X n) 2), .int .i64 (row (mvN X n) 3), .int .i64 (row (mvN X n) 4), .int .i64 (row (mvN X n) 5)]), .bool true]) ∧ Below w.heap.size w w' := by
  have h := implMoveSheet_ok X (n / 36) (n % 36 / 6) (n % 6) hX (by omega) (by omega) (by omega) w
  rw [show ((n / 36 : Nat) : Int) = (n : Int) / 36 by omega, show ((n % 36 / 6 : Nat) : Int) = (n : Int) % 36 / 6 by omega, show ((n % 6 : Nat) : Int) = (n : Int) % 6 by omega] at h
  exact h
theorem behind_at' (k n : Nat) (hk : k < 288) (hn : n < 288) (w : World) : Calls Try.prog 30 #[(.agg #[.int .i64 ((k : Int) / 36), .int .i64 ((k : Int) % 36 / 6), .int .i64 ((k : Int) % 6)]), (.agg #[.int .i64 ((n : Int) / 36), .int .i64 ((n : Int) % 36 / 6), .int .i64 ((n : Int) % 6)])] w fun e w' => e = .returned (.tuple #[(.agg #[.int .i64 (((mulI k n : Nat) : Int) / 36), .int .i64 (((mulI k n : Nat) : Int) % 36 / 6), .int .i64 (((mulI k n : Nat) : Int) % 6)]), .bool true]) ∧ Below w.heap.size w w' := by
  have h := implMotionBehind_ok (k / 36) (k % 36 / 6) (k % 6) (n / 36) (n % 36 / 6) (n % 6) (by omega) (by omega) (by omega) (by omega) (by omega) (by omega) w
  obtain ⟨h1, h2, h3⟩ := mulI_at k n
  rw [← h1, ← h2, ← h3] at h
  rw [show ((k / 36 : Nat) : Int) = (k : Int) / 36 by omega, show ((k % 36 / 6 : Nat) : Int) = (k : Int) % 36 / 6 by omega, show ((k % 6 : Nat) : Int) = (k : Int) % 6 by omega,
    show ((n / 36 : Nat) : Int) = (n : Int) / 36 by omega, show ((n % 36 / 6 : Nat) : Int) = (n : Int) % 36 / 6 by omega, show ((n % 6 : Nat) : Int) = (n : Int) % 6 by omega,
    show ((mulI k n / 36 : Nat) : Int) = ((mulI k n : Nat) : Int) / 36 by omega, show ((mulI k n % 36 / 6 : Nat) : Int) = ((mulI k n : Nat) : Int) % 36 / 6 by omega, show ((mulI k n % 6 : Nat) : Int) = ((mulI k n : Nat) : Int) % 6 by omega] at h
  exact h
theorem back_at (k : Nat) (hk : k < 288) (w : World) : Calls Try.prog 33 #[(.agg #[.int .i64 ((k : Int) / 36), .int .i64 ((k : Int) % 36 / 6), .int .i64 ((k : Int) % 6)])] w fun e w' => e = .returned (.tuple #[(.agg #[.int .i64 (((bkI k : Nat) : Int) / 36), .int .i64 (((bkI k : Nat) : Int) % 36 / 6), .int .i64 (((bkI k : Nat) : Int) % 6)]), .bool true]) ∧ Below w.heap.size w w' := by
  have h := implMotionBack_ok (k / 36) (k % 36 / 6) (k % 6) (by omega) (by omega) (by omega) w
  obtain ⟨h1, h2, h3⟩ := bkI_at k
  rw [← h1, ← h2, ← h3] at h
  rw [show ((k / 36 : Nat) : Int) = (k : Int) / 36 by omega, show ((k % 36 / 6 : Nat) : Int) = (k : Int) % 36 / 6 by omega, show ((k % 6 : Nat) : Int) = (k : Int) % 6 by omega,
    show ((bkI k / 36 : Nat) : Int) = ((bkI k : Nat) : Int) / 36 by omega, show ((bkI k % 36 / 6 : Nat) : Int) = ((bkI k : Nat) : Int) % 36 / 6 by omega, show ((bkI k % 6 : Nat) : Int) = ((bkI k : Nat) : Int) % 6 by omega] at h
  exact h
theorem in_list (L : List Nat) (n : Nat) (h : n ∈ L) : ∃ j, j < L.length ∧ trF L (j * 3) = (n : Int) / 36 ∧ trF L (j * 3 + 1) = (n : Int) % 36 / 6 ∧ trF L (j * 3 + 2) = (n : Int) % 6 := by
  obtain ⟨j, hj, he⟩ := List.mem_iff_getElem.1 h
  have e : L.getD j 0 = n := by rw [List.getD_eq_getElem?_getD, List.getElem?_eq_getElem hj, Option.getD_some, he]
  obtain ⟨h1, h2, h3⟩ := trF_at L j hj
  rw [e] at h1 h2 h3
  exact ⟨j, hj, h1, h2, h3⟩
theorem getD_mem (L : List Nat) (i : Nat) (h : i < L.length) : L.getD i 0 ∈ L := by
  rw [List.getD_eq_getElem?_getD, List.getElem?_eq_getElem h, Option.getD_some]
  exact List.getElem_mem h
theorem forms_uni (a0 a1 a2 a3 a4 a5 : Int) : ∃ (f0 f1 f2 f3 f4 f5 m0 m1 m2 p0 p1 p2 p3 p4 p5 t0 t1 t2 t3 t4 t5 k many : Int) (ok : Bool) (K : List Nat), K.length ≤ 288 ∧
    (∀ w : World, Calls Try.prog 50 #[(.agg #[.int .i64 a0, .int .i64 a1, .int .i64 a2, .int .i64 a3, .int .i64 a4, .int .i64 a5])] w fun e w' => e = .returned (.tuple #[(.agg #[.int .i64 f0, .int .i64 f1, .int .i64 f2, .int .i64 f3, .int .i64 f4, .int .i64 f5]), (.agg #[.int .i64 m0, .int .i64 m1, .int .i64 m2]), .bool ok]) ∧ Below w.heap.size w w') ∧
    (∀ w : World, Calls Try.prog 49 #[(.agg #[.int .i64 a0, .int .i64 a1, .int .i64 a2, .int .i64 a3, .int .i64 a4, .int .i64 a5])] w fun e w' => e = .returned (.tuple #[(.agg #[.int .i64 f0, .int .i64 f1, .int .i64 f2, .int .i64 f3, .int .i64 f4, .int .i64 f5]), (.agg #[.int .i64 m0, .int .i64 m1, .int .i64 m2]), .bool ok]) ∧ Below w.heap.size w w') ∧
    (∀ w : World, Calls Try.prog 37 #[(.agg #[.int .i64 a0, .int .i64 a1, .int .i64 a2, .int .i64 a3, .int .i64 a4, .int .i64 a5])] w fun e w' => e = .returned (.tuple #[(.agg #[.int .i64 p0, .int .i64 p1, .int .i64 p2, .int .i64 p3, .int .i64 p4, .int .i64 p5]), .bool ok]) ∧ Below w.heap.size w w') ∧
    (∀ w : World, Calls Try.prog 36 #[(.agg #[.int .i64 a0, .int .i64 a1, .int .i64 a2, .int .i64 a3, .int .i64 a4, .int .i64 a5])] w fun e w' => e = .returned (.tuple #[(.agg #[.int .i64 p0, .int .i64 p1, .int .i64 p2, .int .i64 p3, .int .i64 p4, .int .i64 p5]), .bool ok]) ∧ Below w.heap.size w w') ∧
    (∀ w : World, Calls Try.prog 39 #[(.agg #[.int .i64 a0, .int .i64 a1, .int .i64 a2, .int .i64 a3, .int .i64 a4, .int .i64 a5])] w fun e w' => e = .returned (.tuple #[(.agg #[.int .i64 t0, .int .i64 t1, .int .i64 t2, .int .i64 t3, .int .i64 t4, .int .i64 t5]), .int .i64 k, .bool ok]) ∧ Below w.heap.size w w') ∧
    (∀ w : World, Calls Try.prog 38 #[(.agg #[.int .i64 a0, .int .i64 a1, .int .i64 a2, .int .i64 a3, .int .i64 a4, .int .i64 a5])] w fun e w' => e = .returned (.tuple #[(.agg #[.int .i64 t0, .int .i64 t1, .int .i64 t2, .int .i64 t3, .int .i64 t4, .int .i64 t5]), .int .i64 k, .bool ok]) ∧ Below w.heap.size w w') ∧
    (∀ w : World, Calls Try.prog 41 #[(.agg #[.int .i64 a0, .int .i64 a1, .int .i64 a2, .int .i64 a3, .int .i64 a4, .int .i64 a5])] w fun e w' => ∃ (x : Option Addr) (c : Nat), e = .returned (.tuple #[.slice x K.length c, .bool ok]) ∧ RdT w' x K ∧ Below w.heap.size w w') ∧
    (∀ w : World, Calls Try.prog 40 #[(.agg #[.int .i64 a0, .int .i64 a1, .int .i64 a2, .int .i64 a3, .int .i64 a4, .int .i64 a5])] w fun e w' => ∃ (x : Option Addr) (c : Nat), e = .returned (.tuple #[.slice x K.length c, .bool ok]) ∧ RdT w' x K ∧ Below w.heap.size w w') ∧
    (∀ w : World, Calls Try.prog 46 #[(.agg #[.int .i64 a0, .int .i64 a1, .int .i64 a2, .int .i64 a3, .int .i64 a4, .int .i64 a5])] w fun e w' => e = .returned (.tuple #[.int .i64 many, .bool ok]) ∧ Below w.heap.size w w') ∧
    (∀ w : World, Calls Try.prog 45 #[(.agg #[.int .i64 a0, .int .i64 a1, .int .i64 a2, .int .i64 a3, .int .i64 a4, .int .i64 a5])] w fun e w' => e = .returned (.tuple #[.int .i64 many, .bool ok]) ∧ Below w.heap.size w w') ∧
    (ok = true → (∀ w : World, Calls Try.prog 35 #[(.agg #[.int .i64 a0, .int .i64 a1, .int .i64 a2, .int .i64 a3, .int .i64 a4, .int .i64 a5]), (.agg #[.int .i64 m0, .int .i64 m1, .int .i64 m2])] w fun e w' => e = .returned (.tuple #[(.agg #[.int .i64 f0, .int .i64 f1, .int .i64 f2, .int .i64 f3, .int .i64 f4, .int .i64 f5]), .bool true]) ∧ Below w.heap.size w w') ∧ (∀ w : World, Calls Try.prog 26 #[(.agg #[.int .i64 a0, .int .i64 a1, .int .i64 a2, .int .i64 a3, .int .i64 a4, .int .i64 a5]), .int .i64 k] w fun e w' => e = .returned (.tuple #[(.agg #[.int .i64 t0, .int .i64 t1, .int .i64 t2, .int .i64 t3, .int .i64 t4, .int .i64 t5]), .bool true]) ∧ Below w.heap.size w w') ∧ (∃ n0 n1 n2 : Int, (∀ w : World, Calls Try.prog 50 #[(.agg #[.int .i64 f0, .int .i64 f1, .int .i64 f2, .int .i64 f3, .int .i64 f4, .int .i64 f5])] w fun e w' => e = .returned (.tuple #[(.agg #[.int .i64 f0, .int .i64 f1, .int .i64 f2, .int .i64 f3, .int .i64 f4, .int .i64 f5]), (.agg #[.int .i64 n0, .int .i64 n1, .int .i64 n2]), .bool true]) ∧ Below w.heap.size w w')) ∧ (∀ w : World, Calls Try.prog 63 #[(.agg #[.int .i64 p0, .int .i64 p1, .int .i64 p2, .int .i64 p3, .int .i64 p4, .int .i64 p5]), (.agg #[.int .i64 f0, .int .i64 f1, .int .i64 f2, .int .i64 f3, .int .i64 f4, .int .i64 f5])] w fun e w' => e = .returned (.tuple #[.bool false, .bool true]) ∧ Below w.heap.size w w') ∧ many * (K.length : Int) = 288 ∧ 0 < K.length ∧ (∃ j, j < K.length ∧ trF K (j * 3) = 0 ∧ trF K (j * 3 + 1) = 0 ∧ trF K (j * 3 + 2) = 0) ∧ (∀ i, i < K.length → (∀ w : World, Calls Try.prog 35 #[(.agg #[.int .i64 a0, .int .i64 a1, .int .i64 a2, .int .i64 a3, .int .i64 a4, .int .i64 a5]), (.agg #[.int .i64 (trF K (i * 3)), .int .i64 (trF K (i * 3 + 1)), .int .i64 (trF K (i * 3 + 2))])] w fun e w' => e = .returned (.tuple #[(.agg #[.int .i64 a0, .int .i64 a1, .int .i64 a2, .int .i64 a3, .int .i64 a4, .int .i64 a5]), .bool true]) ∧ Below w.heap.size w w') ∧ ∃ b0 b1 b2 c0 c1 c2 : Int, (∀ w : World, Calls Try.prog 30 #[(.agg #[.int .i64 (trF K (i * 3)), .int .i64 (trF K (i * 3 + 1)), .int .i64 (trF K (i * 3 + 2))]), (.agg #[.int .i64 (trF K ((K.length - 1) * 3)), .int .i64 (trF K ((K.length - 1) * 3 + 1)), .int .i64 (trF K ((K.length - 1) * 3 + 2))])] w fun e w' => e = .returned (.tuple #[(.agg #[.int .i64 b0, .int .i64 b1, .int .i64 b2]), .bool true]) ∧ Below w.heap.size w w') ∧ (∃ j, j < K.length ∧ trF K (j * 3) = b0 ∧ trF K (j * 3 + 1) = b1 ∧ trF K (j * 3 + 2) = b2) ∧ (∀ w : World, Calls Try.prog 33 #[(.agg #[.int .i64 (trF K (i * 3)), .int .i64 (trF K (i * 3 + 1)), .int .i64 (trF K (i * 3 + 2))])] w fun e w' => e = .returned (.tuple #[(.agg #[.int .i64 c0, .int .i64 c1, .int .i64 c2]), .bool true]) ∧ Below w.heap.size w w') ∧ (∃ j, j < K.length ∧ trF K (j * 3) = c0 ∧ trF K (j * 3 + 1) = c1 ∧ trF K (j * 3 + 2) = c2))) := by
  by_cases ha : Ok6 a0 a1 a2 a3 a4 a5
  rotate_left
  · exact ⟨0, 0, 0, 0, 0, 0, 0, 0, 0, 0, 0, 0, 0, 0, 0, 0, 0, 0, 0, 0, 0, 0, 0, false, [], by simp, fun w => implFirstForm_no _ _ _ _ _ _ ha w, fun w => specFirstForm_no _ _ _ _ _ _ ha w, fun w => implFirstPlace_no _ _ _ _ _ _ ha w, fun w => specFirstPlace_no _ _ _ _ _ _ ha w, fun w => implFirstTurn_no _ _ _ _ _ _ ha w, fun w => specFirstTurn_no _ _ _ _ _ _ ha w, fun w => (implKeptBy_no _ _ _ _ _ _ ha w).mono fun e w' ⟨x, c, h, hb⟩ => ⟨x, c, h, .inl rfl, hb⟩, fun w => (specKeptBy_no _ _ _ _ _ _ ha w).mono fun e w' ⟨x, c, h, hb⟩ => ⟨x, c, h, .inl rfl, hb⟩, fun w => implCountForms_no _ _ _ _ _ _ ha w, fun w => specCountForms_no _ _ _ _ _ _ ha w, fun h => by simp at h⟩
  obtain ⟨X, hX, rfl, rfl, rfl, rfl, rfl, rfl⟩ := set_of_rows a0 a1 a2 a3 a4 a5 ha.1 ha.2.1 ha.2.2.1 ha.2.2.2.1 ha.2.2.2.2.1 ha.2.2.2.2.2
  refine ⟨row (ffS X) 0, row (ffS X) 1, row (ffS X) 2, row (ffS X) 3, row (ffS X) 4, row (ffS X) 5, ((ffA X : Int) / 36), ((ffA X : Int) % 36 / 6), ((ffA X : Int) % 6), row (plS X) 0, row (plS X) 1, row (plS X) 2, row (plS X) 3, row (plS X) 4, row (plS X) 5, row (ftS X) 0, row (ftS X) 1, row (ftS X) 2, row (ftS X) 3, row (ftS X) 4, row (ftS X) 5, ((ftA X : Nat) : Int), 288 / ((kpL X).length : Int), true, kpL X, kpL_le X, fun w => implFirstForm_ok X hX w, fun w => specFirstForm_ok X hX w, fun w => implFirstPlace_ok X hX w, fun w => specFirstPlace_ok X hX w, fun w => implFirstTurn_ok X hX w, fun w => specFirstTurn_ok X hX w, fun w => (implKeptBy_ok X hX w).mono fun e w' ⟨g, c, h, _, hs, hb⟩ => ⟨some ⟨g, 0, none⟩, c, h, .inr ⟨g, rfl, hs.2.2, hs.1⟩, hb⟩, fun w => (specKeptBy_ok X hX w).mono fun e w' ⟨g, c, h, _, hs, hb⟩ => ⟨some ⟨g, 0, none⟩, c, h, .inr ⟨g, rfl, hs.2.2, hs.1⟩, hb⟩, fun w => implCountForms_ok X hX w, fun w => specCountForms_ok X hX w, fun _ => ⟨?_, ?_, ?_, ?_, ?_, kpL_pos X hX, ?_, ?_⟩⟩
  · exact fun w => move_at X (ffA X) hX (ffA_lt X) w
  · exact fun w => implTurnSheet_ok X (ftA X) hX (ftA_lt X) w
  · refine ⟨((ffA (ffS X) : Nat) : Int) / 36, ((ffA (ffS X) : Nat) : Int) % 36 / 6, ((ffA (ffS X) : Nat) : Int) % 6, fun w => ?_⟩
    have h := implFirstForm_ok (ffS X) (ffS_vs X) w
    rw [ffS_again X hX] at h
    exact h
  · intro w
    have h := implLessSheet_ok (plS X) (ffS X) (plS_vs X) (ffS_vs X) w
    have e : lessB (plS X) (ffS X) = false := by
      rw [lessB_rk]
      have := place_form X hX
      simp
      omega
    rw [e] at h
    exact h
  · have h := kp_mul X hX
    have e : (((288 / (kpL X).length : Nat)) : Int) = (288 : Int) / ((kpL X).length : Int) := Int.natCast_ediv 288 (kpL X).length
    rw [← e, ← Int.natCast_mul, h]
    rfl
  · obtain ⟨j, hj, h1, h2, h3⟩ := in_list (kpL X) 0 (kp_zero_mem X hX)
    exact ⟨j, hj, h1.trans (by simp), h2.trans (by simp), h3.trans (by simp)⟩
  · intro i hi
    have hp := kpL_pos X hX
    have hm := getD_mem (kpL X) i hi
    have hl := getD_mem (kpL X) ((kpL X).length - 1) (by omega)
    obtain ⟨e1, e2, e3⟩ := trF_at (kpL X) i hi
    obtain ⟨d1, d2, d3⟩ := trF_at (kpL X) ((kpL X).length - 1) (by omega)
    rw [e1, e2, e3, d1, d2, d3]
    generalize (kpL X).getD i 0 = n at *
    generalize (kpL X).getD ((kpL X).length - 1) 0 = l at *
    obtain ⟨n1, n2⟩ := (mem_kpL X n).1 hm
    obtain ⟨l1, l2⟩ := (mem_kpL X l).1 hl
    refine ⟨fun w => ?_, _, _, _, _, _, _, fun w => behind_at' n l n1 l1 w, in_list _ _ (kp_mul_mem X n l hm hl), fun w => back_at n n1 w, in_list _ _ (kp_bk_mem X n hX hm)⟩
    have h := move_at X n hX n1 w
    rw [n2] at h
    exact h
theorem alike_uni (a0 a1 a2 a3 a4 a5 b0 b1 b2 b3 b4 b5 : Int) : ∃ (are three : Bool), (∀ w : World, Calls Try.prog 48 #[(.agg #[.int .i64 a0, .int .i64 a1, .int .i64 a2, .int .i64 a3, .int .i64 a4, .int .i64 a5]), (.agg #[.int .i64 b0, .int .i64 b1, .int .i64 b2, .int .i64 b3, .int .i64 b4, .int .i64 b5])] w fun e w' => e = .returned (.tuple #[.bool are, .bool three]) ∧ Below w.heap.size w w') ∧ (∀ w : World, Calls Try.prog 47 #[(.agg #[.int .i64 a0, .int .i64 a1, .int .i64 a2, .int .i64 a3, .int .i64 a4, .int .i64 a5]), (.agg #[.int .i64 b0, .int .i64 b1, .int .i64 b2, .int .i64 b3, .int .i64 b4, .int .i64 b5])] w fun e w' => e = .returned (.tuple #[.bool are, .bool three]) ∧ Below w.heap.size w w') ∧ (three = true → ∃ x0 x1 x2 x3 x4 x5 m0 m1 m2 y0 y1 y2 y3 y4 y5 n0 n1 n2 : Int, (∀ w : World, Calls Try.prog 50 #[(.agg #[.int .i64 a0, .int .i64 a1, .int .i64 a2, .int .i64 a3, .int .i64 a4, .int .i64 a5])] w fun e w' => e = .returned (.tuple #[(.agg #[.int .i64 x0, .int .i64 x1, .int .i64 x2, .int .i64 x3, .int .i64 x4, .int .i64 x5]), (.agg #[.int .i64 m0, .int .i64 m1, .int .i64 m2]), .bool true]) ∧ Below w.heap.size w w') ∧ (∀ w : World, Calls Try.prog 50 #[(.agg #[.int .i64 b0, .int .i64 b1, .int .i64 b2, .int .i64 b3, .int .i64 b4, .int .i64 b5])] w fun e w' => e = .returned (.tuple #[(.agg #[.int .i64 y0, .int .i64 y1, .int .i64 y2, .int .i64 y3, .int .i64 y4, .int .i64 y5]), (.agg #[.int .i64 n0, .int .i64 n1, .int .i64 n2]), .bool true]) ∧ Below w.heap.size w w') ∧ are = decide (x0 = y0 ∧ x1 = y1 ∧ x2 = y2 ∧ x3 = y3 ∧ x4 = y4 ∧ x5 = y5)) := by
  by_cases hab : Ok6 a0 a1 a2 a3 a4 a5 ∧ Ok6 b0 b1 b2 b3 b4 b5
  rotate_left
  · exact ⟨false, false, fun w => implAreAlike_no _ _ _ _ _ _ _ _ _ _ _ _ hab w, fun w => specAreAlike_no _ _ _ _ _ _ _ _ _ _ _ _ hab w, fun h => by simp at h⟩
  obtain ⟨ha, hb⟩ := hab
  obtain ⟨X, hX, rfl, rfl, rfl, rfl, rfl, rfl⟩ := set_of_rows a0 a1 a2 a3 a4 a5 ha.1 ha.2.1 ha.2.2.1 ha.2.2.2.1 ha.2.2.2.2.1 ha.2.2.2.2.2
  obtain ⟨Y, hY, rfl, rfl, rfl, rfl, rfl, rfl⟩ := set_of_rows b0 b1 b2 b3 b4 b5 hb.1 hb.2.1 hb.2.2.1 hb.2.2.2.1 hb.2.2.2.2.1 hb.2.2.2.2.2
  refine ⟨decide (ffS X = ffS Y), true, fun w => implAreAlike_ok X Y hX hY w, fun w => specAreAlike_ok X Y hX hY w, fun _ => ⟨row (ffS X) 0, row (ffS X) 1, row (ffS X) 2, row (ffS X) 3, row (ffS X) 4, row (ffS X) 5, _, _, _, row (ffS Y) 0, row (ffS Y) 1, row (ffS Y) 2, row (ffS Y) 3, row (ffS Y) 4, row (ffS Y) 5, _, _, _, fun w => implFirstForm_ok X hX w, fun w => implFirstForm_ok Y hY w, ?_⟩⟩
  exact decide_eq_decide.2 (rows_iff (ffS X) (ffS Y) (ffS_vs X) (ffS_vs Y)).symm
end Go.Proofs.Ytidaoalnngmoaaa
