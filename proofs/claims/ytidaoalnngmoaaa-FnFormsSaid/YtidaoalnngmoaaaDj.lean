/-
  Contracts of the reference's search for the first place, turn and form of a sheet. No conditions.
-/
import Derived.Test.YtidaoalnngmoaaaDg
import Derived.Test.YtidaoalnngmoaaaMathH
namespace Go.Proofs.Ytidaoalnngmoaaa
open Go.RowKit
set_option linter.unusedSimpArgs false
set_option linter.unusedVariables false

/-- block B is a row of 2 whole numbers -/
def Holds2 (w : World) (T B : Nat) (a0 a1 : Int) : Prop := w.heap[B]? = some (.cells #[.int .i64 a0, .int .i64 a1] T (0, 0))
section
variable {w w' : World} {T B N : Nat} {a0 a1 : Int}
theorem Holds2.c0 (h : Holds2 w T B a0 a1) : w.cell? ⟨B, 0, none⟩ = some (.int .i64 a0) := by unfold Holds2 at h; simp [World.cell?, h]
theorem Holds2.c1 (h : Holds2 w T B a0 a1) : w.cell? ⟨B, 1, none⟩ = some (.int .i64 a1) := by unfold Holds2 at h; simp [World.cell?, h]
theorem Holds2.free (h : Holds2 w T B a0 a1) (o : Nat) : w.frozen? ⟨B, o, none⟩ = false := by unfold Holds2 at h; simp [World.frozen?, h]
theorem Holds2.lt (h : Holds2 w T B a0 a1) : B < w.heap.size := World.block_lt_of_cell? w _ h.c0
theorem Holds2.below (h : Holds2 w T B a0 a1) (hb : Below N w w') (hB : B < N) : Holds2 w' T B a0 a1 := (hb.block B hB).trans h
theorem Holds2.made' (h : B = w.heap.size) : Holds2 (w.alloc (.cells #[.int .i64 a0, .int .i64 a1] T)) T B a0 a1 := by
  subst h; exact heap_alloc_new w _
theorem Holds2.alloc (h : Holds2 w T B a0 a1) (o : Obj) : Holds2 (w.alloc o) T B a0 a1 := by
  unfold Holds2 at *; rw [Below.heap_alloc _ _ _ (by simpa using Holds2.lt (T := T) h)]; exact h
theorem Holds2.drew (h : Holds2 w T B a0 a1) : Holds2 w.drew T B a0 a1 := h
theorem Holds2.drewN (h : Holds2 w T B a0 a1) (n : Nat) : Holds2 (w.drewN n) T B a0 a1 := h
theorem Holds2.far (h : Holds2 w T B a0 a1) (p : Addr) (v : Value) (hp : B ≠ p.block) : Holds2 (w.setCell p v) T B a0 a1 := by
  unfold Holds2 at *; rw [Below.heap_setCell _ _ _ _ hp]; exact h
theorem Holds2.store (h : Holds2 w T B a0 a1) (b0 b1 : Int) : Holds2 ((w.setCell ⟨B, 0, none⟩ (.int .i64 b0)).setCell ⟨B, 1, none⟩ (.int .i64 b1)) T B b0 b1 := by
  unfold Holds2 at *
  simp [World.setCell, Array.getElem?_modify, h]
end

/-- block B is a row of 3 whole numbers -/
def Holds3 (w : World) (T B : Nat) (a0 a1 a2 : Int) : Prop := w.heap[B]? = some (.cells #[.int .i64 a0, .int .i64 a1, .int .i64 a2] T (0, 0))
section
variable {w w' : World} {T B N : Nat} {a0 a1 a2 : Int}
theorem Holds3.c0 (h : Holds3 w T B a0 a1 a2) : w.cell? ⟨B, 0, none⟩ = some (.int .i64 a0) := by unfold Holds3 at h; simp [World.cell?, h]
theorem Holds3.c1 (h : Holds3 w T B a0 a1 a2) : w.cell? ⟨B, 1, none⟩ = some (.int .i64 a1) := by unfold Holds3 at h; simp [World.cell?, h]
theorem Holds3.c2 (h : Holds3 w T B a0 a1 a2) : w.cell? ⟨B, 2, none⟩ = some (.int .i64 a2) := by unfold Holds3 at h; simp [World.cell?, h]
theorem Holds3.free (h : Holds3 w T B a0 a1 a2) (o : Nat) : w.frozen? ⟨B, o, none⟩ = false := by unfold Holds3 at h; simp [World.frozen?, h]
theorem Holds3.lt (h : Holds3 w T B a0 a1 a2) : B < w.heap.size := World.block_lt_of_cell? w _ h.c0
theorem Holds3.below (h : Holds3 w T B a0 a1 a2) (hb : Below N w w') (hB : B < N) : Holds3 w' T B a0 a1 a2 := (hb.block B hB).trans h
theorem Holds3.made' (h : B = w.heap.size) : Holds3 (w.alloc (.cells #[.int .i64 a0, .int .i64 a1, .int .i64 a2] T)) T B a0 a1 a2 := by
  subst h; exact heap_alloc_new w _
theorem Holds3.alloc (h : Holds3 w T B a0 a1 a2) (o : Obj) : Holds3 (w.alloc o) T B a0 a1 a2 := by
  unfold Holds3 at *; rw [Below.heap_alloc _ _ _ (by simpa using Holds3.lt (T := T) h)]; exact h
theorem Holds3.drew (h : Holds3 w T B a0 a1 a2) : Holds3 w.drew T B a0 a1 a2 := h
theorem Holds3.drewN (h : Holds3 w T B a0 a1 a2) (n : Nat) : Holds3 (w.drewN n) T B a0 a1 a2 := h
theorem Holds3.far (h : Holds3 w T B a0 a1 a2) (p : Addr) (v : Value) (hp : B ≠ p.block) : Holds3 (w.setCell p v) T B a0 a1 a2 := by
  unfold Holds3 at *; rw [Below.heap_setCell _ _ _ _ hp]; exact h
theorem Holds3.store (h : Holds3 w T B a0 a1 a2) (b0 b1 b2 : Int) : Holds3 (((w.setCell ⟨B, 0, none⟩ (.int .i64 b0)).setCell ⟨B, 1, none⟩ (.int .i64 b1)).setCell ⟨B, 2, none⟩ (.int .i64 b2)) T B b0 b1 b2 := by
  unfold Holds3 at *
  simp [World.setCell, Array.getElem?_modify, h]
end

theorem before_yes (X Y : Nat) (h : rkN X < rkN Y) (w : World) : Calls Try.prog 92 #[(.agg #[.int .i64 (row X 0), .int .i64 (row X 1), .int .i64 (row X 2), .int .i64 (row X 3), .int .i64 (row X 4), .int .i64 (row X 5)]), (.agg #[.int .i64 (row Y 0), .int .i64 (row Y 1), .int .i64 (row Y 2), .int .i64 (row Y 3), .int .i64 (row Y 4), .int .i64 (row Y 5)])] w fun e w' => e = .returned (.bool true) ∧ Below w.heap.size w w' := by
  have h1 := l2Before_any X Y w
  rw [lessB_rk, decide_eq_true h] at h1
  exact h1
theorem before_no (X Y : Nat) (h : ¬ rkN X < rkN Y) (w : World) : Calls Try.prog 92 #[(.agg #[.int .i64 (row X 0), .int .i64 (row X 1), .int .i64 (row X 2), .int .i64 (row X 3), .int .i64 (row X 4), .int .i64 (row X 5)]), (.agg #[.int .i64 (row Y 0), .int .i64 (row Y 1), .int .i64 (row Y 2), .int .i64 (row Y 3), .int .i64 (row Y 4), .int .i64 (row Y 5)])] w fun e w' => e = .returned (.bool false) ∧ Below w.heap.size w w' := by
  have h1 := l2Before_any X Y w
  rw [lessB_rk, decide_eq_false h] at h1
  exact h1
/-- what the loops of l3Place keep: of n places the A-th is the first one, it is B -/
def PlMem (X n : Nat) (w wr : World) : Prop :=
  ∃ A B : Nat, Hid (A = amN (fun i => rkN (plN X i)) n) ∧ Hid (B = plN X A) ∧ Below w.heap.size w wr ∧ HoldsA wr 33 (w.heap.size) (row X 0) (row X 1) (row X 2) (row X 3) (row X 4) (row X 5) ∧ HoldsA wr 33 (w.heap.size + 1) 0 0 0 0 0 0 ∧
    Holds2 wr 98 (w.heap.size + 1 + 1) 0 0 ∧ HoldsA wr 33 (w.heap.size + 1 + 1 + 1) (row B 0) (row B 1) (row B 2) (row B 3) (row B 4) (row B 5) ∧ Holds2 wr 98 (w.heap.size + 1 + 1 + 1 + 1) ((A : Int) / 6) ((A : Int) % 6)
def PlRelY (X : Nat) (w : World) (i : Value) (wr : World) : Prop :=
  ∃ x : Nat, x ≤ 6 ∧ i = .int .i64 (x : Int) ∧ PlMem X (6 * x) w wr
def PlRel (X x : Nat) (w : World) (i : Value) (wr : World) : Prop :=
  ∃ y : Nat, y ≤ 6 ∧ i = .int .i64 (y : Int) ∧ PlMem X (6 * x + y) w wr
set_option maxRecDepth 100000 in
set_option maxHeartbeats 1600000 in
theorem l3Place_any (X : Nat) (hX : Vs X) (w : World) : Calls Try.prog 89 #[(.agg #[.int .i64 (row X 0), .int .i64 (row X 1), .int .i64 (row X 2), .int .i64 (row X 3), .int .i64 (row X 4), .int .i64 (row X 5)])] w fun e w' => e = .returned (.tuple #[(.agg #[.int .i64 (row (plS X) 0), .int .i64 (row (plS X) 1), .int .i64 (row (plS X) 2), .int .i64 (row (plS X) 3), .int .i64 (row (plS X) 4), .int .i64 (row (plS X) 5)]), (.agg #[.int .i64 ((plA X : Int) / 6), .int .i64 ((plA X : Int) % 6)])]) ∧ Below w.heap.size w w' := by
  go_enter Try.func89, Try.ntmps89
  go_wp2
  go_loopw [6] (PlRelY X w) (fun i _ => 6 - (intOf i).toNat)
  case atStart =>
    refine ⟨0, Nat.zero_le _, rfl, 0, X, Lib.hid (by simp [amN]), Lib.hid (plN_zero X hX).symm, (by repeat (first | with_reducible exact Below.refl _ _ | with_reducible assumption | with_reducible refine Below.drew ?_ | with_reducible refine below_drewN ?_ _ | with_reducible refine Below.alloc ?_ ?_ _ | with_reducible refine Below.setCell ?_ ?_ _ | with_reducible refine Below.trans ?_ (Below.mono (by assumption) ?_) | omega | (simp <;> omega))), ?_, ?_, ?_, ?_, ?_⟩
    · (repeat (first | with_reducible assumption | (with_reducible refine HoldsA.made' ?_; (simp; done)) | with_reducible refine HoldsA.alloc ?_ _ | with_reducible refine HoldsA.drew ?_ | with_reducible refine HoldsA.drewN ?_ _ | (with_reducible refine HoldsA.far ?_ _ _ (by first | (simp; done) | (simp; omega))) | (with_reducible refine HoldsA.below ?_ (by with_reducible assumption) (by first | (simp; done) | (simp; omega) | omega)) | (with_reducible refine Holds2.made' ?_; (simp; done)) | with_reducible refine Holds2.alloc ?_ _ | with_reducible refine Holds2.drew ?_ | with_reducible refine Holds2.drewN ?_ _ | (with_reducible refine Holds2.far ?_ _ _ (by first | (simp; done) | (simp; omega))) | (with_reducible refine Holds2.below ?_ (by with_reducible assumption) (by first | (simp; done) | (simp; omega) | omega)) | (with_reducible refine Holds3.made' ?_; (simp; done)) | with_reducible refine Holds3.alloc ?_ _ | with_reducible refine Holds3.drew ?_ | with_reducible refine Holds3.drewN ?_ _ | (with_reducible refine Holds3.far ?_ _ _ (by first | (simp; done) | (simp; omega))) | (with_reducible refine Holds3.below ?_ (by with_reducible assumption) (by first | (simp; done) | (simp; omega) | omega))))
    · (repeat (first | with_reducible assumption | (with_reducible refine HoldsA.made' ?_; (simp; done)) | with_reducible refine HoldsA.alloc ?_ _ | with_reducible refine HoldsA.drew ?_ | with_reducible refine HoldsA.drewN ?_ _ | (with_reducible refine HoldsA.far ?_ _ _ (by first | (simp; done) | (simp; omega))) | (with_reducible refine HoldsA.below ?_ (by with_reducible assumption) (by first | (simp; done) | (simp; omega) | omega)) | (with_reducible refine Holds2.made' ?_; (simp; done)) | with_reducible refine Holds2.alloc ?_ _ | with_reducible refine Holds2.drew ?_ | with_reducible refine Holds2.drewN ?_ _ | (with_reducible refine Holds2.far ?_ _ _ (by first | (simp; done) | (simp; omega))) | (with_reducible refine Holds2.below ?_ (by with_reducible assumption) (by first | (simp; done) | (simp; omega) | omega)) | (with_reducible refine Holds3.made' ?_; (simp; done)) | with_reducible refine Holds3.alloc ?_ _ | with_reducible refine Holds3.drew ?_ | with_reducible refine Holds3.drewN ?_ _ | (with_reducible refine Holds3.far ?_ _ _ (by first | (simp; done) | (simp; omega))) | (with_reducible refine Holds3.below ?_ (by with_reducible assumption) (by first | (simp; done) | (simp; omega) | omega))))
    · (repeat (first | with_reducible assumption | (with_reducible refine HoldsA.made' ?_; (simp; done)) | with_reducible refine HoldsA.alloc ?_ _ | with_reducible refine HoldsA.drew ?_ | with_reducible refine HoldsA.drewN ?_ _ | (with_reducible refine HoldsA.far ?_ _ _ (by first | (simp; done) | (simp; omega))) | (with_reducible refine HoldsA.below ?_ (by with_reducible assumption) (by first | (simp; done) | (simp; omega) | omega)) | (with_reducible refine Holds2.made' ?_; (simp; done)) | with_reducible refine Holds2.alloc ?_ _ | with_reducible refine Holds2.drew ?_ | with_reducible refine Holds2.drewN ?_ _ | (with_reducible refine Holds2.far ?_ _ _ (by first | (simp; done) | (simp; omega))) | (with_reducible refine Holds2.below ?_ (by with_reducible assumption) (by first | (simp; done) | (simp; omega) | omega)) | (with_reducible refine Holds3.made' ?_; (simp; done)) | with_reducible refine Holds3.alloc ?_ _ | with_reducible refine Holds3.drew ?_ | with_reducible refine Holds3.drewN ?_ _ | (with_reducible refine Holds3.far ?_ _ _ (by first | (simp; done) | (simp; omega))) | (with_reducible refine Holds3.below ?_ (by with_reducible assumption) (by first | (simp; done) | (simp; omega) | omega))))
    · (repeat (first | with_reducible assumption | (with_reducible refine HoldsA.made' ?_; (simp; done)) | with_reducible refine HoldsA.alloc ?_ _ | with_reducible refine HoldsA.drew ?_ | with_reducible refine HoldsA.drewN ?_ _ | (with_reducible refine HoldsA.far ?_ _ _ (by first | (simp; done) | (simp; omega))) | (with_reducible refine HoldsA.below ?_ (by with_reducible assumption) (by first | (simp; done) | (simp; omega) | omega)) | (with_reducible refine Holds2.made' ?_; (simp; done)) | with_reducible refine Holds2.alloc ?_ _ | with_reducible refine Holds2.drew ?_ | with_reducible refine Holds2.drewN ?_ _ | (with_reducible refine Holds2.far ?_ _ _ (by first | (simp; done) | (simp; omega))) | (with_reducible refine Holds2.below ?_ (by with_reducible assumption) (by first | (simp; done) | (simp; omega) | omega)) | (with_reducible refine Holds3.made' ?_; (simp; done)) | with_reducible refine Holds3.alloc ?_ _ | with_reducible refine Holds3.drew ?_ | with_reducible refine Holds3.drewN ?_ _ | (with_reducible refine Holds3.far ?_ _ _ (by first | (simp; done) | (simp; omega))) | (with_reducible refine Holds3.below ?_ (by with_reducible assumption) (by first | (simp; done) | (simp; omega) | omega))))
    · rw [show ((0 : Nat) : Int) / 6 = 0 from rfl, show ((0 : Nat) : Int) % 6 = 0 from rfl]
      (repeat (first | with_reducible assumption | (with_reducible refine HoldsA.made' ?_; (simp; done)) | with_reducible refine HoldsA.alloc ?_ _ | with_reducible refine HoldsA.drew ?_ | with_reducible refine HoldsA.drewN ?_ _ | (with_reducible refine HoldsA.far ?_ _ _ (by first | (simp; done) | (simp; omega))) | (with_reducible refine HoldsA.below ?_ (by with_reducible assumption) (by first | (simp; done) | (simp; omega) | omega)) | (with_reducible refine Holds2.made' ?_; (simp; done)) | with_reducible refine Holds2.alloc ?_ _ | with_reducible refine Holds2.drew ?_ | with_reducible refine Holds2.drewN ?_ _ | (with_reducible refine Holds2.far ?_ _ _ (by first | (simp; done) | (simp; omega))) | (with_reducible refine Holds2.below ?_ (by with_reducible assumption) (by first | (simp; done) | (simp; omega) | omega)) | (with_reducible refine Holds3.made' ?_; (simp; done)) | with_reducible refine Holds3.alloc ?_ _ | with_reducible refine Holds3.drew ?_ | with_reducible refine Holds3.drewN ?_ _ | (with_reducible refine Holds3.far ?_ _ _ (by first | (simp; done) | (simp; omega))) | (with_reducible refine Holds3.below ?_ (by with_reducible assumption) (by first | (simp; done) | (simp; omega) | omega))))
  case round =>
    obtain ⟨x, hx, rfl, hm⟩ := hrel
    by_cases hlt : x < 6
    · have hlt' : (x : Int) < 6 := by omega
      go_wp2
      obtain ⟨wo, rfl⟩ : ∃ wo : World, wo = wr := ⟨_, rfl⟩
      go_loopw [7] (PlRel X x w) (fun i _ => 6 - (intOf i).toNat)
      case atStart => exact ⟨0, Nat.zero_le _, rfl, hm⟩
      case round =>
        clear hm
        obtain ⟨y, hy, rfl, A, B, hA, hB, hbw, h0, h1, h2, h3, h4⟩ := hrel
        by_cases hly : y < 6
        · have hly' : (y : Int) < 6 := by omega
          have hsh := l2Shift_nat X x y hlt hly
          have hpl : shiftN X x y = plN X (6 * x + y) := by
            unfold plN
            rw [show (6 * x + y) / 6 = x by omega, show (6 * x + y) % 6 = y by omega]
          rw [hpl] at hsh
          have hSH := Lib.hid hsh
          clear hsh hpl
          have hx0 := h0.c0
          have hx1 := h0.c1
          have hx2 := h0.c2
          have hx3 := h0.c3
          have hx4 := h0.c4
          have hx5 := h0.c5
          have hxf := h0.free
          have ho0 := h3.c0
          have ho1 := h3.c1
          have ho2 := h3.c2
          have ho3 := h3.c3
          have ho4 := h3.c4
          have ho5 := h3.c5
          have hof := h3.free
          have hq0 := h4.c0
          have hq1 := h4.c1
          have hqf := h4.free
          have hlw := h0.lt
          have hlw1 := h1.lt
          have hlw2 := h2.lt
          have hlw3 := h3.lt
          have hlw4 := h4.lt
          by_cases hr : rkN (plN X (6 * x + y)) < rkN B
          · have hbe := Lib.hid (before_yes _ _ hr)
            have hst := Lib.hid (amN_pos (fun i => rkN (plN X i)) (6 * x + y) (by have hB1 : B = plN X A := hB.out; rw [← hA.out]; show rkN (plN X (6 * x + y)) < rkN (plN X A); rw [← hB1]; exact hr))
            clear hr
            go_wp2_with (first | (go_at_call 116; (with_reducible refine (hSH.out _).mono ?_); rintro e w1 ⟨rfl, hb⟩; obtain ⟨hc, hf, hT, hz⟩ := bfacts hb; (try simp only [World.size_alloc, World.size_setCell, World.size_drew, size_drewN] at hc hf hT hz); (try (have hzA := Nat.lt_of_succ_le hz)); (try (have hl0 : w.heap.size ≤ w1.heap.size := by omega)); (try (have hz0 : w.heap.size < w1.heap.size := by omega)); (try (have hz1 : w.heap.size + 1 < w1.heap.size := by omega)); (try (have hz2 : w.heap.size + 1 + 1 < w1.heap.size := by omega)); (try (have hz3 : w.heap.size + 1 + 1 + 1 < w1.heap.size := by omega)); (try (have hz4 : w.heap.size + 1 + 1 + 1 + 1 < w1.heap.size := by omega))) | (go_at_call 92; (with_reducible refine (hbe.out _).mono ?_); rintro e w1 ⟨rfl, hb⟩; obtain ⟨hc, hf, hT, hz⟩ := bfacts hb; (try simp only [World.size_alloc, World.size_setCell, World.size_drew, size_drewN] at hc hf hT hz); (try (have hzA := Nat.lt_of_succ_le hz)); (try (have hl0 : w.heap.size ≤ w1.heap.size := by omega)); (try (have hz0 : w.heap.size < w1.heap.size := by omega)); (try (have hz1 : w.heap.size + 1 < w1.heap.size := by omega)); (try (have hz2 : w.heap.size + 1 + 1 < w1.heap.size := by omega)); (try (have hz3 : w.heap.size + 1 + 1 + 1 < w1.heap.size := by omega)); (try (have hz4 : w.heap.size + 1 + 1 + 1 + 1 < w1.heap.size := by omega))))
            have hBB : Below wr.heap.size wr w1 := (by repeat (first | with_reducible exact Below.refl _ _ | with_reducible assumption | with_reducible refine Below.drew ?_ | with_reducible refine below_drewN ?_ _ | with_reducible refine Below.alloc ?_ ?_ _ | with_reducible refine Below.setCell ?_ ?_ _ | with_reducible refine Below.trans ?_ (Below.mono (by assumption) ?_) | omega | (simp <;> omega)))
            have e0 := h0.below hBB h0.lt
            have e1 := h1.below hBB h1.lt
            have e2 := h2.below hBB h2.lt
            have e3 := (h3.below hBB h3.lt).store (row (plN X (6 * x + y)) 0) (row (plN X (6 * x + y)) 1) (row (plN X (6 * x + y)) 2) (row (plN X (6 * x + y)) 3) (row (plN X (6 * x + y)) 4) (row (plN X (6 * x + y)) 5)
            have e4 := h4.below hBB h4.lt
            have hB3 := hbw.trans (hBB.mono hbw.size)
            have hzz := hBB.size
            clear hBB
            go_roundw
            case rel =>
              refine ⟨y + 1, by omega, by go_num, 6 * x + y, plN X (6 * x + y), Lib.hid ?_, Lib.hid rfl, (by repeat (first | with_reducible exact Below.refl _ _ | with_reducible assumption | with_reducible refine Below.drew ?_ | with_reducible refine below_drewN ?_ _ | with_reducible refine Below.alloc ?_ ?_ _ | with_reducible refine Below.setCell ?_ ?_ _ | with_reducible refine Below.trans ?_ (Below.mono (by assumption) ?_) | omega | (simp <;> omega))), ?_, ?_, ?_, ?_, ?_⟩
              · rw [← Nat.add_assoc, hst.out]
              · (repeat (first | with_reducible assumption | (with_reducible refine HoldsA.made' ?_; (simp; done)) | with_reducible refine HoldsA.alloc ?_ _ | with_reducible refine HoldsA.drew ?_ | with_reducible refine HoldsA.drewN ?_ _ | (with_reducible refine HoldsA.far ?_ _ _ (by first | (simp; done) | (simp; omega))) | (with_reducible refine HoldsA.below ?_ (by with_reducible assumption) (by first | (simp; done) | (simp; omega) | omega)) | (with_reducible refine Holds2.made' ?_; (simp; done)) | with_reducible refine Holds2.alloc ?_ _ | with_reducible refine Holds2.drew ?_ | with_reducible refine Holds2.drewN ?_ _ | (with_reducible refine Holds2.far ?_ _ _ (by first | (simp; done) | (simp; omega))) | (with_reducible refine Holds2.below ?_ (by with_reducible assumption) (by first | (simp; done) | (simp; omega) | omega)) | (with_reducible refine Holds3.made' ?_; (simp; done)) | with_reducible refine Holds3.alloc ?_ _ | with_reducible refine Holds3.drew ?_ | with_reducible refine Holds3.drewN ?_ _ | (with_reducible refine Holds3.far ?_ _ _ (by first | (simp; done) | (simp; omega))) | (with_reducible refine Holds3.below ?_ (by with_reducible assumption) (by first | (simp; done) | (simp; omega) | omega))))
              · (repeat (first | with_reducible assumption | (with_reducible refine HoldsA.made' ?_; (simp; done)) | with_reducible refine HoldsA.alloc ?_ _ | with_reducible refine HoldsA.drew ?_ | with_reducible refine HoldsA.drewN ?_ _ | (with_reducible refine HoldsA.far ?_ _ _ (by first | (simp; done) | (simp; omega))) | (with_reducible refine HoldsA.below ?_ (by with_reducible assumption) (by first | (simp; done) | (simp; omega) | omega)) | (with_reducible refine Holds2.made' ?_; (simp; done)) | with_reducible refine Holds2.alloc ?_ _ | with_reducible refine Holds2.drew ?_ | with_reducible refine Holds2.drewN ?_ _ | (with_reducible refine Holds2.far ?_ _ _ (by first | (simp; done) | (simp; omega))) | (with_reducible refine Holds2.below ?_ (by with_reducible assumption) (by first | (simp; done) | (simp; omega) | omega)) | (with_reducible refine Holds3.made' ?_; (simp; done)) | with_reducible refine Holds3.alloc ?_ _ | with_reducible refine Holds3.drew ?_ | with_reducible refine Holds3.drewN ?_ _ | (with_reducible refine Holds3.far ?_ _ _ (by first | (simp; done) | (simp; omega))) | (with_reducible refine Holds3.below ?_ (by with_reducible assumption) (by first | (simp; done) | (simp; omega) | omega))))
              · (repeat (first | with_reducible assumption | (with_reducible refine HoldsA.made' ?_; (simp; done)) | with_reducible refine HoldsA.alloc ?_ _ | with_reducible refine HoldsA.drew ?_ | with_reducible refine HoldsA.drewN ?_ _ | (with_reducible refine HoldsA.far ?_ _ _ (by first | (simp; done) | (simp; omega))) | (with_reducible refine HoldsA.below ?_ (by with_reducible assumption) (by first | (simp; done) | (simp; omega) | omega)) | (with_reducible refine Holds2.made' ?_; (simp; done)) | with_reducible refine Holds2.alloc ?_ _ | with_reducible refine Holds2.drew ?_ | with_reducible refine Holds2.drewN ?_ _ | (with_reducible refine Holds2.far ?_ _ _ (by first | (simp; done) | (simp; omega))) | (with_reducible refine Holds2.below ?_ (by with_reducible assumption) (by first | (simp; done) | (simp; omega) | omega)) | (with_reducible refine Holds3.made' ?_; (simp; done)) | with_reducible refine Holds3.alloc ?_ _ | with_reducible refine Holds3.drew ?_ | with_reducible refine Holds3.drewN ?_ _ | (with_reducible refine Holds3.far ?_ _ _ (by first | (simp; done) | (simp; omega))) | (with_reducible refine Holds3.below ?_ (by with_reducible assumption) (by first | (simp; done) | (simp; omega) | omega))))
              · (repeat (first | with_reducible assumption | (with_reducible refine HoldsA.made' ?_; (simp; done)) | with_reducible refine HoldsA.alloc ?_ _ | with_reducible refine HoldsA.drew ?_ | with_reducible refine HoldsA.drewN ?_ _ | (with_reducible refine HoldsA.far ?_ _ _ (by first | (simp; done) | (simp; omega))) | (with_reducible refine HoldsA.below ?_ (by with_reducible assumption) (by first | (simp; done) | (simp; omega) | omega)) | (with_reducible refine Holds2.made' ?_; (simp; done)) | with_reducible refine Holds2.alloc ?_ _ | with_reducible refine Holds2.drew ?_ | with_reducible refine Holds2.drewN ?_ _ | (with_reducible refine Holds2.far ?_ _ _ (by first | (simp; done) | (simp; omega))) | (with_reducible refine Holds2.below ?_ (by with_reducible assumption) (by first | (simp; done) | (simp; omega) | omega)) | (with_reducible refine Holds3.made' ?_; (simp; done)) | with_reducible refine Holds3.alloc ?_ _ | with_reducible refine Holds3.drew ?_ | with_reducible refine Holds3.drewN ?_ _ | (with_reducible refine Holds3.far ?_ _ _ (by first | (simp; done) | (simp; omega))) | (with_reducible refine Holds3.below ?_ (by with_reducible assumption) (by first | (simp; done) | (simp; omega) | omega))))
              · rw [show ((6 * x + y : Nat) : Int) / 6 = (x : Int) by omega, show ((6 * x + y : Nat) : Int) % 6 = (y : Int) by omega]
                refine Holds2.store (a0 := (A : Int) / 6) (a1 := (A : Int) % 6) ?_ _ _
                (repeat (first | with_reducible assumption | (with_reducible refine HoldsA.made' ?_; (simp; done)) | with_reducible refine HoldsA.alloc ?_ _ | with_reducible refine HoldsA.drew ?_ | with_reducible refine HoldsA.drewN ?_ _ | (with_reducible refine HoldsA.far ?_ _ _ (by first | (simp; done) | (simp; omega))) | (with_reducible refine HoldsA.below ?_ (by with_reducible assumption) (by first | (simp; done) | (simp; omega) | omega)) | (with_reducible refine Holds2.made' ?_; (simp; done)) | with_reducible refine Holds2.alloc ?_ _ | with_reducible refine Holds2.drew ?_ | with_reducible refine Holds2.drewN ?_ _ | (with_reducible refine Holds2.far ?_ _ _ (by first | (simp; done) | (simp; omega))) | (with_reducible refine Holds2.below ?_ (by with_reducible assumption) (by first | (simp; done) | (simp; omega) | omega)) | (with_reducible refine Holds3.made' ?_; (simp; done)) | with_reducible refine Holds3.alloc ?_ _ | with_reducible refine Holds3.drew ?_ | with_reducible refine Holds3.drewN ?_ _ | (with_reducible refine Holds3.far ?_ _ _ (by first | (simp; done) | (simp; omega))) | (with_reducible refine Holds3.below ?_ (by with_reducible assumption) (by first | (simp; done) | (simp; omega) | omega))))
            case measure => simp [intOf]; omega
          · have hbe := Lib.hid (before_no _ _ hr)
            have hst := Lib.hid (amN_neg (fun i => rkN (plN X i)) (6 * x + y) (by have hB1 : B = plN X A := hB.out; rw [← hA.out]; show ¬ rkN (plN X (6 * x + y)) < rkN (plN X A); rw [← hB1]; exact hr))
            clear hr
            go_wp2_with (first | (go_at_call 116; (with_reducible refine (hSH.out _).mono ?_); rintro e w1 ⟨rfl, hb⟩; obtain ⟨hc, hf, hT, hz⟩ := bfacts hb; (try simp only [World.size_alloc, World.size_setCell, World.size_drew, size_drewN] at hc hf hT hz); (try (have hzA := Nat.lt_of_succ_le hz)); (try (have hl0 : w.heap.size ≤ w1.heap.size := by omega)); (try (have hz0 : w.heap.size < w1.heap.size := by omega)); (try (have hz1 : w.heap.size + 1 < w1.heap.size := by omega)); (try (have hz2 : w.heap.size + 1 + 1 < w1.heap.size := by omega)); (try (have hz3 : w.heap.size + 1 + 1 + 1 < w1.heap.size := by omega)); (try (have hz4 : w.heap.size + 1 + 1 + 1 + 1 < w1.heap.size := by omega))) | (go_at_call 92; (with_reducible refine (hbe.out _).mono ?_); rintro e w1 ⟨rfl, hb⟩; obtain ⟨hc, hf, hT, hz⟩ := bfacts hb; (try simp only [World.size_alloc, World.size_setCell, World.size_drew, size_drewN] at hc hf hT hz); (try (have hzA := Nat.lt_of_succ_le hz)); (try (have hl0 : w.heap.size ≤ w1.heap.size := by omega)); (try (have hz0 : w.heap.size < w1.heap.size := by omega)); (try (have hz1 : w.heap.size + 1 < w1.heap.size := by omega)); (try (have hz2 : w.heap.size + 1 + 1 < w1.heap.size := by omega)); (try (have hz3 : w.heap.size + 1 + 1 + 1 < w1.heap.size := by omega)); (try (have hz4 : w.heap.size + 1 + 1 + 1 + 1 < w1.heap.size := by omega))))
            have hBB : Below wr.heap.size wr w1 := (by repeat (first | with_reducible exact Below.refl _ _ | with_reducible assumption | with_reducible refine Below.drew ?_ | with_reducible refine below_drewN ?_ _ | with_reducible refine Below.alloc ?_ ?_ _ | with_reducible refine Below.setCell ?_ ?_ _ | with_reducible refine Below.trans ?_ (Below.mono (by assumption) ?_) | omega | (simp <;> omega)))
            have e0 := h0.below hBB h0.lt
            have e1 := h1.below hBB h1.lt
            have e2 := h2.below hBB h2.lt
            have e3 := h3.below hBB h3.lt
            have e4 := h4.below hBB h4.lt
            have hB3 := hbw.trans (hBB.mono hbw.size)
            have hzz := hBB.size
            clear hBB
            go_roundw
            case rel => exact ⟨y + 1, by omega, by go_num, A, B, Lib.hid (by rw [← Nat.add_assoc, hst.out]; exact hA.out), hB, (by repeat (first | with_reducible exact Below.refl _ _ | with_reducible assumption | with_reducible refine Below.drew ?_ | with_reducible refine below_drewN ?_ _ | with_reducible refine Below.alloc ?_ ?_ _ | with_reducible refine Below.setCell ?_ ?_ _ | with_reducible refine Below.trans ?_ (Below.mono (by assumption) ?_) | omega | (simp <;> omega))), by (repeat (first | with_reducible assumption | (with_reducible refine HoldsA.made' ?_; (simp; done)) | with_reducible refine HoldsA.alloc ?_ _ | with_reducible refine HoldsA.drew ?_ | with_reducible refine HoldsA.drewN ?_ _ | (with_reducible refine HoldsA.far ?_ _ _ (by first | (simp; done) | (simp; omega))) | (with_reducible refine HoldsA.below ?_ (by with_reducible assumption) (by first | (simp; done) | (simp; omega) | omega)) | (with_reducible refine Holds2.made' ?_; (simp; done)) | with_reducible refine Holds2.alloc ?_ _ | with_reducible refine Holds2.drew ?_ | with_reducible refine Holds2.drewN ?_ _ | (with_reducible refine Holds2.far ?_ _ _ (by first | (simp; done) | (simp; omega))) | (with_reducible refine Holds2.below ?_ (by with_reducible assumption) (by first | (simp; done) | (simp; omega) | omega)) | (with_reducible refine Holds3.made' ?_; (simp; done)) | with_reducible refine Holds3.alloc ?_ _ | with_reducible refine Holds3.drew ?_ | with_reducible refine Holds3.drewN ?_ _ | (with_reducible refine Holds3.far ?_ _ _ (by first | (simp; done) | (simp; omega))) | (with_reducible refine Holds3.below ?_ (by with_reducible assumption) (by first | (simp; done) | (simp; omega) | omega)))), by (repeat (first | with_reducible assumption | (with_reducible refine HoldsA.made' ?_; (simp; done)) | with_reducible refine HoldsA.alloc ?_ _ | with_reducible refine HoldsA.drew ?_ | with_reducible refine HoldsA.drewN ?_ _ | (with_reducible refine HoldsA.far ?_ _ _ (by first | (simp; done) | (simp; omega))) | (with_reducible refine HoldsA.below ?_ (by with_reducible assumption) (by first | (simp; done) | (simp; omega) | omega)) | (with_reducible refine Holds2.made' ?_; (simp; done)) | with_reducible refine Holds2.alloc ?_ _ | with_reducible refine Holds2.drew ?_ | with_reducible refine Holds2.drewN ?_ _ | (with_reducible refine Holds2.far ?_ _ _ (by first | (simp; done) | (simp; omega))) | (with_reducible refine Holds2.below ?_ (by with_reducible assumption) (by first | (simp; done) | (simp; omega) | omega)) | (with_reducible refine Holds3.made' ?_; (simp; done)) | with_reducible refine Holds3.alloc ?_ _ | with_reducible refine Holds3.drew ?_ | with_reducible refine Holds3.drewN ?_ _ | (with_reducible refine Holds3.far ?_ _ _ (by first | (simp; done) | (simp; omega))) | (with_reducible refine Holds3.below ?_ (by with_reducible assumption) (by first | (simp; done) | (simp; omega) | omega)))), by (repeat (first | with_reducible assumption | (with_reducible refine HoldsA.made' ?_; (simp; done)) | with_reducible refine HoldsA.alloc ?_ _ | with_reducible refine HoldsA.drew ?_ | with_reducible refine HoldsA.drewN ?_ _ | (with_reducible refine HoldsA.far ?_ _ _ (by first | (simp; done) | (simp; omega))) | (with_reducible refine HoldsA.below ?_ (by with_reducible assumption) (by first | (simp; done) | (simp; omega) | omega)) | (with_reducible refine Holds2.made' ?_; (simp; done)) | with_reducible refine Holds2.alloc ?_ _ | with_reducible refine Holds2.drew ?_ | with_reducible refine Holds2.drewN ?_ _ | (with_reducible refine Holds2.far ?_ _ _ (by first | (simp; done) | (simp; omega))) | (with_reducible refine Holds2.below ?_ (by with_reducible assumption) (by first | (simp; done) | (simp; omega) | omega)) | (with_reducible refine Holds3.made' ?_; (simp; done)) | with_reducible refine Holds3.alloc ?_ _ | with_reducible refine Holds3.drew ?_ | with_reducible refine Holds3.drewN ?_ _ | (with_reducible refine Holds3.far ?_ _ _ (by first | (simp; done) | (simp; omega))) | (with_reducible refine Holds3.below ?_ (by with_reducible assumption) (by first | (simp; done) | (simp; omega) | omega)))), by (repeat (first | with_reducible assumption | (with_reducible refine HoldsA.made' ?_; (simp; done)) | with_reducible refine HoldsA.alloc ?_ _ | with_reducible refine HoldsA.drew ?_ | with_reducible refine HoldsA.drewN ?_ _ | (with_reducible refine HoldsA.far ?_ _ _ (by first | (simp; done) | (simp; omega))) | (with_reducible refine HoldsA.below ?_ (by with_reducible assumption) (by first | (simp; done) | (simp; omega) | omega)) | (with_reducible refine Holds2.made' ?_; (simp; done)) | with_reducible refine Holds2.alloc ?_ _ | with_reducible refine Holds2.drew ?_ | with_reducible refine Holds2.drewN ?_ _ | (with_reducible refine Holds2.far ?_ _ _ (by first | (simp; done) | (simp; omega))) | (with_reducible refine Holds2.below ?_ (by with_reducible assumption) (by first | (simp; done) | (simp; omega) | omega)) | (with_reducible refine Holds3.made' ?_; (simp; done)) | with_reducible refine Holds3.alloc ?_ _ | with_reducible refine Holds3.drew ?_ | with_reducible refine Holds3.drewN ?_ _ | (with_reducible refine Holds3.far ?_ _ _ (by first | (simp; done) | (simp; omega))) | (with_reducible refine Holds3.below ?_ (by with_reducible assumption) (by first | (simp; done) | (simp; omega) | omega)))), by (repeat (first | with_reducible assumption | (with_reducible refine HoldsA.made' ?_; (simp; done)) | with_reducible refine HoldsA.alloc ?_ _ | with_reducible refine HoldsA.drew ?_ | with_reducible refine HoldsA.drewN ?_ _ | (with_reducible refine HoldsA.far ?_ _ _ (by first | (simp; done) | (simp; omega))) | (with_reducible refine HoldsA.below ?_ (by with_reducible assumption) (by first | (simp; done) | (simp; omega) | omega)) | (with_reducible refine Holds2.made' ?_; (simp; done)) | with_reducible refine Holds2.alloc ?_ _ | with_reducible refine Holds2.drew ?_ | with_reducible refine Holds2.drewN ?_ _ | (with_reducible refine Holds2.far ?_ _ _ (by first | (simp; done) | (simp; omega))) | (with_reducible refine Holds2.below ?_ (by with_reducible assumption) (by first | (simp; done) | (simp; omega) | omega)) | (with_reducible refine Holds3.made' ?_; (simp; done)) | with_reducible refine Holds3.alloc ?_ _ | with_reducible refine Holds3.drew ?_ | with_reducible refine Holds3.drewN ?_ _ | (with_reducible refine Holds3.far ?_ _ _ (by first | (simp; done) | (simp; omega))) | (with_reducible refine Holds3.below ?_ (by with_reducible assumption) (by first | (simp; done) | (simp; omega) | omega))))⟩
            case measure => simp [intOf]; omega
        · have e : y = 6 := by omega
          subst e
          go_wp2
          go_roundw
          case rel => exact ⟨x + 1, by omega, by go_num, A, B, hA, hB, hbw, h0, h1, h2, h3, h4⟩
          case measure => simp [intOf]; omega
    · have e : x = 6 := by omega
      subst e
      obtain ⟨A, B, hA, hB, hbw, h0, h1, h2, h3, h4⟩ := hm
      have hA1 : A = plA X := hA.out
      have hB1 : B = plS X := by have h5 : B = plN X A := hB.out; rw [h5, hA1]; rfl
      subst hB1
      obtain rfl := hA1
      have hr0 := h1.c0
      have hr1 := h1.c1
      have hr2 := h1.c2
      have hr3 := h1.c3
      have hr4 := h1.c4
      have hr5 := h1.c5
      have hrf := h1.free
      have ho0 := h3.c0
      have ho1 := h3.c1
      have ho2 := h3.c2
      have ho3 := h3.c3
      have ho4 := h3.c4
      have ho5 := h3.c5
      have hof := h3.free
      have hq0 := h4.c0
      have hq1 := h4.c1
      have hu0 := h2.c0
      have hu1 := h2.c1
      have huf := h2.free
      have hlw1 := h1.lt
      have hlw2 := h2.lt
      have hlw3 := h3.lt
      have hlw4 := h4.lt
      have hbsz := hbw.size
      clear hA hB
      go_wp2
      go_region
      all_goals
        go_wp2
        exact bodyPost_ret (v := .tuple #[(.agg #[.int .i64 (row (plS X) 0), .int .i64 (row (plS X) 1), .int .i64 (row (plS X) 2), .int .i64 (row (plS X) 3), .int .i64 (row (plS X) 4), .int .i64 (row (plS X) 5)]), (.agg #[.int .i64 ((plA X : Int) / 6), .int .i64 ((plA X : Int) % 6)])]) (by simp [results, Try.results89, go_sem, *]) rfl ⟨rfl, (by repeat (first | with_reducible exact Below.refl _ _ | with_reducible assumption | with_reducible refine Below.drew ?_ | with_reducible refine below_drewN ?_ _ | with_reducible refine Below.alloc ?_ ?_ _ | with_reducible refine Below.setCell ?_ ?_ _ | with_reducible refine Below.trans ?_ (Below.mono (by assumption) ?_) | omega | (simp <;> omega)))⟩
set_option maxRecDepth 100000 in
theorem specFirstPlace_ok (X : Nat) (hX : Vs X) (w : World) : Calls Try.prog 36 #[(.agg #[.int .i64 (row X 0), .int .i64 (row X 1), .int .i64 (row X 2), .int .i64 (row X 3), .int .i64 (row X 4), .int .i64 (row X 5)])] w fun e w' => e = .returned (.tuple #[(.agg #[.int .i64 (row (plS X) 0), .int .i64 (row (plS X) 1), .int .i64 (row (plS X) 2), .int .i64 (row (plS X) 3), .int .i64 (row (plS X) 4), .int .i64 (row (plS X) 5)]), .bool true]) ∧ Below w.heap.size w w' := by
  go_enter Try.func36, Try.ntmps36
  go_wp2_with (first | (go_at_call 77; (with_reducible refine (l2Sheet_ok _ _).mono ?_); rintro e w1 ⟨rfl, hb⟩; obtain ⟨hc, hf, hT, hz⟩ := bfacts hb; (try simp only [World.size_alloc, World.size_setCell, World.size_drew, size_drewN] at hc hf hT hz); (try (have hzA := Nat.lt_of_succ_le hz)); (try (have hl0 : w.heap.size ≤ w1.heap.size := by omega)); (try (have hz0 : w.heap.size < w1.heap.size := by omega)); (try (have hz1 : w.heap.size + 1 < w1.heap.size := by omega)); (try (have hz2 : w.heap.size + 1 + 1 < w1.heap.size := by omega)); (try (have hz3 : w.heap.size + 1 + 1 + 1 < w1.heap.size := by omega)); (try (have hz4 : w.heap.size + 1 + 1 + 1 + 1 < w1.heap.size := by omega))) | (go_at_call 89; (with_reducible refine (l3Place_any X hX _).mono ?_); rintro e w1 ⟨rfl, hb⟩; obtain ⟨hc, hf, hT, hz⟩ := bfacts hb; (try simp only [World.size_alloc, World.size_setCell, World.size_drew, size_drewN] at hc hf hT hz); (try (have hzA := Nat.lt_of_succ_le hz)); (try (have hl0 : w.heap.size ≤ w1.heap.size := by omega)); (try (have hz0 : w.heap.size < w1.heap.size := by omega)); (try (have hz1 : w.heap.size + 1 < w1.heap.size := by omega)); (try (have hz2 : w.heap.size + 1 + 1 < w1.heap.size := by omega)); (try (have hz3 : w.heap.size + 1 + 1 + 1 < w1.heap.size := by omega)); (try (have hz4 : w.heap.size + 1 + 1 + 1 + 1 < w1.heap.size := by omega))))
  exact bodyPost_ret (v := .tuple #[(.agg #[.int .i64 (row (plS X) 0), .int .i64 (row (plS X) 1), .int .i64 (row (plS X) 2), .int .i64 (row (plS X) 3), .int .i64 (row (plS X) 4), .int .i64 (row (plS X) 5)]), .bool true]) (by simp [results, Try.results36, go_sem, *]) rfl ⟨rfl, (by repeat (first | with_reducible exact Below.refl _ _ | with_reducible assumption | with_reducible refine Below.drew ?_ | with_reducible refine below_drewN ?_ _ | with_reducible refine Below.alloc ?_ ?_ _ | with_reducible refine Below.setCell ?_ ?_ _ | with_reducible refine Below.trans ?_ (Below.mono (by assumption) ?_) | omega | (simp <;> omega)))⟩

/-- what the loop of FirstTurn keeps: of k turns the A-th is the first one, it is C, in block B -/
def FtRel (X B : Nat) (w : World) (num i : Value) (wr : World) : Prop :=
  ∃ k A C : Nat, 1 ≤ k ∧ k ≤ 8 ∧ i = .int .i64 (k : Int) ∧ num = .int .i64 (A : Int) ∧ Hid (A = amN (fun i => rkN (turnS i X)) k) ∧ Hid (C = turnS A X) ∧ Below w.heap.size w wr ∧
    HoldsA wr 33 (w.heap.size) (row X 0) (row X 1) (row X 2) (row X 3) (row X 4) (row X 5) ∧ HoldsA wr 33 (w.heap.size + 1) 0 0 0 0 0 0 ∧ HoldsA wr 33 (B) (row C 0) (row C 1) (row C 2) (row C 3) (row C 4) (row C 5)
set_option maxRecDepth 100000 in
set_option maxHeartbeats 1600000 in
theorem specFirstTurn_ok (X : Nat) (hX : Vs X) (w : World) : Calls Try.prog 38 #[(.agg #[.int .i64 (row X 0), .int .i64 (row X 1), .int .i64 (row X 2), .int .i64 (row X 3), .int .i64 (row X 4), .int .i64 (row X 5)])] w fun e w' => e = .returned (.tuple #[(.agg #[.int .i64 (row (ftS X) 0), .int .i64 (row (ftS X) 1), .int .i64 (row (ftS X) 2), .int .i64 (row (ftS X) 3), .int .i64 (row (ftS X) 4), .int .i64 (row (ftS X) 5)]), .int .i64 ((ftA X : Nat) : Int), .bool true]) ∧ Below w.heap.size w w' := by
  go_enter Try.func38, Try.ntmps38
  go_wp2_with (go_at_call 77; (with_reducible refine (l2Sheet_ok _ _).mono ?_); rintro e w1 ⟨rfl, hb⟩; obtain ⟨hc, hf, hT, hz⟩ := bfacts hb; (try simp only [World.size_alloc, World.size_setCell, World.size_drew, size_drewN] at hc hf hT hz); (try (have hzA := Nat.lt_of_succ_le hz)); (try (have hl0 : w.heap.size ≤ w1.heap.size := by omega)); (try (have hz0 : w.heap.size < w1.heap.size := by omega)); (try (have hz1 : w.heap.size + 1 < w1.heap.size := by omega)); (try (have hz2 : w.heap.size + 1 + 1 < w1.heap.size := by omega)); (try (have hz3 : w.heap.size + 1 + 1 + 1 < w1.heap.size := by omega)); (try (have hz4 : w.heap.size + 1 + 1 + 1 + 1 < w1.heap.size := by omega)))
  obtain ⟨wS, rfl⟩ : ∃ wS : World, wS = w1 := ⟨_, rfl⟩
  have hwb : w.heap.size + 1 < wS.heap.size := by omega
  go_loopw [6, 7] (FtRel X wS.heap.size w) (fun _ i _ => 8 - (intOf i).toNat)
  case atStart =>
    refine ⟨1, 0, X, by omega, by omega, rfl, rfl, Lib.hid (amN_one _).symm, Lib.hid (turnS_zero X hX).symm, (by repeat (first | with_reducible exact Below.refl _ _ | with_reducible assumption | with_reducible refine Below.drew ?_ | with_reducible refine below_drewN ?_ _ | with_reducible refine Below.alloc ?_ ?_ _ | with_reducible refine Below.setCell ?_ ?_ _ | with_reducible refine Below.trans ?_ (Below.mono (by assumption) ?_) | omega | (simp <;> omega))), ?_, ?_, ?_⟩
    · (repeat (first | with_reducible assumption | (with_reducible refine HoldsA.made' ?_; (simp; done)) | with_reducible refine HoldsA.alloc ?_ _ | with_reducible refine HoldsA.drew ?_ | with_reducible refine HoldsA.drewN ?_ _ | (with_reducible refine HoldsA.far ?_ _ _ (by first | (simp; done) | (simp; omega))) | (with_reducible refine HoldsA.below ?_ (by with_reducible assumption) (by first | (simp; done) | (simp; omega) | omega)) | (with_reducible refine Holds2.made' ?_; (simp; done)) | with_reducible refine Holds2.alloc ?_ _ | with_reducible refine Holds2.drew ?_ | with_reducible refine Holds2.drewN ?_ _ | (with_reducible refine Holds2.far ?_ _ _ (by first | (simp; done) | (simp; omega))) | (with_reducible refine Holds2.below ?_ (by with_reducible assumption) (by first | (simp; done) | (simp; omega) | omega)) | (with_reducible refine Holds3.made' ?_; (simp; done)) | with_reducible refine Holds3.alloc ?_ _ | with_reducible refine Holds3.drew ?_ | with_reducible refine Holds3.drewN ?_ _ | (with_reducible refine Holds3.far ?_ _ _ (by first | (simp; done) | (simp; omega))) | (with_reducible refine Holds3.below ?_ (by with_reducible assumption) (by first | (simp; done) | (simp; omega) | omega))))
    · (repeat (first | with_reducible assumption | (with_reducible refine HoldsA.made' ?_; (simp; done)) | with_reducible refine HoldsA.alloc ?_ _ | with_reducible refine HoldsA.drew ?_ | with_reducible refine HoldsA.drewN ?_ _ | (with_reducible refine HoldsA.far ?_ _ _ (by first | (simp; done) | (simp; omega))) | (with_reducible refine HoldsA.below ?_ (by with_reducible assumption) (by first | (simp; done) | (simp; omega) | omega)) | (with_reducible refine Holds2.made' ?_; (simp; done)) | with_reducible refine Holds2.alloc ?_ _ | with_reducible refine Holds2.drew ?_ | with_reducible refine Holds2.drewN ?_ _ | (with_reducible refine Holds2.far ?_ _ _ (by first | (simp; done) | (simp; omega))) | (with_reducible refine Holds2.below ?_ (by with_reducible assumption) (by first | (simp; done) | (simp; omega) | omega)) | (with_reducible refine Holds3.made' ?_; (simp; done)) | with_reducible refine Holds3.alloc ?_ _ | with_reducible refine Holds3.drew ?_ | with_reducible refine Holds3.drewN ?_ _ | (with_reducible refine Holds3.far ?_ _ _ (by first | (simp; done) | (simp; omega))) | (with_reducible refine Holds3.below ?_ (by with_reducible assumption) (by first | (simp; done) | (simp; omega) | omega))))
    · (repeat (first | with_reducible assumption | (with_reducible refine HoldsA.made' ?_; (simp; done)) | with_reducible refine HoldsA.alloc ?_ _ | with_reducible refine HoldsA.drew ?_ | with_reducible refine HoldsA.drewN ?_ _ | (with_reducible refine HoldsA.far ?_ _ _ (by first | (simp; done) | (simp; omega))) | (with_reducible refine HoldsA.below ?_ (by with_reducible assumption) (by first | (simp; done) | (simp; omega) | omega)) | (with_reducible refine Holds2.made' ?_; (simp; done)) | with_reducible refine Holds2.alloc ?_ _ | with_reducible refine Holds2.drew ?_ | with_reducible refine Holds2.drewN ?_ _ | (with_reducible refine Holds2.far ?_ _ _ (by first | (simp; done) | (simp; omega))) | (with_reducible refine Holds2.below ?_ (by with_reducible assumption) (by first | (simp; done) | (simp; omega) | omega)) | (with_reducible refine Holds3.made' ?_; (simp; done)) | with_reducible refine Holds3.alloc ?_ _ | with_reducible refine Holds3.drew ?_ | with_reducible refine Holds3.drewN ?_ _ | (with_reducible refine Holds3.far ?_ _ _ (by first | (simp; done) | (simp; omega))) | (with_reducible refine Holds3.below ?_ (by with_reducible assumption) (by first | (simp; done) | (simp; omega) | omega))))
  case round =>
    obtain ⟨k, A, C, h1k, hk, rfl, rfl, hA, hC, hbw, h0, h1, h2⟩ := hrel
    have hbsz := hbw.size
    by_cases hlt : k < 8
    · have hlt' : (k : Int) < 8 := by omega
      have hx0 := h0.c0
      have hx1 := h0.c1
      have hx2 := h0.c2
      have hx3 := h0.c3
      have hx4 := h0.c4
      have hx5 := h0.c5
      have hxf := h0.free
      have ho0 := h2.c0
      have ho1 := h2.c1
      have ho2 := h2.c2
      have ho3 := h2.c3
      have ho4 := h2.c4
      have ho5 := h2.c5
      have hof := h2.free
      have hlw := h0.lt
      have hlw1 := h1.lt
      have hlw2 := h2.lt
      by_cases hr : rkN (turnS k X) < rkN C
      · have hbe := Lib.hid (before_yes _ _ hr)
        have hst := Lib.hid (amN_pos (fun i => rkN (turnS i X)) k (by have hC1 : C = turnS A X := hC.out; rw [← hA.out]; show rkN (turnS k X) < rkN (turnS A X); rw [← hC1]; exact hr))
        clear hr
        go_wp2_with (first | (go_at_call 71; (with_reducible refine (l3Turn_any X k hX hlt _).mono ?_); rintro e w1 ⟨rfl, hb⟩; obtain ⟨hc, hf, hT, hz⟩ := bfacts hb; (try simp only [World.size_alloc, World.size_setCell, World.size_drew, size_drewN] at hc hf hT hz); (try (have hzA := Nat.lt_of_succ_le hz)); (try (have hl0 : w.heap.size ≤ w1.heap.size := by omega)); (try (have hz0 : w.heap.size < w1.heap.size := by omega)); (try (have hz1 : w.heap.size + 1 < w1.heap.size := by omega)); (try (have hz2 : w.heap.size + 1 + 1 < w1.heap.size := by omega)); (try (have hz3 : w.heap.size + 1 + 1 + 1 < w1.heap.size := by omega)); (try (have hz4 : w.heap.size + 1 + 1 + 1 + 1 < w1.heap.size := by omega)); (try (have gxwSheapsize : wS.heap.size < w1.heap.size := by omega))) | (go_at_call 92; (with_reducible refine (hbe.out _).mono ?_); rintro e w1 ⟨rfl, hb⟩; obtain ⟨hc, hf, hT, hz⟩ := bfacts hb; (try simp only [World.size_alloc, World.size_setCell, World.size_drew, size_drewN] at hc hf hT hz); (try (have hzA := Nat.lt_of_succ_le hz)); (try (have hl0 : w.heap.size ≤ w1.heap.size := by omega)); (try (have hz0 : w.heap.size < w1.heap.size := by omega)); (try (have hz1 : w.heap.size + 1 < w1.heap.size := by omega)); (try (have hz2 : w.heap.size + 1 + 1 < w1.heap.size := by omega)); (try (have hz3 : w.heap.size + 1 + 1 + 1 < w1.heap.size := by omega)); (try (have hz4 : w.heap.size + 1 + 1 + 1 + 1 < w1.heap.size := by omega)); (try (have gxwSheapsize : wS.heap.size < w1.heap.size := by omega))))
        have hBB : Below wr.heap.size wr w1 := (by repeat (first | with_reducible exact Below.refl _ _ | with_reducible assumption | with_reducible refine Below.drew ?_ | with_reducible refine below_drewN ?_ _ | with_reducible refine Below.alloc ?_ ?_ _ | with_reducible refine Below.setCell ?_ ?_ _ | with_reducible refine Below.trans ?_ (Below.mono (by assumption) ?_) | omega | (simp <;> omega)))
        have e0 := h0.below hBB h0.lt
        have e1 := h1.below hBB h1.lt
        have e2 := (h2.below hBB h2.lt).store (row (turnS k X) 0) (row (turnS k X) 1) (row (turnS k X) 2) (row (turnS k X) 3) (row (turnS k X) 4) (row (turnS k X) 5)
        have hB3 := hbw.trans (hBB.mono hbw.size)
        have hzz := hBB.size
        clear hBB
        go_roundw
        case rel =>
          refine ⟨k + 1, k, turnS k X, by omega, by omega, by go_num, rfl, Lib.hid hst.out.symm, Lib.hid rfl, (by repeat (first | with_reducible exact Below.refl _ _ | with_reducible assumption | with_reducible refine Below.drew ?_ | with_reducible refine below_drewN ?_ _ | with_reducible refine Below.alloc ?_ ?_ _ | with_reducible refine Below.setCell ?_ ?_ _ | with_reducible refine Below.trans ?_ (Below.mono (by assumption) ?_) | omega | (simp <;> omega))), ?_, ?_, ?_⟩
          · (repeat (first | with_reducible assumption | (with_reducible refine HoldsA.made' ?_; (simp; done)) | with_reducible refine HoldsA.alloc ?_ _ | with_reducible refine HoldsA.drew ?_ | with_reducible refine HoldsA.drewN ?_ _ | (with_reducible refine HoldsA.far ?_ _ _ (by first | (simp; done) | (simp; omega))) | (with_reducible refine HoldsA.below ?_ (by with_reducible assumption) (by first | (simp; done) | (simp; omega) | omega)) | (with_reducible refine Holds2.made' ?_; (simp; done)) | with_reducible refine Holds2.alloc ?_ _ | with_reducible refine Holds2.drew ?_ | with_reducible refine Holds2.drewN ?_ _ | (with_reducible refine Holds2.far ?_ _ _ (by first | (simp; done) | (simp; omega))) | (with_reducible refine Holds2.below ?_ (by with_reducible assumption) (by first | (simp; done) | (simp; omega) | omega)) | (with_reducible refine Holds3.made' ?_; (simp; done)) | with_reducible refine Holds3.alloc ?_ _ | with_reducible refine Holds3.drew ?_ | with_reducible refine Holds3.drewN ?_ _ | (with_reducible refine Holds3.far ?_ _ _ (by first | (simp; done) | (simp; omega))) | (with_reducible refine Holds3.below ?_ (by with_reducible assumption) (by first | (simp; done) | (simp; omega) | omega))))
          · (repeat (first | with_reducible assumption | (with_reducible refine HoldsA.made' ?_; (simp; done)) | with_reducible refine HoldsA.alloc ?_ _ | with_reducible refine HoldsA.drew ?_ | with_reducible refine HoldsA.drewN ?_ _ | (with_reducible refine HoldsA.far ?_ _ _ (by first | (simp; done) | (simp; omega))) | (with_reducible refine HoldsA.below ?_ (by with_reducible assumption) (by first | (simp; done) | (simp; omega) | omega)) | (with_reducible refine Holds2.made' ?_; (simp; done)) | with_reducible refine Holds2.alloc ?_ _ | with_reducible refine Holds2.drew ?_ | with_reducible refine Holds2.drewN ?_ _ | (with_reducible refine Holds2.far ?_ _ _ (by first | (simp; done) | (simp; omega))) | (with_reducible refine Holds2.below ?_ (by with_reducible assumption) (by first | (simp; done) | (simp; omega) | omega)) | (with_reducible refine Holds3.made' ?_; (simp; done)) | with_reducible refine Holds3.alloc ?_ _ | with_reducible refine Holds3.drew ?_ | with_reducible refine Holds3.drewN ?_ _ | (with_reducible refine Holds3.far ?_ _ _ (by first | (simp; done) | (simp; omega))) | (with_reducible refine Holds3.below ?_ (by with_reducible assumption) (by first | (simp; done) | (simp; omega) | omega))))
          · exact e2
        case measure => simp [intOf]; omega
      · have hbe := Lib.hid (before_no _ _ hr)
        have hst := Lib.hid (amN_neg (fun i => rkN (turnS i X)) k (by have hC1 : C = turnS A X := hC.out; rw [← hA.out]; show ¬ rkN (turnS k X) < rkN (turnS A X); rw [← hC1]; exact hr))
        clear hr
        go_wp2_with (first | (go_at_call 71; (with_reducible refine (l3Turn_any X k hX hlt _).mono ?_); rintro e w1 ⟨rfl, hb⟩; obtain ⟨hc, hf, hT, hz⟩ := bfacts hb; (try simp only [World.size_alloc, World.size_setCell, World.size_drew, size_drewN] at hc hf hT hz); (try (have hzA := Nat.lt_of_succ_le hz)); (try (have hl0 : w.heap.size ≤ w1.heap.size := by omega)); (try (have hz0 : w.heap.size < w1.heap.size := by omega)); (try (have hz1 : w.heap.size + 1 < w1.heap.size := by omega)); (try (have hz2 : w.heap.size + 1 + 1 < w1.heap.size := by omega)); (try (have hz3 : w.heap.size + 1 + 1 + 1 < w1.heap.size := by omega)); (try (have hz4 : w.heap.size + 1 + 1 + 1 + 1 < w1.heap.size := by omega)); (try (have gxwSheapsize : wS.heap.size < w1.heap.size := by omega))) | (go_at_call 92; (with_reducible refine (hbe.out _).mono ?_); rintro e w1 ⟨rfl, hb⟩; obtain ⟨hc, hf, hT, hz⟩ := bfacts hb; (try simp only [World.size_alloc, World.size_setCell, World.size_drew, size_drewN] at hc hf hT hz); (try (have hzA := Nat.lt_of_succ_le hz)); (try (have hl0 : w.heap.size ≤ w1.heap.size := by omega)); (try (have hz0 : w.heap.size < w1.heap.size := by omega)); (try (have hz1 : w.heap.size + 1 < w1.heap.size := by omega)); (try (have hz2 : w.heap.size + 1 + 1 < w1.heap.size := by omega)); (try (have hz3 : w.heap.size + 1 + 1 + 1 < w1.heap.size := by omega)); (try (have hz4 : w.heap.size + 1 + 1 + 1 + 1 < w1.heap.size := by omega)); (try (have gxwSheapsize : wS.heap.size < w1.heap.size := by omega))))
        have hBB : Below wr.heap.size wr w1 := (by repeat (first | with_reducible exact Below.refl _ _ | with_reducible assumption | with_reducible refine Below.drew ?_ | with_reducible refine below_drewN ?_ _ | with_reducible refine Below.alloc ?_ ?_ _ | with_reducible refine Below.setCell ?_ ?_ _ | with_reducible refine Below.trans ?_ (Below.mono (by assumption) ?_) | omega | (simp <;> omega)))
        have e0 := h0.below hBB h0.lt
        have e1 := h1.below hBB h1.lt
        have e2 := h2.below hBB h2.lt
        have hB3 := hbw.trans (hBB.mono hbw.size)
        have hzz := hBB.size
        clear hBB
        go_roundw
        case rel =>
          refine ⟨k + 1, A, C, by omega, by omega, by go_num, rfl, Lib.hid (hA.out.trans hst.out.symm), hC, (by repeat (first | with_reducible exact Below.refl _ _ | with_reducible assumption | with_reducible refine Below.drew ?_ | with_reducible refine below_drewN ?_ _ | with_reducible refine Below.alloc ?_ ?_ _ | with_reducible refine Below.setCell ?_ ?_ _ | with_reducible refine Below.trans ?_ (Below.mono (by assumption) ?_) | omega | (simp <;> omega))), ?_, ?_, ?_⟩
          · (repeat (first | with_reducible assumption | (with_reducible refine HoldsA.made' ?_; (simp; done)) | with_reducible refine HoldsA.alloc ?_ _ | with_reducible refine HoldsA.drew ?_ | with_reducible refine HoldsA.drewN ?_ _ | (with_reducible refine HoldsA.far ?_ _ _ (by first | (simp; done) | (simp; omega))) | (with_reducible refine HoldsA.below ?_ (by with_reducible assumption) (by first | (simp; done) | (simp; omega) | omega)) | (with_reducible refine Holds2.made' ?_; (simp; done)) | with_reducible refine Holds2.alloc ?_ _ | with_reducible refine Holds2.drew ?_ | with_reducible refine Holds2.drewN ?_ _ | (with_reducible refine Holds2.far ?_ _ _ (by first | (simp; done) | (simp; omega))) | (with_reducible refine Holds2.below ?_ (by with_reducible assumption) (by first | (simp; done) | (simp; omega) | omega)) | (with_reducible refine Holds3.made' ?_; (simp; done)) | with_reducible refine Holds3.alloc ?_ _ | with_reducible refine Holds3.drew ?_ | with_reducible refine Holds3.drewN ?_ _ | (with_reducible refine Holds3.far ?_ _ _ (by first | (simp; done) | (simp; omega))) | (with_reducible refine Holds3.below ?_ (by with_reducible assumption) (by first | (simp; done) | (simp; omega) | omega))))
          · (repeat (first | with_reducible assumption | (with_reducible refine HoldsA.made' ?_; (simp; done)) | with_reducible refine HoldsA.alloc ?_ _ | with_reducible refine HoldsA.drew ?_ | with_reducible refine HoldsA.drewN ?_ _ | (with_reducible refine HoldsA.far ?_ _ _ (by first | (simp; done) | (simp; omega))) | (with_reducible refine HoldsA.below ?_ (by with_reducible assumption) (by first | (simp; done) | (simp; omega) | omega)) | (with_reducible refine Holds2.made' ?_; (simp; done)) | with_reducible refine Holds2.alloc ?_ _ | with_reducible refine Holds2.drew ?_ | with_reducible refine Holds2.drewN ?_ _ | (with_reducible refine Holds2.far ?_ _ _ (by first | (simp; done) | (simp; omega))) | (with_reducible refine Holds2.below ?_ (by with_reducible assumption) (by first | (simp; done) | (simp; omega) | omega)) | (with_reducible refine Holds3.made' ?_; (simp; done)) | with_reducible refine Holds3.alloc ?_ _ | with_reducible refine Holds3.drew ?_ | with_reducible refine Holds3.drewN ?_ _ | (with_reducible refine Holds3.far ?_ _ _ (by first | (simp; done) | (simp; omega))) | (with_reducible refine Holds3.below ?_ (by with_reducible assumption) (by first | (simp; done) | (simp; omega) | omega))))
          · (repeat (first | with_reducible assumption | (with_reducible refine HoldsA.made' ?_; (simp; done)) | with_reducible refine HoldsA.alloc ?_ _ | with_reducible refine HoldsA.drew ?_ | with_reducible refine HoldsA.drewN ?_ _ | (with_reducible refine HoldsA.far ?_ _ _ (by first | (simp; done) | (simp; omega))) | (with_reducible refine HoldsA.below ?_ (by with_reducible assumption) (by first | (simp; done) | (simp; omega) | omega)) | (with_reducible refine Holds2.made' ?_; (simp; done)) | with_reducible refine Holds2.alloc ?_ _ | with_reducible refine Holds2.drew ?_ | with_reducible refine Holds2.drewN ?_ _ | (with_reducible refine Holds2.far ?_ _ _ (by first | (simp; done) | (simp; omega))) | (with_reducible refine Holds2.below ?_ (by with_reducible assumption) (by first | (simp; done) | (simp; omega) | omega)) | (with_reducible refine Holds3.made' ?_; (simp; done)) | with_reducible refine Holds3.alloc ?_ _ | with_reducible refine Holds3.drew ?_ | with_reducible refine Holds3.drewN ?_ _ | (with_reducible refine Holds3.far ?_ _ _ (by first | (simp; done) | (simp; omega))) | (with_reducible refine Holds3.below ?_ (by with_reducible assumption) (by first | (simp; done) | (simp; omega) | omega))))
        case measure => simp [intOf]; omega
    · have e : k = 8 := by omega
      subst e
      have hA1 : A = ftA X := hA.out
      have hC1 : C = ftS X := by have h5 : C = turnS A X := hC.out; rw [h5, hA1]; rfl
      subst hC1
      obtain rfl := hA1
      clear hA hC
      have hr0 := h1.c0
      have hr1 := h1.c1
      have hr2 := h1.c2
      have hr3 := h1.c3
      have hr4 := h1.c4
      have hr5 := h1.c5
      have hrf := h1.free
      have ho0 := h2.c0
      have ho1 := h2.c1
      have ho2 := h2.c2
      have ho3 := h2.c3
      have ho4 := h2.c4
      have ho5 := h2.c5
      have hof := h2.free
      have hlw1 := h1.lt
      have hlw2 := h2.lt
      go_wp2
      exact bodyPost_ret (v := .tuple #[(.agg #[.int .i64 (row (ftS X) 0), .int .i64 (row (ftS X) 1), .int .i64 (row (ftS X) 2), .int .i64 (row (ftS X) 3), .int .i64 (row (ftS X) 4), .int .i64 (row (ftS X) 5)]), .int .i64 ((ftA X : Nat) : Int), .bool true]) (by simp [results, Try.results38, go_sem, *]) rfl ⟨rfl, (by repeat (first | with_reducible exact Below.refl _ _ | with_reducible assumption | with_reducible refine Below.drew ?_ | with_reducible refine below_drewN ?_ _ | with_reducible refine Below.alloc ?_ ?_ _ | with_reducible refine Below.setCell ?_ ?_ _ | with_reducible refine Below.trans ?_ (Below.mono (by assumption) ?_) | omega | (simp <;> omega)))⟩
end Go.Proofs.Ytidaoalnngmoaaa
