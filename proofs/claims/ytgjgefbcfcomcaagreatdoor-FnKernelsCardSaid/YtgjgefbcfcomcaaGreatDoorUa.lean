/-
  The reference's l4Lead and l4Sum: contracts. No conditions.
-/
import Derived.Test.YtgjgefbcfcomcaaGreatDoorGb
import Derived.Test.YtgjgefbcfcomcaaGreatDoorJA
namespace Go.Proofs.YtgjgefbcfcomcaaGreatDoor
open Go.RowKit
set_option linter.unusedSimpArgs false
set_option linter.unusedVariables false

/-- the cell that is the n-th in the order of leads -/
def ldc (n : Nat) : Nat := 6 * (n / 6) + (5 - n % 6)
theorem ldc_lt (n : Nat) (h : n < 36) : ldc n < 36 := by unfold ldc; omega
theorem ldc_inj : ∀ a, a < 36 → ∀ b, b < 36 → ldc a = ldc b → a = b := by unfold ldc; omega
/-- the first black cell of X in that order among the last k -/
def ldK (X : Nat) : Nat → Nat
  | 0 => 36
  | k + 1 => if X.testBit (ldc (35 - k)) = true then 35 - k else ldK X k
def ldN (X : Nat) : Nat := ldK X 36
theorem ldK_at (X n : Nat) (h : n < 36) : ldK X (36 - n) = if X.testBit (ldc n) = true then n else ldK X (36 - (n + 1)) := by
  obtain ⟨k, hk⟩ : ∃ k, 36 - n = k + 1 := ⟨35 - n, by omega⟩
  rw [hk, ldK, show 35 - k = n by omega, show 36 - (n + 1) = k by omega]
theorem ldK_spec (X : Nat) : ∀ k, k ≤ 36 → ldK X k ≤ 36 ∧ (ldK X k < 36 → X.testBit (ldc (ldK X k)) = true) ∧ ∀ m, 36 - k ≤ m → m < ldK X k → X.testBit (ldc m) = false
  | 0, _ => ⟨Nat.le_refl _, fun h => absurd h (Nat.lt_irrefl _), fun m h1 h2 => by unfold ldK at h2; omega⟩
  | k + 1, h => by
    obtain ⟨h1, h2, h3⟩ := ldK_spec X k (by omega)
    unfold ldK
    split
    · rename_i hb
      exact ⟨by omega, fun _ => hb, fun m g1 g2 => by omega⟩
    · rename_i hb
      refine ⟨h1, h2, fun m g1 g2 => ?_⟩
      by_cases e : m = 35 - k
      · subst e
        exact Bool.eq_false_iff.2 hb
      · exact h3 m (by omega) g2
theorem ldN_le (X : Nat) : ldN X ≤ 36 := (ldK_spec X 36 (Nat.le_refl _)).1
theorem ldN_bit (X : Nat) (h : ldN X < 36) : X.testBit (ldc (ldN X)) = true := (ldK_spec X 36 (Nat.le_refl _)).2.1 h
theorem ldN_first (X m : Nat) (h : m < ldN X) : X.testBit (ldc m) = false := (ldK_spec X 36 (Nat.le_refl _)).2.2 m (by omega) h
theorem ldc_onto : ∀ c, c < 36 → ∃ n, n < 36 ∧ ldc n = c := fun c hc => ⟨6 * (c / 6) + (5 - c % 6), by omega, by unfold ldc; omega⟩
theorem ldN_zero (X : Nat) (hX : Vs X) : ldN X = 36 ↔ X = 0 := by
  constructor
  · intro h
    refine eq_of_cells hX (by unfold Vs; omega) fun j hj => ?_
    obtain ⟨n, hn, rfl⟩ := ldc_onto j hj
    rw [ldN_first X n (by omega), Nat.zero_testBit]
  · rintro rfl
    rcases Nat.lt_or_ge (ldN 0) 36 with h | h
    · have := ldN_bit 0 h
      rw [Nat.zero_testBit] at this
      cases this
    · have := ldN_le 0
      omega

def LdRel (X : Nat) (w : World) (i : Value) (wr : World) : Prop :=
  ∃ n : Nat, n ≤ 36 ∧ i = .int .i64 (n : Int) ∧ Hid (ldK X (36 - n) = ldN X) ∧ Below w.heap.size w wr ∧ HoldsA wr 26 (w.heap.size) (row X 0) (row X 1) (row X 2) (row X 3) (row X 4) (row X 5)
set_option maxRecDepth 100000 in
theorem l4Lead_any (X : Nat) (w : World) : Calls Tryz.prog 54 #[(.agg #[.int .i64 (row X 0), .int .i64 (row X 1), .int .i64 (row X 2), .int .i64 (row X 3), .int .i64 (row X 4), .int .i64 (row X 5)])] w fun e w' => e = .returned (.int .i64 ((ldN X : Nat) : Int)) ∧ Below w.heap.size w w' := by
  go_enter Tryz.func54, Tryz.ntmps54
  go_wp2
  go_loopw [3] (LdRel X w) (fun i _ => 36 - (intOf i).toNat)
  case atStart =>
    refine ⟨0, Nat.zero_le _, rfl, Lib.hid rfl, (by repeat (first | with_reducible exact Below.refl _ _ | with_reducible assumption | with_reducible refine Below.drew ?_ | with_reducible refine below_drewN ?_ _ | with_reducible refine Below.alloc ?_ ?_ _ | with_reducible refine Below.setCell ?_ ?_ _ | with_reducible refine Below.trans ?_ (Below.mono (by assumption) ?_) | omega | (simp <;> omega))), ?_⟩
    (repeat (first | with_reducible assumption | (with_reducible refine HoldsA.made' ?_; (simp; done)) | with_reducible refine HoldsA.alloc ?_ _ | with_reducible refine HoldsA.drew ?_ | with_reducible refine HoldsA.drewN ?_ _ | (with_reducible refine HoldsA.far ?_ _ _ (by first | (simp; done) | (simp; omega))) | (with_reducible refine HoldsA.below ?_ (by with_reducible assumption) (by first | (simp; done) | (simp; omega) | omega))))
  case round =>
    obtain ⟨n, hn, rfl, hl, hbw, h0⟩ := hrel
    have hx0 := h0.c0
    have hx1 := h0.c1
    have hx2 := h0.c2
    have hx3 := h0.c3
    have hx4 := h0.c4
    have hx5 := h0.c5
    have hxf := h0.free
    have hlw := h0.lt
    by_cases hlt : n < 36
    · have hlt' : (n : Int) < 36 := by omega
      have hst := ldK_at X n hlt
      obtain ⟨x, hxn⟩ : ∃ x, x = 5 - n % 6 := ⟨_, rfl⟩
      obtain ⟨y, hyn⟩ : ∃ y, y = n / 6 := ⟨_, rfl⟩
      have hx : (5 - (n : Int) % 6) = (x : Int) := by omega
      have hy : ((n : Int) / 6) = (y : Int) := by omega
      have hg := l2Get_any X x y (by omega) (by omega)
      rw [show 6 * y + x = ldc n by unfold ldc; omega] at hg
      clear hxn hyn
      by_cases hb : X.testBit (ldc n) = true
      · rw [hb] at hg
        have hG := Lib.hid hg
        have he : ldN X = n := by rw [← hl.out, hst, if_pos hb]
        have hE := Lib.hid he
        clear hg he hl hst hb
        go_wp2_with (go_at_call 72; (with_reducible refine (hG.out _).mono ?_); rintro e w1 ⟨rfl, hb⟩; obtain ⟨hc, hf, hT, hz⟩ := bfacts hb; (try simp only [World.size_alloc, World.size_setCell, World.size_drew, size_drewN] at hc hf hT hz); (try (have hzA := Nat.lt_of_succ_le hz)); (try (have hl0 : w.heap.size ≤ w1.heap.size := by omega)); (try (have hz0 : w.heap.size < w1.heap.size := by omega)); (try (have hz1 : w.heap.size + 1 < w1.heap.size := by omega)); (try (have hz2 : w.heap.size + 1 + 1 < w1.heap.size := by omega)); (try (have hz3 : w.heap.size + 1 + 1 + 1 < w1.heap.size := by omega)); (try (have hz4 : w.heap.size + 1 + 1 + 1 + 1 < w1.heap.size := by omega)))
        rw [hE.out]
        go_ret
        exact ⟨rfl, (by repeat (first | with_reducible exact Below.refl _ _ | with_reducible assumption | with_reducible refine Below.drew ?_ | with_reducible refine below_drewN ?_ _ | with_reducible refine Below.alloc ?_ ?_ _ | with_reducible refine Below.setCell ?_ ?_ _ | with_reducible refine Below.trans ?_ (Below.mono (by assumption) ?_) | omega | (simp <;> omega)))⟩
      · rw [Bool.eq_false_iff.2 hb] at hg
        have hG := Lib.hid hg
        have he : ldK X (36 - (n + 1)) = ldN X := by rw [← hl.out, hst, if_neg hb]
        have hE := Lib.hid he
        clear hg he hl hst hb
        go_wp2_with (go_at_call 72; (with_reducible refine (hG.out _).mono ?_); rintro e w1 ⟨rfl, hb⟩; obtain ⟨hc, hf, hT, hz⟩ := bfacts hb; (try simp only [World.size_alloc, World.size_setCell, World.size_drew, size_drewN] at hc hf hT hz); (try (have hzA := Nat.lt_of_succ_le hz)); (try (have hl0 : w.heap.size ≤ w1.heap.size := by omega)); (try (have hz0 : w.heap.size < w1.heap.size := by omega)); (try (have hz1 : w.heap.size + 1 < w1.heap.size := by omega)); (try (have hz2 : w.heap.size + 1 + 1 < w1.heap.size := by omega)); (try (have hz3 : w.heap.size + 1 + 1 + 1 < w1.heap.size := by omega)); (try (have hz4 : w.heap.size + 1 + 1 + 1 + 1 < w1.heap.size := by omega)))
        go_roundw
        case rel =>
          refine ⟨n + 1, by omega, by go_num, hE, (by repeat (first | with_reducible exact Below.refl _ _ | with_reducible assumption | with_reducible refine Below.drew ?_ | with_reducible refine below_drewN ?_ _ | with_reducible refine Below.alloc ?_ ?_ _ | with_reducible refine Below.setCell ?_ ?_ _ | with_reducible refine Below.trans ?_ (Below.mono (by assumption) ?_) | omega | (simp <;> omega))), ?_⟩
          (repeat (first | with_reducible assumption | (with_reducible refine HoldsA.made' ?_; (simp; done)) | with_reducible refine HoldsA.alloc ?_ _ | with_reducible refine HoldsA.drew ?_ | with_reducible refine HoldsA.drewN ?_ _ | (with_reducible refine HoldsA.far ?_ _ _ (by first | (simp; done) | (simp; omega))) | (with_reducible refine HoldsA.below ?_ (by with_reducible assumption) (by first | (simp; done) | (simp; omega) | omega))))
        case measure => simp [intOf]; omega
    · have e : n = 36 := by omega
      subst e
      have he : ldN X = 36 := by rw [← hl.out]; rfl
      have hE := Lib.hid he
      clear he hl
      go_wp2
      rw [hE.out]
      go_ret
      exact ⟨rfl, (by repeat (first | with_reducible exact Below.refl _ _ | with_reducible assumption | with_reducible refine Below.drew ?_ | with_reducible refine below_drewN ?_ _ | with_reducible refine Below.alloc ?_ ?_ _ | with_reducible refine Below.setCell ?_ ?_ _ | with_reducible refine Below.trans ?_ (Below.mono (by assumption) ?_) | omega | (simp <;> omega)))⟩
/-- block B is a pair of presses X and their print Y -/
def HoldsP (w : World) (B : Nat) (X Y : Nat) : Prop := w.heap[B]? = some (.cells #[.int .i64 (row X 0), .int .i64 (row X 1), .int .i64 (row X 2), .int .i64 (row X 3), .int .i64 (row X 4), .int .i64 (row X 5), .int .i64 (row Y 0), .int .i64 (row Y 1), .int .i64 (row Y 2), .int .i64 (row Y 3), .int .i64 (row Y 4), .int .i64 (row Y 5)] 84 (0, 0))
section
variable {w w' : World} {B N X Y : Nat}
theorem HoldsP.c0 (h : HoldsP w B X Y) : w.cell? ⟨B, 0, none⟩ = some (.int .i64 (row X 0)) := by unfold HoldsP at h; simp [World.cell?, h]
theorem HoldsP.c1 (h : HoldsP w B X Y) : w.cell? ⟨B, 1, none⟩ = some (.int .i64 (row X 1)) := by unfold HoldsP at h; simp [World.cell?, h]
theorem HoldsP.c2 (h : HoldsP w B X Y) : w.cell? ⟨B, 2, none⟩ = some (.int .i64 (row X 2)) := by unfold HoldsP at h; simp [World.cell?, h]
theorem HoldsP.c3 (h : HoldsP w B X Y) : w.cell? ⟨B, 3, none⟩ = some (.int .i64 (row X 3)) := by unfold HoldsP at h; simp [World.cell?, h]
theorem HoldsP.c4 (h : HoldsP w B X Y) : w.cell? ⟨B, 4, none⟩ = some (.int .i64 (row X 4)) := by unfold HoldsP at h; simp [World.cell?, h]
theorem HoldsP.c5 (h : HoldsP w B X Y) : w.cell? ⟨B, 5, none⟩ = some (.int .i64 (row X 5)) := by unfold HoldsP at h; simp [World.cell?, h]
theorem HoldsP.c6 (h : HoldsP w B X Y) : w.cell? ⟨B, 6, none⟩ = some (.int .i64 (row Y 0)) := by unfold HoldsP at h; simp [World.cell?, h]
theorem HoldsP.c7 (h : HoldsP w B X Y) : w.cell? ⟨B, 7, none⟩ = some (.int .i64 (row Y 1)) := by unfold HoldsP at h; simp [World.cell?, h]
theorem HoldsP.c8 (h : HoldsP w B X Y) : w.cell? ⟨B, 8, none⟩ = some (.int .i64 (row Y 2)) := by unfold HoldsP at h; simp [World.cell?, h]
theorem HoldsP.c9 (h : HoldsP w B X Y) : w.cell? ⟨B, 9, none⟩ = some (.int .i64 (row Y 3)) := by unfold HoldsP at h; simp [World.cell?, h]
theorem HoldsP.c10 (h : HoldsP w B X Y) : w.cell? ⟨B, 10, none⟩ = some (.int .i64 (row Y 4)) := by unfold HoldsP at h; simp [World.cell?, h]
theorem HoldsP.c11 (h : HoldsP w B X Y) : w.cell? ⟨B, 11, none⟩ = some (.int .i64 (row Y 5)) := by unfold HoldsP at h; simp [World.cell?, h]
theorem HoldsP.free (h : HoldsP w B X Y) (o : Nat) : w.frozen? ⟨B, o, none⟩ = false := by unfold HoldsP at h; simp [World.frozen?, h]
theorem HoldsP.lt (h : HoldsP w B X Y) : B < w.heap.size := World.block_lt_of_cell? w _ h.c0
theorem HoldsP.below (h : HoldsP w B X Y) (hb : Below N w w') (hB : B < N) : HoldsP w' B X Y := (hb.block B hB).trans h
theorem HoldsP.made' (h : B = w.heap.size) : HoldsP (w.alloc (.cells #[.int .i64 (row X 0), .int .i64 (row X 1), .int .i64 (row X 2), .int .i64 (row X 3), .int .i64 (row X 4), .int .i64 (row X 5), .int .i64 (row Y 0), .int .i64 (row Y 1), .int .i64 (row Y 2), .int .i64 (row Y 3), .int .i64 (row Y 4), .int .i64 (row Y 5)] 84)) B X Y := by
  subst h; exact heap_alloc_new w _
theorem HoldsP.alloc (h : HoldsP w B X Y) (o : Obj) : HoldsP (w.alloc o) B X Y := by
  unfold HoldsP at *; rw [Below.heap_alloc _ _ _ (by simpa using HoldsP.lt h)]; exact h
theorem HoldsP.drew (h : HoldsP w B X Y) : HoldsP w.drew B X Y := h
theorem HoldsP.drewN (h : HoldsP w B X Y) (n : Nat) : HoldsP (w.drewN n) B X Y := h
theorem HoldsP.far (h : HoldsP w B X Y) (p : Addr) (v : Value) (hp : B ≠ p.block) : HoldsP (w.setCell p v) B X Y := by
  unfold HoldsP at *; rw [Below.heap_setCell _ _ _ _ hp]; exact h
theorem HoldsP.store (h : HoldsP w B X Y) (C D : Nat) : HoldsP ((((((((((((w.setCell ⟨B, 0, none⟩ (.int .i64 (row C 0))).setCell ⟨B, 1, none⟩ (.int .i64 (row C 1))).setCell ⟨B, 2, none⟩ (.int .i64 (row C 2))).setCell ⟨B, 3, none⟩ (.int .i64 (row C 3))).setCell ⟨B, 4, none⟩ (.int .i64 (row C 4))).setCell ⟨B, 5, none⟩ (.int .i64 (row C 5))).setCell ⟨B, 6, none⟩ (.int .i64 (row D 0))).setCell ⟨B, 7, none⟩ (.int .i64 (row D 1))).setCell ⟨B, 8, none⟩ (.int .i64 (row D 2))).setCell ⟨B, 9, none⟩ (.int .i64 (row D 3))).setCell ⟨B, 10, none⟩ (.int .i64 (row D 4))).setCell ⟨B, 11, none⟩ (.int .i64 (row D 5))) B C D := by
  unfold HoldsP at *
  simp [World.setCell, Array.getElem?_modify, h]
end
set_option maxRecDepth 100000 in
set_option maxHeartbeats 8000000 in
theorem l4Sum_any (X Y C D : Nat) (w : World) : Calls Tryz.prog 73 #[(.agg #[.int .i64 (row X 0), .int .i64 (row X 1), .int .i64 (row X 2), .int .i64 (row X 3), .int .i64 (row X 4), .int .i64 (row X 5), .int .i64 (row Y 0), .int .i64 (row Y 1), .int .i64 (row Y 2), .int .i64 (row Y 3), .int .i64 (row Y 4), .int .i64 (row Y 5)]), (.agg #[.int .i64 (row C 0), .int .i64 (row C 1), .int .i64 (row C 2), .int .i64 (row C 3), .int .i64 (row C 4), .int .i64 (row C 5), .int .i64 (row D 0), .int .i64 (row D 1), .int .i64 (row D 2), .int .i64 (row D 3), .int .i64 (row D 4), .int .i64 (row D 5)])] w fun e w' => e = .returned (.agg #[.int .i64 (row (X ^^^ C) 0), .int .i64 (row (X ^^^ C) 1), .int .i64 (row (X ^^^ C) 2), .int .i64 (row (X ^^^ C) 3), .int .i64 (row (X ^^^ C) 4), .int .i64 (row (X ^^^ C) 5), .int .i64 (row (Y ^^^ D) 0), .int .i64 (row (Y ^^^ D) 1), .int .i64 (row (Y ^^^ D) 2), .int .i64 (row (Y ^^^ D) 3), .int .i64 (row (Y ^^^ D) 4), .int .i64 (row (Y ^^^ D) 5)]) ∧ Below w.heap.size w w' := by
  go_enter Tryz.func73, Tryz.ntmps73
  go_wp2
  go_region_held3 (fun w' => w'.cell? ⟨w.heap.size, 0, none⟩ = some (.int .i64 (row X 0)) ∧ w'.cell? ⟨w.heap.size, 1, none⟩ = some (.int .i64 (row X 1)) ∧ w'.cell? ⟨w.heap.size, 2, none⟩ = some (.int .i64 (row X 2)) ∧ w'.cell? ⟨w.heap.size, 3, none⟩ = some (.int .i64 (row X 3)) ∧ w'.cell? ⟨w.heap.size, 4, none⟩ = some (.int .i64 (row X 4)) ∧ w'.cell? ⟨w.heap.size, 5, none⟩ = some (.int .i64 (row X 5)) ∧ w'.cell? ⟨w.heap.size, 6, none⟩ = some (.int .i64 (row Y 0)) ∧ w'.cell? ⟨w.heap.size, 7, none⟩ = some (.int .i64 (row Y 1)) ∧ w'.cell? ⟨w.heap.size, 8, none⟩ = some (.int .i64 (row Y 2)) ∧ w'.cell? ⟨w.heap.size, 9, none⟩ = some (.int .i64 (row Y 3)) ∧ w'.cell? ⟨w.heap.size, 10, none⟩ = some (.int .i64 (row Y 4)) ∧ w'.cell? ⟨w.heap.size, 11, none⟩ = some (.int .i64 (row Y 5)) ∧ w'.cell? ⟨w.heap.size + 1, 0, none⟩ = some (.int .i64 (row C 0)) ∧ w'.cell? ⟨w.heap.size + 1, 1, none⟩ = some (.int .i64 (row C 1)) ∧ w'.cell? ⟨w.heap.size + 1, 2, none⟩ = some (.int .i64 (row C 2)) ∧ w'.cell? ⟨w.heap.size + 1, 3, none⟩ = some (.int .i64 (row C 3)) ∧ w'.cell? ⟨w.heap.size + 1, 4, none⟩ = some (.int .i64 (row C 4)) ∧ w'.cell? ⟨w.heap.size + 1, 5, none⟩ = some (.int .i64 (row C 5)) ∧ w'.cell? ⟨w.heap.size + 1, 6, none⟩ = some (.int .i64 (row D 0)) ∧ w'.cell? ⟨w.heap.size + 1, 7, none⟩ = some (.int .i64 (row D 1)) ∧ w'.cell? ⟨w.heap.size + 1, 8, none⟩ = some (.int .i64 (row D 2)) ∧ w'.cell? ⟨w.heap.size + 1, 9, none⟩ = some (.int .i64 (row D 3)) ∧ w'.cell? ⟨w.heap.size + 1, 10, none⟩ = some (.int .i64 (row D 4)) ∧ w'.cell? ⟨w.heap.size + 1, 11, none⟩ = some (.int .i64 (row D 5))) (simp [*, World.cell?_alloc_some, World.cell?_setCell_far, Nat.ne_of_gt]) (first | (first | (go_at_call 46; (with_reducible refine (l2Xor_any _ _ _).mono ?_); rintro e w1 ⟨rfl, hb⟩; obtain ⟨hc, hf, hT, hz⟩ := bfacts hb; (try simp only [World.size_alloc, World.size_setCell, World.size_drew, size_drewN] at hc hf hT hz); (try (have hzA := Nat.lt_of_succ_le hz)); (try (have hl0 : w.heap.size ≤ w1.heap.size := by omega)); (try (have hz0 : w.heap.size < w1.heap.size := by omega)); (try (have hz1 : w.heap.size + 1 < w1.heap.size := by omega)); (try (have hz2 : w.heap.size + 1 + 1 < w1.heap.size := by omega)); (try (have hz3 : w.heap.size + 1 + 1 + 1 < w1.heap.size := by omega)); (try (have hz4 : w.heap.size + 1 + 1 + 1 + 1 < w1.heap.size := by omega)))))
  all_goals
    go_wp2
    exact bodyPost_ret (v := (.agg #[.int .i64 (row (X ^^^ C) 0), .int .i64 (row (X ^^^ C) 1), .int .i64 (row (X ^^^ C) 2), .int .i64 (row (X ^^^ C) 3), .int .i64 (row (X ^^^ C) 4), .int .i64 (row (X ^^^ C) 5), .int .i64 (row (Y ^^^ D) 0), .int .i64 (row (Y ^^^ D) 1), .int .i64 (row (Y ^^^ D) 2), .int .i64 (row (Y ^^^ D) 3), .int .i64 (row (Y ^^^ D) 4), .int .i64 (row (Y ^^^ D) 5)])) (by simp [results, Tryz.results73, go_sem, *]) rfl ⟨rfl, (by repeat (first | with_reducible exact Below.refl _ _ | with_reducible assumption | with_reducible refine Below.drew ?_ | with_reducible refine below_drewN ?_ _ | with_reducible refine Below.alloc ?_ ?_ _ | with_reducible refine Below.setCell ?_ ?_ _ | with_reducible refine Below.trans ?_ (Below.mono (by assumption) ?_) | omega | (simp <;> omega)))⟩
end Go.Proofs.YtgjgefbcfcomcaaGreatDoor
