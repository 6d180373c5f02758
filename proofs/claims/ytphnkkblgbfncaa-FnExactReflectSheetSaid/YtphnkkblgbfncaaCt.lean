/-
  Contracts of ReflectSheet, of the program and of the reference. No conditions.
-/
import Derived.Test.YtphnkkblgbfncaaCp
namespace Go.Proofs.Ytphnkkblgbfncaa
open Go.RowKit
set_option linter.unusedSimpArgs false
set_option linter.unusedVariables false

/-- the first n cells of a list, each flipped at where the reflection brings it -/
def flT (L : List Nat) : Nat → Nat
  | 0 => 0
  | n + 1 => flT L n ^^^ 2 ^ reTo (L.getD n 0)
theorem flT_append (L M : List Nat) : ∀ n, n ≤ L.length → flT (L ++ M) n = flT L n
  | 0, _ => rfl
  | n + 1, h => by
      have e : (L ++ M).getD n 0 = L.getD n 0 := by
        rw [List.getD_eq_getElem?_getD, List.getD_eq_getElem?_getD, List.getElem?_append_left (by omega)]
      rw [flT, flT, flT_append L M n (by omega), e]
theorem reTo_inj (i j : Nat) (hi : i < 36) (hj : j < 36) (h : reTo i = reTo j) : i = j := by
  unfold reTo at h; omega
theorem flT_cells (X : Nat) : ∀ k, k ≤ 36 → flT (cellsN X k) (cellsN X k).length = movN X reTo k
  | 0, _ => rfl
  | k + 1, hk => by
      have ih := flT_cells X k (by omega)
      by_cases hb : X.testBit k = true
      · rw [cellsN, if_pos hb, movN, if_pos hb, List.length_append]
        show flT (cellsN X k ++ [k]) ((cellsN X k).length + 1) = _
        rw [flT, flT_append _ _ _ (Nat.le_refl _), ih]
        have e : (cellsN X k ++ [k]).getD (cellsN X k).length 0 = k := by simp
        rw [e]
        apply xor_of_clear
        rw [Bool.eq_false_iff]
        intro h
        obtain ⟨j, hj, _, he⟩ := (testBit_movN X reTo k (reTo k)).1 h
        have := reTo_inj j k (by omega) (by omega) he
        omega
      · rw [cellsN, if_neg hb, movN, if_neg hb]; exact ih
theorem flT_refl (X : Nat) : flT (cellsL X) (cellsL X).length = reflS X := by
  unfold cellsL; rw [flT_cells X 36 (Nat.le_refl _), movN_refl]
theorem l2Mod_neg (u : Nat) (hu : u < 6) (w : World) : Calls Try.prog 41 #[.int .i64 (-(u : Int))] w fun e w' => e = .returned (.int .i64 (((6 - u) % 6 : Nat) : Int)) ∧ w = w' := by
  have h := l2Mod_any (-(u : Int)) w
  rw [show (-(u : Int)) % 6 = (((6 - u) % 6 : Nat) : Int) from by omega] at h
  exact h
theorem wrap_neg (u : Nat) (hu : u < 6) : IntKind.i64.wrap (-(u : Int)) = -(u : Int) := by
  rcases (show u = 0 ∨ u = 1 ∨ u = 2 ∨ u = 3 ∨ u = 4 ∨ u = 5 by omega) with h | h | h | h | h | h <;> subst h <;> rfl
def RfRel (L : List Nat) (w w1 : World) (B : Nat) (i : Value) (wr : World) : Prop :=
  ∃ k : Nat, k ≤ L.length ∧ i = .int .i64 (k : Int) ∧ Below w1.heap.size w1 wr ∧ w1.heap.size < wr.heap.size ∧ HoldsA wr 25 (w1.heap.size) (row (flT L k) 0) (row (flT L k) 1) (row (flT L k) 2) (row (flT L k) 3) (row (flT L k) 4) (row (flT L k) 5)

set_option maxRecDepth 100000 in
set_option maxHeartbeats 16000000 in
theorem specReflectSheet_ok (X : Nat) (hX : Vs X) (w : World) : Calls Try.prog 14 #[(.agg #[.int .i64 (row X 0), .int .i64 (row X 1), .int .i64 (row X 2), .int .i64 (row X 3), .int .i64 (row X 4), .int .i64 (row X 5)])] w fun e w' => e = .returned (.tuple #[(.agg #[.int .i64 (row (reflS X) 0), .int .i64 (row (reflS X) 1), .int .i64 (row (reflS X) 2), .int .i64 (row (reflS X) 3), .int .i64 (row (reflS X) 4), .int .i64 (row (reflS X) 5)]), .bool true]) ∧ Below w.heap.size w w' := by
  go_enter Try.func14, Try.ntmps14
  go_wp2_with (first | (go_at_call 38; (with_reducible refine (l2Sheet_ok _ _).mono ?_); rintro e w1 ⟨rfl, hb⟩; obtain ⟨hc, hf, hT, hz⟩ := bfacts hb; (try simp only [World.size_alloc, World.size_setCell, World.size_drew, size_drewN] at hc hf hT hz); (try (have hzA := Nat.lt_of_succ_le hz)); (try (have hl0 : w.heap.size ≤ w1.heap.size := by omega)); (try (have hz0 : w.heap.size < w1.heap.size := by omega)); (try (have hz1 : w.heap.size + 1 < w1.heap.size := by omega)); (try (have hz2 : w.heap.size + 1 + 1 < w1.heap.size := by omega)); (try (have hz3 : w.heap.size + 1 + 1 + 1 < w1.heap.size := by omega)); (try (have hz4 : w.heap.size + 1 + 1 + 1 + 1 < w1.heap.size := by omega))) | (go_at_call 39; (with_reducible refine (l2Cells_any _ _).mono ?_); rintro e wp ⟨v, rfl, ho, hb⟩; obtain ⟨g, cap, rfl, hg1, hg2, hcell⟩ := pairs_form ho))
  have hlen : (cellsL X).length ≤ 36 := cellsN_le X 36
  have hR0 : HoldsA wp 25 (w.heap.size + 1) 0 0 0 0 0 0 := by (repeat (first | with_reducible assumption | (with_reducible refine HoldsA.made' ?_; (simp; done)) | with_reducible refine HoldsA.alloc ?_ _ | with_reducible refine HoldsA.drew ?_ | with_reducible refine HoldsA.drewN ?_ _ | (with_reducible refine HoldsA.far ?_ _ _ (by first | (simp; done) | (simp; omega))) | (with_reducible refine HoldsA.below ?_ (by with_reducible assumption) (by first | (simp; done) | (simp; omega) | omega))))
  have hw1 : w.heap.size + 1 < wp.heap.size := hR0.lt
  have hHc := Lib.hid hcell
  have hHL := Lib.hid (getD_lt X)
  have hb0 : Below w.heap.size w wp := (by repeat (first | with_reducible exact Below.refl _ _ | with_reducible assumption | with_reducible refine Below.drew ?_ | with_reducible refine below_drewN ?_ _ | with_reducible refine Below.alloc ?_ ?_ _ | with_reducible refine Below.setCell ?_ ?_ _ | with_reducible refine Below.trans ?_ (Below.mono (by assumption) ?_) | omega | (simp <;> omega)))
  have hfin := Lib.hid (flT_refl X)
  clear hcell ho hc hf hT hb hz
  generalize hLdef : cellsL X = L at *
  go_loopw [6] (RfRel L w wp wp.heap.size) (fun i _ => L.length - (intOf i).toNat)
  case atStart =>
    refine ⟨0, Nat.zero_le _, rfl, (by repeat (first | with_reducible exact Below.refl _ _ | with_reducible assumption | with_reducible refine Below.drew ?_ | with_reducible refine below_drewN ?_ _ | with_reducible refine Below.alloc ?_ ?_ _ | with_reducible refine Below.setCell ?_ ?_ _ | with_reducible refine Below.trans ?_ (Below.mono (by assumption) ?_) | omega | (simp <;> omega))), by simp, ?_⟩
    have h := HoldsA.made wp 25 0 0 0 0 0 0
    simpa [flT, zero_rows] using h
  case round =>
    obtain ⟨k, hk, rfl, hbw, hlt1, hO⟩ := hrel
    have hlen' : (L.length : Int) ≤ 36 := by omega
    have hRr := hR0.below hbw hw1
    have hbs := hbw.size
    have hd0 := hO.c0
    have hd1 := hO.c1
    have hd2 := hO.c2
    have hd3 := hO.c3
    have hd4 := hO.c4
    have hd5 := hO.c5
    have hdf := hO.free
    by_cases hlt : k < L.length
    · have hlt' : (k : Int) < (L.length : Int) := by omega
      have hq0 : wr.cell? ⟨g, k * 2, none⟩ = some (.int .i64 ((L.getD k 0 % 6 : Nat) : Int)) := by rw [Nat.mul_comm k 2]; exact (hbw.cell (p := ⟨g, 2 * k, none⟩) hg2).trans (hHc.out k hlt).1
      have hq1 : wr.cell? ⟨g, k * 2 + 1, none⟩ = some (.int .i64 ((L.getD k 0 / 6 : Nat) : Int)) := by rw [Nat.mul_comm k 2]; exact (hbw.cell (p := ⟨g, 2 * k + 1, none⟩) hg2).trans (hHc.out k hlt).2
      have hc36 : L.getD k 0 < 36 := hHL.out k hlt
      obtain ⟨u, hu⟩ : ∃ z, z = L.getD k 0 % 6 := ⟨_, rfl⟩
      obtain ⟨v, hv⟩ : ∃ z, z = L.getD k 0 / 6 := ⟨_, rfl⟩
      have hu6 : u < 6 := by omega
      have hv6 : v < 6 := by omega
      obtain ⟨O1, hO1⟩ : ∃ z, z = flT L k := ⟨_, rfl⟩
      obtain ⟨O2, hO2⟩ : ∃ z, z = flT L (k + 1) := ⟨_, rfl⟩
      have hor : O1 ^^^ 2 ^ (6 * ((6 - v) % 6) + (6 - u) % 6) = O2 := by rw [hO1, hO2, flT, reTo, hu, hv]
      rw [← hu] at hq0
      rw [← hv] at hq1
      rw [← hO1] at hO hd0 hd1 hd2 hd3 hd4 hd5
      have hOE := Lib.hid hO2
      clear hu hv hO1 hO2 hc36
      have hmu := l2Mod_neg u hu6
      have hmv := l2Mod_neg v hv6
      have hu1 : (6 - u) % 6 < 6 := by omega
      have hv1 : (6 - v) % 6 < 6 := by omega
      generalize (6 - u) % 6 = u1 at *
      generalize (6 - v) % 6 = v1 at *
      have hfl := l2Flip_any O1 u1 v1 hu1 hv1
      rw [hor] at hfl
      have hMU := Lib.hid hmu
      have hMV := Lib.hid hmv
      clear hmu hmv
      have hFL := Lib.hid hfl
      clear hfl hor
      have hui : (u : Int) < 6 := by omega
      have hgl : g < wr.heap.size := by omega
      have hgn : ¬ g = wp.heap.size := by omega
      have hgn2 : ¬ wp.heap.size = g := by omega
      have hvi : (v : Int) < 6 := by omega
      have hwu : IntKind.i64.wrap (-(u : Int)) = -(u : Int) := wrap_neg u hu6
      have hwv : IntKind.i64.wrap (-(v : Int)) = -(v : Int) := wrap_neg v hv6
      go_wp2
      first | (go_region_with (first | (go_at_call 40; (with_reducible refine (hFL.out _).mono ?_); rintro e w1 ⟨rfl, hb⟩; obtain ⟨hc, hf, hT, hz⟩ := bfacts hb; (try simp only [World.size_alloc, World.size_setCell, World.size_drew, size_drewN] at hc hf hT hz); (try (have hzA := Nat.lt_of_succ_le hz)); (try (have hl0 : w.heap.size ≤ w1.heap.size := by omega)); (try (have hz0 : w.heap.size < w1.heap.size := by omega)); (try (have hz1 : w.heap.size + 1 < w1.heap.size := by omega)); (try (have hz2 : w.heap.size + 1 + 1 < w1.heap.size := by omega)); (try (have hz3 : w.heap.size + 1 + 1 + 1 < w1.heap.size := by omega)); (try (have hz4 : w.heap.size + 1 + 1 + 1 + 1 < w1.heap.size := by omega))) | (go_at_call 41; (first | (with_reducible refine (hMU.out _).mono ?_) | (with_reducible refine (hMV.out _).mono ?_)); rintro e w1 ⟨rfl, rfl⟩))) | fail
      all_goals
        have hBB : Below wr.heap.size wr w1 := (by repeat (first | with_reducible exact Below.refl _ _ | with_reducible assumption | with_reducible refine Below.drew ?_ | with_reducible refine below_drewN ?_ _ | with_reducible refine Below.alloc ?_ ?_ _ | with_reducible refine Below.setCell ?_ ?_ _ | with_reducible refine Below.trans ?_ (Below.mono (by assumption) ?_) | omega | (simp <;> omega)))
        have hH2 := (hO.below hBB hlt1).store (row (O2) 0) (row (O2) 1) (row (O2) 2) (row (O2) 3) (row (O2) 4) (row (O2) 5)
        rw [hOE.out] at hH2
        have hB3 := hbw.trans (hBB.mono hbs)
        have hzw : wp.heap.size < w1.heap.size := Nat.lt_of_lt_of_le hlt1 hBB.size
        clear hBB
        go_wp2
        go_roundw
        case rel => exact ⟨k + 1, by omega, by go_num, (by repeat (first | with_reducible exact Below.refl _ _ | with_reducible assumption | with_reducible refine Below.drew ?_ | with_reducible refine below_drewN ?_ _ | with_reducible refine Below.alloc ?_ ?_ _ | with_reducible refine Below.setCell ?_ ?_ _ | with_reducible refine Below.trans ?_ (Below.mono (by assumption) ?_) | omega | (simp <;> omega))), by simpa using hzw, by rw [hOE.out]; exact hH2⟩
        case measure => simp [intOf]; omega
    · have e : k = L.length := by omega
      subst e
      have hr0 := hRr.c0
      have hr1 := hRr.c1
      have hr2 := hRr.c2
      have hr3 := hRr.c3
      have hr4 := hRr.c4
      have hr5 := hRr.c5
      have hrf := hRr.free
      rw [hfin.out] at hd0 hd1 hd2 hd3 hd4 hd5
      clear hLdef hO
      go_wp2
      exact bodyPost_ret (v := .tuple #[(.agg #[.int .i64 (row (reflS X) 0), .int .i64 (row (reflS X) 1), .int .i64 (row (reflS X) 2), .int .i64 (row (reflS X) 3), .int .i64 (row (reflS X) 4), .int .i64 (row (reflS X) 5)]), .bool true]) (by simp [results, Try.results14, go_sem, *]) rfl ⟨rfl, (by repeat (first | with_reducible exact Below.refl _ _ | with_reducible assumption | with_reducible refine Below.drew ?_ | with_reducible refine below_drewN ?_ _ | with_reducible refine Below.alloc ?_ ?_ _ | with_reducible refine Below.setCell ?_ ?_ _ | with_reducible refine Below.trans ?_ (Below.mono (by assumption) ?_) | omega | (simp <;> omega)))⟩

set_option maxRecDepth 100000 in
theorem specReflectSheet_no (a0 a1 a2 a3 a4 a5 : Int) (hn : ¬ Ok6 a0 a1 a2 a3 a4 a5) (w : World) : Calls Try.prog 14 #[(.agg #[.int .i64 a0, .int .i64 a1, .int .i64 a2, .int .i64 a3, .int .i64 a4, .int .i64 a5])] w fun e w' => e = .returned (.tuple #[.agg #[.int .i64 0, .int .i64 0, .int .i64 0, .int .i64 0, .int .i64 0, .int .i64 0], .bool false]) ∧ Below w.heap.size w w' := by
  go_enter Try.func14, Try.ntmps14
  go_wp2_with (go_at_call 38; (with_reducible refine (l2Sheet_no _ _ _ _ _ _ (by assumption) _).mono ?_); rintro e w1 ⟨rfl, hb⟩; obtain ⟨hc, hf, hT, hz⟩ := bfacts hb; (try simp only [World.size_alloc, World.size_setCell, World.size_drew, size_drewN] at hc hf hT hz); (try (have hzA := Nat.lt_of_succ_le hz)); (try (have hl0 : w.heap.size ≤ w1.heap.size := by omega)); (try (have hz0 : w.heap.size < w1.heap.size := by omega)); (try (have hz1 : w.heap.size + 1 < w1.heap.size := by omega)); (try (have hz2 : w.heap.size + 1 + 1 < w1.heap.size := by omega)); (try (have hz3 : w.heap.size + 1 + 1 + 1 < w1.heap.size := by omega)); (try (have hz4 : w.heap.size + 1 + 1 + 1 + 1 < w1.heap.size := by omega)))
  exact bodyPost_ret (v := .tuple #[.agg #[.int .i64 0, .int .i64 0, .int .i64 0, .int .i64 0, .int .i64 0, .int .i64 0], .bool false]) (by simp [results, Try.results14, go_sem, *]) rfl ⟨rfl, (by repeat (first | with_reducible exact Below.refl _ _ | with_reducible assumption | with_reducible refine Below.drew ?_ | with_reducible refine below_drewN ?_ _ | with_reducible refine Below.alloc ?_ ?_ _ | with_reducible refine Below.setCell ?_ ?_ _ | with_reducible refine Below.trans ?_ (Below.mono (by assumption) ?_) | omega | (simp <;> omega)))⟩

set_option maxRecDepth 100000 in
theorem implReflectSheet_ok (X : Nat) (hX : Vs X) (w : World) : Calls Try.prog 16 #[(.agg #[.int .i64 (row X 0), .int .i64 (row X 1), .int .i64 (row X 2), .int .i64 (row X 3), .int .i64 (row X 4), .int .i64 (row X 5)])] w fun e w' => e = .returned (.tuple #[(.agg #[.int .i64 (row (reflS X) 0), .int .i64 (row (reflS X) 1), .int .i64 (row (reflS X) 2), .int .i64 (row (reflS X) 3), .int .i64 (row (reflS X) 4), .int .i64 (row (reflS X) 5)]), .bool true]) ∧ Below w.heap.size w w' := by
  have hv := reflS_vs X
  go_enter Try.func16, Try.ntmps16
  go_wp2_with (first | (go_at_call 43; (with_reducible refine (setOf_ok _ (by assumption) _).mono ?_); rintro e w1 ⟨rfl, hb⟩; obtain ⟨hc, hf, hT, hz⟩ := bfacts hb; (try simp only [World.size_alloc, World.size_setCell, World.size_drew, size_drewN] at hc hf hT hz); (try (have hzA := Nat.lt_of_succ_le hz)); (try (have hl0 : w.heap.size ≤ w1.heap.size := by omega)); (try (have hz0 : w.heap.size < w1.heap.size := by omega)); (try (have hz1 : w.heap.size + 1 < w1.heap.size := by omega)); (try (have hz2 : w.heap.size + 1 + 1 < w1.heap.size := by omega)); (try (have hz3 : w.heap.size + 1 + 1 + 1 < w1.heap.size := by omega)); (try (have hz4 : w.heap.size + 1 + 1 + 1 + 1 < w1.heap.size := by omega))) | (go_at_call 44; (with_reducible refine (reflected_any _ (by assumption) _).mono ?_); rintro e w1 ⟨rfl, hb⟩; obtain ⟨hc, hf, hT, hz⟩ := bfacts hb; (try simp only [World.size_alloc, World.size_setCell, World.size_drew, size_drewN] at hc hf hT hz); (try (have hzA := Nat.lt_of_succ_le hz)); (try (have hl0 : w.heap.size ≤ w1.heap.size := by omega)); (try (have hz0 : w.heap.size < w1.heap.size := by omega)); (try (have hz1 : w.heap.size + 1 < w1.heap.size := by omega)); (try (have hz2 : w.heap.size + 1 + 1 < w1.heap.size := by omega)); (try (have hz3 : w.heap.size + 1 + 1 + 1 < w1.heap.size := by omega)); (try (have hz4 : w.heap.size + 1 + 1 + 1 + 1 < w1.heap.size := by omega))) | (go_at_call 45; (with_reducible refine (sheet_any _ (by assumption) _).mono ?_); rintro e w1 ⟨rfl, hb⟩; obtain ⟨hc, hf, hT, hz⟩ := bfacts hb; (try simp only [World.size_alloc, World.size_setCell, World.size_drew, size_drewN] at hc hf hT hz); (try (have hzA := Nat.lt_of_succ_le hz)); (try (have hl0 : w.heap.size ≤ w1.heap.size := by omega)); (try (have hz0 : w.heap.size < w1.heap.size := by omega)); (try (have hz1 : w.heap.size + 1 < w1.heap.size := by omega)); (try (have hz2 : w.heap.size + 1 + 1 < w1.heap.size := by omega)); (try (have hz3 : w.heap.size + 1 + 1 + 1 < w1.heap.size := by omega)); (try (have hz4 : w.heap.size + 1 + 1 + 1 + 1 < w1.heap.size := by omega))))
  exact bodyPost_ret (v := .tuple #[(.agg #[.int .i64 (row (reflS X) 0), .int .i64 (row (reflS X) 1), .int .i64 (row (reflS X) 2), .int .i64 (row (reflS X) 3), .int .i64 (row (reflS X) 4), .int .i64 (row (reflS X) 5)]), .bool true]) (by simp [results, Try.results16, go_sem, *]) rfl ⟨rfl, (by repeat (first | with_reducible exact Below.refl _ _ | with_reducible assumption | with_reducible refine Below.drew ?_ | with_reducible refine below_drewN ?_ _ | with_reducible refine Below.alloc ?_ ?_ _ | with_reducible refine Below.setCell ?_ ?_ _ | with_reducible refine Below.trans ?_ (Below.mono (by assumption) ?_) | omega | (simp <;> omega)))⟩

set_option maxRecDepth 100000 in
theorem implReflectSheet_no (a0 a1 a2 a3 a4 a5 : Int) (hn : ¬ Ok6 a0 a1 a2 a3 a4 a5) (w : World) : Calls Try.prog 16 #[(.agg #[.int .i64 a0, .int .i64 a1, .int .i64 a2, .int .i64 a3, .int .i64 a4, .int .i64 a5])] w fun e w' => e = .returned (.tuple #[.agg #[.int .i64 0, .int .i64 0, .int .i64 0, .int .i64 0, .int .i64 0, .int .i64 0], .bool false]) ∧ Below w.heap.size w w' := by
  go_enter Try.func16, Try.ntmps16
  go_wp2_with (go_at_call 43; (with_reducible refine (setOf_no _ _ _ _ _ _ (by assumption) _).mono ?_); rintro e w1 ⟨rfl, hb⟩; obtain ⟨hc, hf, hT, hz⟩ := bfacts hb; (try simp only [World.size_alloc, World.size_setCell, World.size_drew, size_drewN] at hc hf hT hz); (try (have hzA := Nat.lt_of_succ_le hz)); (try (have hl0 : w.heap.size ≤ w1.heap.size := by omega)); (try (have hz0 : w.heap.size < w1.heap.size := by omega)); (try (have hz1 : w.heap.size + 1 < w1.heap.size := by omega)); (try (have hz2 : w.heap.size + 1 + 1 < w1.heap.size := by omega)); (try (have hz3 : w.heap.size + 1 + 1 + 1 < w1.heap.size := by omega)); (try (have hz4 : w.heap.size + 1 + 1 + 1 + 1 < w1.heap.size := by omega)))
  exact bodyPost_ret (v := .tuple #[.agg #[.int .i64 0, .int .i64 0, .int .i64 0, .int .i64 0, .int .i64 0, .int .i64 0], .bool false]) (by simp [results, Try.results16, go_sem, *]) rfl ⟨rfl, (by repeat (first | with_reducible exact Below.refl _ _ | with_reducible assumption | with_reducible refine Below.drew ?_ | with_reducible refine below_drewN ?_ _ | with_reducible refine Below.alloc ?_ ?_ _ | with_reducible refine Below.setCell ?_ ?_ _ | with_reducible refine Below.trans ?_ (Below.mono (by assumption) ?_) | omega | (simp <;> omega)))⟩
end Go.Proofs.Ytphnkkblgbfncaa
