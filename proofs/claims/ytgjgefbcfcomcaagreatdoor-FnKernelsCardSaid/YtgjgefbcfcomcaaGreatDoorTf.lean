/-
  StampOrder: contracts of the program and the reference. Under: the library's own table of the lowest bits lies as its initialiser lays it.
-/
import Derived.Test.YtgjgefbcfcomcaaGreatDoorJC
namespace Go.Proofs.YtgjgefbcfcomcaaGreatDoor
open Go.RowKit
set_option linter.unusedSimpArgs false
set_option linter.unusedVariables false

/-- n is the order of the stamp X -/
def OrdP (X n : Nat) : Prop := 1 ≤ n ∧ n ≤ 6 ∧ pwN X n = 1 ∧ ∀ m, 1 ≤ m → m < n → pwN X m ≠ 1
theorem OrdP.ker {X n : Nat} (hX : Vs X) (h : OrdP X n) : NoKer X := fun y hy h0 => by
  obtain ⟨h1, _, h3, _⟩ := h
  obtain ⟨m, rfl⟩ : ∃ m, n = m + 1 := ⟨n - 1, by omega⟩
  exact pw_inv X hX m h3 y hy h0
theorem no_ord {X : Nat} (hX : Vs X) (h : ∀ n, ¬ OrdP X n) : (¬ NoKer X) ∧ ∀ m, 1 ≤ m → m ≤ 6 → pwN X m ≠ 1 := by
  have hm : ∀ m, m ≤ 6 → ∀ j, 1 ≤ j → j ≤ m → pwN X j ≠ 1 := by
    intro m
    induction m with
    | zero => intro _ j h1 h2; omega
    | succ m ih =>
      intro hm j h1 h2 he
      by_cases e : j = m + 1
      · subst e
        exact h (m + 1) ⟨h1, hm, he, fun i g1 g2 => ih (by omega) i g1 (by omega)⟩
      · exact ih (by omega) j h1 (by omega) he
  have hk := hm 6 (Nat.le_refl _)
  exact ⟨fun hn => hk 6 (by omega) (by omega) (pw_six X hX hn), hk⟩
def SoRel (X n : Nat) (w : World) (i o : Value) (wr : World) : Prop :=
  ∃ m : Nat, 1 ≤ m ∧ m ≤ n ∧ i = .int .i64 (m : Int) ∧ o = .int .u64 ((pwN X m : Nat) : Int) ∧ Below w.heap.size w wr
set_option maxRecDepth 100000 in
theorem implStampOrder_ok (X n : Nat) (hX : Vs X) (hn : OrdP X n) (w : World) (hz : TabZ w) : Calls Tryz.prog 16 #[(.agg #[.int .i64 (row X 0), .int .i64 (row X 1), .int .i64 (row X 2), .int .i64 (row X 3), .int .i64 (row X 4), .int .i64 (row X 5)])] w fun e w' => e = .returned (.tuple #[.int .i64 (n : Int), .bool true]) ∧ Below w.heap.size w w' := by
  have hzl := hz.lt
  have HZ := Lib.hid hz
  have HX := Lib.hid hX
  have hK := Lib.hid (hn.ker hX)
  have HN := Lib.hid hn
  have h1 := pw_one X hX
  clear hz hn
  go_enter Tryz.func16, Tryz.ntmps16
  go_wp2_with (first | (go_at_call 31; (with_reducible refine (setOf_ok _ hX _).mono ?_); rintro e w1 ⟨rfl, hb⟩; obtain ⟨hc, hf, hT, hz⟩ := bfacts hb; (try simp only [World.size_alloc, World.size_setCell, World.size_drew, size_drewN] at hc hf hT hz); (try (have hzA := Nat.lt_of_succ_le hz)); (try (have hl0 : w.heap.size ≤ w1.heap.size := by omega)); (try (have hz0 : w.heap.size < w1.heap.size := by omega)); (try (have hz1 : w.heap.size + 1 < w1.heap.size := by omega)); (try (have hz2 : w.heap.size + 1 + 1 < w1.heap.size := by omega)); (try (have hz3 : w.heap.size + 1 + 1 + 1 < w1.heap.size := by omega)); (try (have hz4 : w.heap.size + 1 + 1 + 1 + 1 < w1.heap.size := by omega))) | (go_at_call 32; (with_reducible refine (whole_any X HX.out _ (HZ.out.below (N := w.heap.size) (by repeat (first | with_reducible exact Below.refl _ _ | with_reducible assumption | with_reducible refine Below.drew ?_ | with_reducible refine below_drewN ?_ _ | with_reducible refine Below.alloc ?_ ?_ _ | with_reducible refine Below.setCell ?_ ?_ _ | with_reducible refine Below.trans ?_ (Below.mono (by assumption) ?_) | omega | (simp <;> omega))) hzl)).mono ?_); rintro e w2 ⟨T, P, Q, L, rfl, hTz, hT, hS, hb2⟩; have hTl := hT.1.lt; have hzz := hb2.size; obtain ⟨aq, cq, hq72, hqo⟩ := hT.quietSlice; have hL0 := hS.none hK.out))
  have hB0 : Below w.heap.size w w2 := (show Below w.heap.size w w1 from (by repeat (first | with_reducible exact Below.refl _ _ | with_reducible assumption | with_reducible refine Below.drew ?_ | with_reducible refine below_drewN ?_ _ | with_reducible refine Below.alloc ?_ ?_ _ | with_reducible refine Below.setCell ?_ ?_ _ | with_reducible refine Below.trans ?_ (Below.mono (by assumption) ?_) | omega | (simp <;> omega)))).trans (hb2.mono (by omega))
  go_loopw [6, 7] (SoRel X n w) (fun i _ _ => n - (intOf i).toNat)
  case atStart => exact ⟨1, Nat.le_refl _, HN.out.1, rfl, by rw [h1], hB0⟩
  case round =>
    clear hB0 hb hb2 hT hS hq72 hqo
    obtain ⟨m, g1, g2, rfl, rfl, hbw⟩ := hrel
    have hPv := pwN_vs X m
    by_cases hlt : m < n
    · have hne := HN.out.2.2.2 m g1 hlt
      have hneI : ¬ (((pwN X m : Nat) : Int) = 1) := by omega
      have hneb : (((pwN X m : Nat) : Int) == 1) = false := by rw [beq_eq_false_iff_ne]; exact hneI
      have hp := Lib.hid (print_any X (pwN X m) HX.out hPv)
      have hn6 := HN.out.2.1
      have he : pwN X (m + 1) = printS X (pwN X m) := rfl
      clear hne
      go_wp2_with (go_at_call 41; (with_reducible refine (hp.out _).mono ?_); rintro e w3 ⟨rfl, hb3⟩)
      have hB3 := hbw.trans (hb3.mono hbw.size)
      go_roundw
      case rel => exact ⟨m + 1, by omega, by omega, by go_num, by rw [he], hB3⟩
      case measure => simp [intOf]; omega
    · have e : m = n := by omega
      subst e
      have hone := HN.out.2.2.1
      have honeI : ((pwN X m : Nat) : Int) = 1 := by omega
      go_wp2
      go_ret2
      exact ⟨rfl, hbw⟩
set_option maxRecDepth 100000 in
theorem implStampOrder_none (X : Nat) (hX : Vs X) (hk : ¬ NoKer X) (w : World) (hz : TabZ w) : Calls Tryz.prog 16 #[(.agg #[.int .i64 (row X 0), .int .i64 (row X 1), .int .i64 (row X 2), .int .i64 (row X 3), .int .i64 (row X 4), .int .i64 (row X 5)])] w fun e w' => e = .returned (.tuple #[.int .i64 0, .bool false]) ∧ Below w.heap.size w w' := by
  have hzl := hz.lt
  have HZ := Lib.hid hz
  have HX := Lib.hid hX
  have hK := Lib.hid hk
  clear hz hk
  go_enter Tryz.func16, Tryz.ntmps16
  go_wp2_with (first | (go_at_call 31; (with_reducible refine (setOf_ok _ hX _).mono ?_); rintro e w1 ⟨rfl, hb⟩; obtain ⟨hc, hf, hT, hz⟩ := bfacts hb; (try simp only [World.size_alloc, World.size_setCell, World.size_drew, size_drewN] at hc hf hT hz); (try (have hzA := Nat.lt_of_succ_le hz)); (try (have hl0 : w.heap.size ≤ w1.heap.size := by omega)); (try (have hz0 : w.heap.size < w1.heap.size := by omega)); (try (have hz1 : w.heap.size + 1 < w1.heap.size := by omega)); (try (have hz2 : w.heap.size + 1 + 1 < w1.heap.size := by omega)); (try (have hz3 : w.heap.size + 1 + 1 + 1 < w1.heap.size := by omega)); (try (have hz4 : w.heap.size + 1 + 1 + 1 + 1 < w1.heap.size := by omega))) | (go_at_call 32; (with_reducible refine (whole_any X HX.out _ (HZ.out.below (N := w.heap.size) (by repeat (first | with_reducible exact Below.refl _ _ | with_reducible assumption | with_reducible refine Below.drew ?_ | with_reducible refine below_drewN ?_ _ | with_reducible refine Below.alloc ?_ ?_ _ | with_reducible refine Below.setCell ?_ ?_ _ | with_reducible refine Below.trans ?_ (Below.mono (by assumption) ?_) | omega | (simp <;> omega))) hzl)).mono ?_); rintro e w2 ⟨T, P, Q, L, rfl, hTz, hT, hS, hb2⟩; have hTl := hT.1.lt; have hzz := hb2.size; obtain ⟨aq, cq, hq72, hqo⟩ := hT.quietSlice; have hL0 := hS.some hK.out; have hL1 : ¬ L.length = 0 := by omega))
  have hB0 : Below w.heap.size w w2 := (show Below w.heap.size w w1 from (by repeat (first | with_reducible exact Below.refl _ _ | with_reducible assumption | with_reducible refine Below.drew ?_ | with_reducible refine below_drewN ?_ _ | with_reducible refine Below.alloc ?_ ?_ _ | with_reducible refine Below.setCell ?_ ?_ _ | with_reducible refine Below.trans ?_ (Below.mono (by assumption) ?_) | omega | (simp <;> omega)))).trans (hb2.mono (by omega))
  go_ret2
  exact ⟨rfl, hB0⟩
set_option maxRecDepth 100000 in
theorem implStampOrder_no (a0 a1 a2 a3 a4 a5 : Int) (hn : ¬ Ok6 a0 a1 a2 a3 a4 a5) (w : World) : Calls Tryz.prog 16 #[(.agg #[.int .i64 a0, .int .i64 a1, .int .i64 a2, .int .i64 a3, .int .i64 a4, .int .i64 a5])] w fun e w' => e = .returned (.tuple #[.int .i64 0, .bool false]) ∧ Below w.heap.size w w' := by
  go_enter Tryz.func16, Tryz.ntmps16
  go_wp2_with (go_at_call 31; (with_reducible refine (setOf_no _ _ _ _ _ _ (by assumption) _).mono ?_); rintro e w1 ⟨rfl, hb⟩; obtain ⟨hc, hf, hT, hz⟩ := bfacts hb; (try simp only [World.size_alloc, World.size_setCell, World.size_drew, size_drewN] at hc hf hT hz); (try (have hzA := Nat.lt_of_succ_le hz)); (try (have hl0 : w.heap.size ≤ w1.heap.size := by omega)); (try (have hz0 : w.heap.size < w1.heap.size := by omega)); (try (have hz1 : w.heap.size + 1 < w1.heap.size := by omega)); (try (have hz2 : w.heap.size + 1 + 1 < w1.heap.size := by omega)); (try (have hz3 : w.heap.size + 1 + 1 + 1 < w1.heap.size := by omega)); (try (have hz4 : w.heap.size + 1 + 1 + 1 + 1 < w1.heap.size := by omega)))
  go_ret2
  exact ⟨rfl, (by repeat (first | with_reducible exact Below.refl _ _ | with_reducible assumption | with_reducible refine Below.drew ?_ | with_reducible refine below_drewN ?_ _ | with_reducible refine Below.alloc ?_ ?_ _ | with_reducible refine Below.setCell ?_ ?_ _ | with_reducible refine Below.trans ?_ (Below.mono (by assumption) ?_) | omega | (simp <;> omega)))⟩
theorem is_one (A : Nat) (hA : Vs A) : (row A 0 = 1 ∧ row A 1 = 0 ∧ row A 2 = 0 ∧ row A 3 = 0 ∧ row A 4 = 0 ∧ row A 5 = 0) ↔ A = 1 := by
  have h := rows_iff A 1 hA vs_one
  simpa [show row 1 0 = 1 by decide, show row 1 1 = 0 by decide, show row 1 2 = 0 by decide, show row 1 3 = 0 by decide, show row 1 4 = 0 by decide, show row 1 5 = 0 by decide] using h
def SsRel (X n S : Nat) (w : World) (i : Value) (wr : World) : Prop :=
  ∃ m : Nat, 1 ≤ m ∧ m ≤ n ∧ i = .int .i64 (m : Int) ∧ Below w.heap.size w wr ∧ HoldsA wr 26 (w.heap.size) (row X 0) (row X 1) (row X 2) (row X 3) (row X 4) (row X 5) ∧ HoldsA wr 26 (S) (row (pwN X m) 0) (row (pwN X m) 1) (row (pwN X m) 2) (row (pwN X m) 3) (row (pwN X m) 4) (row (pwN X m) 5)
set_option maxRecDepth 100000 in
set_option maxHeartbeats 1600000 in
theorem specStampOrder_ok (X n : Nat) (hX : Vs X) (hn : OrdP X n) (w : World) : Calls Tryz.prog 17 #[(.agg #[.int .i64 (row X 0), .int .i64 (row X 1), .int .i64 (row X 2), .int .i64 (row X 3), .int .i64 (row X 4), .int .i64 (row X 5)])] w fun e w' => e = .returned (.tuple #[.int .i64 (n : Int), .bool true]) ∧ Below w.heap.size w w' := by
  have HN := Lib.hid hn
  have h1 := pw_one X hX
  clear hn
  go_enter Tryz.func17, Tryz.ntmps17
  go_wp2_with (go_at_call 36; (with_reducible refine (l2Sheet_ok _ _).mono ?_); rintro e w1 ⟨rfl, hb⟩; obtain ⟨hc, hf, hT, hz⟩ := bfacts hb; (try simp only [World.size_alloc, World.size_setCell, World.size_drew, size_drewN] at hc hf hT hz); (try (have hzA := Nat.lt_of_succ_le hz)); (try (have hl0 : w.heap.size ≤ w1.heap.size := by omega)); (try (have hz0 : w.heap.size < w1.heap.size := by omega)); (try (have hz1 : w.heap.size + 1 < w1.heap.size := by omega)); (try (have hz2 : w.heap.size + 1 + 1 < w1.heap.size := by omega)); (try (have hz3 : w.heap.size + 1 + 1 + 1 < w1.heap.size := by omega)); (try (have hz4 : w.heap.size + 1 + 1 + 1 + 1 < w1.heap.size := by omega)))
  obtain ⟨wS, rfl⟩ : ∃ wS : World, wS = w1 := ⟨_, rfl⟩
  go_loopw [5] (SsRel X n wS.heap.size w) (fun i _ => n - (intOf i).toNat)
  case atStart =>
    refine ⟨1, Nat.le_refl _, HN.out.1, rfl, (by repeat (first | with_reducible exact Below.refl _ _ | with_reducible assumption | with_reducible refine Below.drew ?_ | with_reducible refine below_drewN ?_ _ | with_reducible refine Below.alloc ?_ ?_ _ | with_reducible refine Below.setCell ?_ ?_ _ | with_reducible refine Below.trans ?_ (Below.mono (by assumption) ?_) | omega | (simp <;> omega))), ?_, ?_⟩
    · (repeat (first | with_reducible assumption | (with_reducible refine HoldsA.made' ?_; (simp; done)) | with_reducible refine HoldsA.alloc ?_ _ | with_reducible refine HoldsA.drew ?_ | with_reducible refine HoldsA.drewN ?_ _ | (with_reducible refine HoldsA.far ?_ _ _ (by first | (simp; done) | (simp; omega))) | (with_reducible refine HoldsA.below ?_ (by with_reducible assumption) (by first | (simp; done) | (simp; omega) | omega))))
    · rw [h1]
      (repeat (first | with_reducible assumption | (with_reducible refine HoldsA.made' ?_; (simp; done)) | with_reducible refine HoldsA.alloc ?_ _ | with_reducible refine HoldsA.drew ?_ | with_reducible refine HoldsA.drewN ?_ _ | (with_reducible refine HoldsA.far ?_ _ _ (by first | (simp; done) | (simp; omega))) | (with_reducible refine HoldsA.below ?_ (by with_reducible assumption) (by first | (simp; done) | (simp; omega) | omega))))
  case round =>
    obtain ⟨m, g1, g2, rfl, hbw, h0, hS⟩ := hrel
    have hbsz := hbw.size
    have hn6 := HN.out.2.1
    have hm6 : (m : Int) ≤ 6 := by omega
    have hx0 := h0.c0
    have hx1 := h0.c1
    have hx2 := h0.c2
    have hx3 := h0.c3
    have hx4 := h0.c4
    have hx5 := h0.c5
    have hxf := h0.free
    have ho0 := hS.c0
    have ho1 := hS.c1
    have ho2 := hS.c2
    have ho3 := hS.c3
    have ho4 := hS.c4
    have ho5 := hS.c5
    have hof := hS.free
    have hlw := h0.lt
    have hlw1 := hS.lt
    by_cases hlt : m < n
    · have hne := HN.out.2.2.2 m g1 hlt
      have hni := (not_congr (is_one _ (pwN_vs X m))).2 hne
      have hp := l4Print_any (pwN X m) X
      rw [print_comm, show printS X (pwN X m) = pwN X (m + 1) from rfl] at hp
      have hPP := Lib.hid hp
      clear hp
      go_wp2
      go_region_with (go_at_call 40; (with_reducible refine (l4Unit_any _).mono ?_); rintro e w1 ⟨rfl, hb⟩; obtain ⟨hc, hf, hT, hz⟩ := bfacts hb; (try simp only [World.size_alloc, World.size_setCell, World.size_drew, size_drewN] at hc hf hT hz); (try (have hzA := Nat.lt_of_succ_le hz)); (try (have hl0 : w.heap.size ≤ w1.heap.size := by omega)); (try (have hz0 : w.heap.size < w1.heap.size := by omega)); (try (have hz1 : w.heap.size + 1 < w1.heap.size := by omega)); (try (have hz2 : w.heap.size + 1 + 1 < w1.heap.size := by omega)); (try (have hz3 : w.heap.size + 1 + 1 + 1 < w1.heap.size := by omega)); (try (have hz4 : w.heap.size + 1 + 1 + 1 + 1 < w1.heap.size := by omega)))
      all_goals
        clear hc hf hT
        obtain ⟨wa, rfl⟩ : ∃ wa : World, wa = w1 := ⟨_, rfl⟩
        have hBa : Below wr.heap.size wr wa := (Below.refl wr.heap.size wr).drew.trans hb
        have k0 := h0.below hBa hlw
        have kS := hS.below hBa hlw1
        have hza := hBa.size
        clear hb hx0 hx1 hx2 hx3 hx4 hx5 hxf ho0 ho1 ho2 ho3 ho4 ho5 hof
        have hx0 := k0.c0
        have hx1 := k0.c1
        have hx2 := k0.c2
        have hx3 := k0.c3
        have hx4 := k0.c4
        have hx5 := k0.c5
        have hxf := k0.free
        have ho0 := kS.c0
        have ho1 := kS.c1
        have ho2 := kS.c2
        have ho3 := kS.c3
        have ho4 := kS.c4
        have ho5 := kS.c5
        have hof := kS.free
        have kl0 := k0.lt
        have kl1 := kS.lt
        go_wp2_with (go_at_call 42; (with_reducible refine (hPP.out _).mono ?_); rintro e w1 ⟨rfl, hb⟩; obtain ⟨hc, hf, hT, hz⟩ := bfacts hb; (try simp only [World.size_alloc, World.size_setCell, World.size_drew, size_drewN] at hc hf hT hz); (try (have hzA := Nat.lt_of_succ_le hz)); (try (have hl0 : w.heap.size ≤ w1.heap.size := by omega)); (try (have hz0 : w.heap.size < w1.heap.size := by omega)); (try (have hz1 : w.heap.size + 1 < w1.heap.size := by omega)); (try (have hz2 : w.heap.size + 1 + 1 < w1.heap.size := by omega)); (try (have hz3 : w.heap.size + 1 + 1 + 1 < w1.heap.size := by omega)); (try (have hz4 : w.heap.size + 1 + 1 + 1 + 1 < w1.heap.size := by omega)); (try (have gxwSheapsize : wS.heap.size < w1.heap.size := by omega)))
        have hBB : Below wa.heap.size wa w1 := (by repeat (first | with_reducible exact Below.refl _ _ | with_reducible assumption | with_reducible refine Below.drew ?_ | with_reducible refine below_drewN ?_ _ | with_reducible refine Below.alloc ?_ ?_ _ | with_reducible refine Below.setCell ?_ ?_ _ | with_reducible refine Below.trans ?_ (Below.mono (by assumption) ?_) | omega | (simp <;> omega)))
        have e0 := k0.below hBB kl0
        have e2 := (kS.below hBB kl1).store (row (pwN X (m + 1)) 0) (row (pwN X (m + 1)) 1) (row (pwN X (m + 1)) 2) (row (pwN X (m + 1)) 3) (row (pwN X (m + 1)) 4) (row (pwN X (m + 1)) 5)
        have hB3 := (hbw.trans (hBa.mono hbw.size)).trans (hBB.mono (by omega))
        have hzz := hBB.size
        clear hBB hBa
        go_roundw
        case rel =>
          refine ⟨m + 1, by omega, by omega, by go_num, (by repeat (first | with_reducible exact Below.refl _ _ | with_reducible assumption | with_reducible refine Below.drew ?_ | with_reducible refine below_drewN ?_ _ | with_reducible refine Below.alloc ?_ ?_ _ | with_reducible refine Below.setCell ?_ ?_ _ | with_reducible refine Below.trans ?_ (Below.mono (by assumption) ?_) | omega | (simp <;> omega))), ?_, e2⟩
          (repeat (first | with_reducible assumption | (with_reducible refine HoldsA.made' ?_; (simp; done)) | with_reducible refine HoldsA.alloc ?_ _ | with_reducible refine HoldsA.drew ?_ | with_reducible refine HoldsA.drewN ?_ _ | (with_reducible refine HoldsA.far ?_ _ _ (by first | (simp; done) | (simp; omega))) | (with_reducible refine HoldsA.below ?_ (by with_reducible assumption) (by first | (simp; done) | (simp; omega) | omega))))
        case measure => simp [intOf]; omega
    · have e : m = n := by omega
      subst e
      have hone := HN.out.2.2.1
      rw [hone] at ho0 ho1 ho2 ho3 ho4 ho5
      go_wp2
      go_region_with (go_at_call 40; (with_reducible refine (l4Unit_any _).mono ?_); rintro e w1 ⟨rfl, hb⟩; obtain ⟨hc, hf, hT, hz⟩ := bfacts hb; (try simp only [World.size_alloc, World.size_setCell, World.size_drew, size_drewN] at hc hf hT hz); (try (have hzA := Nat.lt_of_succ_le hz)); (try (have hl0 : w.heap.size ≤ w1.heap.size := by omega)); (try (have hz0 : w.heap.size < w1.heap.size := by omega)); (try (have hz1 : w.heap.size + 1 < w1.heap.size := by omega)); (try (have hz2 : w.heap.size + 1 + 1 < w1.heap.size := by omega)); (try (have hz3 : w.heap.size + 1 + 1 + 1 < w1.heap.size := by omega)); (try (have hz4 : w.heap.size + 1 + 1 + 1 + 1 < w1.heap.size := by omega)))
      all_goals
        go_wp2
        go_ret2
        exact ⟨rfl, (by repeat (first | with_reducible exact Below.refl _ _ | with_reducible assumption | with_reducible refine Below.drew ?_ | with_reducible refine below_drewN ?_ _ | with_reducible refine Below.alloc ?_ ?_ _ | with_reducible refine Below.setCell ?_ ?_ _ | with_reducible refine Below.trans ?_ (Below.mono (by assumption) ?_) | omega | (simp <;> omega)))⟩
set_option maxRecDepth 100000 in
set_option maxHeartbeats 1600000 in
theorem specStampOrder_none (X : Nat) (hX : Vs X) (hn : ∀ m, 1 ≤ m → m ≤ 6 → pwN X m ≠ 1) (w : World) : Calls Tryz.prog 17 #[(.agg #[.int .i64 (row X 0), .int .i64 (row X 1), .int .i64 (row X 2), .int .i64 (row X 3), .int .i64 (row X 4), .int .i64 (row X 5)])] w fun e w' => e = .returned (.tuple #[.int .i64 0, .bool false]) ∧ Below w.heap.size w w' := by
  have HN := Lib.hid hn
  have h1 := pw_one X hX
  clear hn
  go_enter Tryz.func17, Tryz.ntmps17
  go_wp2_with (go_at_call 36; (with_reducible refine (l2Sheet_ok _ _).mono ?_); rintro e w1 ⟨rfl, hb⟩; obtain ⟨hc, hf, hT, hz⟩ := bfacts hb; (try simp only [World.size_alloc, World.size_setCell, World.size_drew, size_drewN] at hc hf hT hz); (try (have hzA := Nat.lt_of_succ_le hz)); (try (have hl0 : w.heap.size ≤ w1.heap.size := by omega)); (try (have hz0 : w.heap.size < w1.heap.size := by omega)); (try (have hz1 : w.heap.size + 1 < w1.heap.size := by omega)); (try (have hz2 : w.heap.size + 1 + 1 < w1.heap.size := by omega)); (try (have hz3 : w.heap.size + 1 + 1 + 1 < w1.heap.size := by omega)); (try (have hz4 : w.heap.size + 1 + 1 + 1 + 1 < w1.heap.size := by omega)))
  obtain ⟨wS, rfl⟩ : ∃ wS : World, wS = w1 := ⟨_, rfl⟩
  go_loopw [5] (SsRel X 7 wS.heap.size w) (fun i _ => 7 - (intOf i).toNat)
  case atStart =>
    refine ⟨1, Nat.le_refl _, by omega, rfl, (by repeat (first | with_reducible exact Below.refl _ _ | with_reducible assumption | with_reducible refine Below.drew ?_ | with_reducible refine below_drewN ?_ _ | with_reducible refine Below.alloc ?_ ?_ _ | with_reducible refine Below.setCell ?_ ?_ _ | with_reducible refine Below.trans ?_ (Below.mono (by assumption) ?_) | omega | (simp <;> omega))), ?_, ?_⟩
    · (repeat (first | with_reducible assumption | (with_reducible refine HoldsA.made' ?_; (simp; done)) | with_reducible refine HoldsA.alloc ?_ _ | with_reducible refine HoldsA.drew ?_ | with_reducible refine HoldsA.drewN ?_ _ | (with_reducible refine HoldsA.far ?_ _ _ (by first | (simp; done) | (simp; omega))) | (with_reducible refine HoldsA.below ?_ (by with_reducible assumption) (by first | (simp; done) | (simp; omega) | omega))))
    · rw [h1]
      (repeat (first | with_reducible assumption | (with_reducible refine HoldsA.made' ?_; (simp; done)) | with_reducible refine HoldsA.alloc ?_ _ | with_reducible refine HoldsA.drew ?_ | with_reducible refine HoldsA.drewN ?_ _ | (with_reducible refine HoldsA.far ?_ _ _ (by first | (simp; done) | (simp; omega))) | (with_reducible refine HoldsA.below ?_ (by with_reducible assumption) (by first | (simp; done) | (simp; omega) | omega))))
  case round =>
    obtain ⟨m, g1, g2, rfl, hbw, h0, hS⟩ := hrel
    have hbsz := hbw.size
    have hx0 := h0.c0
    have hx1 := h0.c1
    have hx2 := h0.c2
    have hx3 := h0.c3
    have hx4 := h0.c4
    have hx5 := h0.c5
    have hxf := h0.free
    have ho0 := hS.c0
    have ho1 := hS.c1
    have ho2 := hS.c2
    have ho3 := hS.c3
    have ho4 := hS.c4
    have ho5 := hS.c5
    have hof := hS.free
    have hlw := h0.lt
    have hlw1 := hS.lt
    by_cases hlt : m < 7
    · have hm6 : (m : Int) ≤ 6 := by omega
      have hne := HN.out m g1 (by omega)
      have hni := (not_congr (is_one _ (pwN_vs X m))).2 hne
      have hp := l4Print_any (pwN X m) X
      rw [print_comm, show printS X (pwN X m) = pwN X (m + 1) from rfl] at hp
      have hPP := Lib.hid hp
      clear hp
      go_wp2
      go_region_with (go_at_call 40; (with_reducible refine (l4Unit_any _).mono ?_); rintro e w1 ⟨rfl, hb⟩; obtain ⟨hc, hf, hT, hz⟩ := bfacts hb; (try simp only [World.size_alloc, World.size_setCell, World.size_drew, size_drewN] at hc hf hT hz); (try (have hzA := Nat.lt_of_succ_le hz)); (try (have hl0 : w.heap.size ≤ w1.heap.size := by omega)); (try (have hz0 : w.heap.size < w1.heap.size := by omega)); (try (have hz1 : w.heap.size + 1 < w1.heap.size := by omega)); (try (have hz2 : w.heap.size + 1 + 1 < w1.heap.size := by omega)); (try (have hz3 : w.heap.size + 1 + 1 + 1 < w1.heap.size := by omega)); (try (have hz4 : w.heap.size + 1 + 1 + 1 + 1 < w1.heap.size := by omega)))
      all_goals
        clear hc hf hT
        obtain ⟨wa, rfl⟩ : ∃ wa : World, wa = w1 := ⟨_, rfl⟩
        have hBa : Below wr.heap.size wr wa := (Below.refl wr.heap.size wr).drew.trans hb
        have k0 := h0.below hBa hlw
        have kS := hS.below hBa hlw1
        have hza := hBa.size
        clear hb hx0 hx1 hx2 hx3 hx4 hx5 hxf ho0 ho1 ho2 ho3 ho4 ho5 hof
        have hx0 := k0.c0
        have hx1 := k0.c1
        have hx2 := k0.c2
        have hx3 := k0.c3
        have hx4 := k0.c4
        have hx5 := k0.c5
        have hxf := k0.free
        have ho0 := kS.c0
        have ho1 := kS.c1
        have ho2 := kS.c2
        have ho3 := kS.c3
        have ho4 := kS.c4
        have ho5 := kS.c5
        have hof := kS.free
        have kl0 := k0.lt
        have kl1 := kS.lt
        go_wp2_with (go_at_call 42; (with_reducible refine (hPP.out _).mono ?_); rintro e w1 ⟨rfl, hb⟩; obtain ⟨hc, hf, hT, hz⟩ := bfacts hb; (try simp only [World.size_alloc, World.size_setCell, World.size_drew, size_drewN] at hc hf hT hz); (try (have hzA := Nat.lt_of_succ_le hz)); (try (have hl0 : w.heap.size ≤ w1.heap.size := by omega)); (try (have hz0 : w.heap.size < w1.heap.size := by omega)); (try (have hz1 : w.heap.size + 1 < w1.heap.size := by omega)); (try (have hz2 : w.heap.size + 1 + 1 < w1.heap.size := by omega)); (try (have hz3 : w.heap.size + 1 + 1 + 1 < w1.heap.size := by omega)); (try (have hz4 : w.heap.size + 1 + 1 + 1 + 1 < w1.heap.size := by omega)); (try (have gxwSheapsize : wS.heap.size < w1.heap.size := by omega)))
        have hBB : Below wa.heap.size wa w1 := (by repeat (first | with_reducible exact Below.refl _ _ | with_reducible assumption | with_reducible refine Below.drew ?_ | with_reducible refine below_drewN ?_ _ | with_reducible refine Below.alloc ?_ ?_ _ | with_reducible refine Below.setCell ?_ ?_ _ | with_reducible refine Below.trans ?_ (Below.mono (by assumption) ?_) | omega | (simp <;> omega)))
        have e0 := k0.below hBB kl0
        have e2 := (kS.below hBB kl1).store (row (pwN X (m + 1)) 0) (row (pwN X (m + 1)) 1) (row (pwN X (m + 1)) 2) (row (pwN X (m + 1)) 3) (row (pwN X (m + 1)) 4) (row (pwN X (m + 1)) 5)
        have hB3 := (hbw.trans (hBa.mono hbw.size)).trans (hBB.mono (by omega))
        have hzz := hBB.size
        clear hBB hBa
        go_roundw
        case rel =>
          refine ⟨m + 1, by omega, by omega, by go_num, (by repeat (first | with_reducible exact Below.refl _ _ | with_reducible assumption | with_reducible refine Below.drew ?_ | with_reducible refine below_drewN ?_ _ | with_reducible refine Below.alloc ?_ ?_ _ | with_reducible refine Below.setCell ?_ ?_ _ | with_reducible refine Below.trans ?_ (Below.mono (by assumption) ?_) | omega | (simp <;> omega))), ?_, e2⟩
          (repeat (first | with_reducible assumption | (with_reducible refine HoldsA.made' ?_; (simp; done)) | with_reducible refine HoldsA.alloc ?_ _ | with_reducible refine HoldsA.drew ?_ | with_reducible refine HoldsA.drewN ?_ _ | (with_reducible refine HoldsA.far ?_ _ _ (by first | (simp; done) | (simp; omega))) | (with_reducible refine HoldsA.below ?_ (by with_reducible assumption) (by first | (simp; done) | (simp; omega) | omega))))
        case measure => simp [intOf]; omega
    · have e : m = 7 := by omega
      subst e
      go_wp2
      go_ret2
      exact ⟨rfl, (by repeat (first | with_reducible exact Below.refl _ _ | with_reducible assumption | with_reducible refine Below.drew ?_ | with_reducible refine below_drewN ?_ _ | with_reducible refine Below.alloc ?_ ?_ _ | with_reducible refine Below.setCell ?_ ?_ _ | with_reducible refine Below.trans ?_ (Below.mono (by assumption) ?_) | omega | (simp <;> omega)))⟩
set_option maxRecDepth 100000 in
theorem specStampOrder_no (a0 a1 a2 a3 a4 a5 : Int) (hn : ¬ Ok6 a0 a1 a2 a3 a4 a5) (w : World) : Calls Tryz.prog 17 #[(.agg #[.int .i64 a0, .int .i64 a1, .int .i64 a2, .int .i64 a3, .int .i64 a4, .int .i64 a5])] w fun e w' => e = .returned (.tuple #[.int .i64 0, .bool false]) ∧ Below w.heap.size w w' := by
  go_enter Tryz.func17, Tryz.ntmps17
  go_wp2_with (go_at_call 36; (with_reducible refine (l2Sheet_no _ _ _ _ _ _ (by assumption) _).mono ?_); rintro e w1 ⟨rfl, hb⟩; obtain ⟨hc, hf, hT, hz⟩ := bfacts hb; (try simp only [World.size_alloc, World.size_setCell, World.size_drew, size_drewN] at hc hf hT hz); (try (have hzA := Nat.lt_of_succ_le hz)); (try (have hl0 : w.heap.size ≤ w1.heap.size := by omega)); (try (have hz0 : w.heap.size < w1.heap.size := by omega)); (try (have hz1 : w.heap.size + 1 < w1.heap.size := by omega)); (try (have hz2 : w.heap.size + 1 + 1 < w1.heap.size := by omega)); (try (have hz3 : w.heap.size + 1 + 1 + 1 < w1.heap.size := by omega)); (try (have hz4 : w.heap.size + 1 + 1 + 1 + 1 < w1.heap.size := by omega)))
  go_ret2
  exact ⟨rfl, (by repeat (first | with_reducible exact Below.refl _ _ | with_reducible assumption | with_reducible refine Below.drew ?_ | with_reducible refine below_drewN ?_ _ | with_reducible refine Below.alloc ?_ ?_ _ | with_reducible refine Below.setCell ?_ ?_ _ | with_reducible refine Below.trans ?_ (Below.mono (by assumption) ?_) | omega | (simp <;> omega)))⟩
end Go.Proofs.YtgjgefbcfcomcaaGreatDoor
