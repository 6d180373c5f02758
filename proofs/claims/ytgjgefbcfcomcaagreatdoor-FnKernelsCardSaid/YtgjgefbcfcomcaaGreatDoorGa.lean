/-
  Contracts of prints of presses, of the program and of the reference. No conditions.
-/
import Derived.Test.YtgjgefbcfcomcaaGreatDoorJE
import Derived.Test.YtgjgefbcfcomcaaGreatDoorJA
namespace Go.Proofs.YtgjgefbcfcomcaaGreatDoor
open Go.RowKit
set_option linter.unusedSimpArgs false
set_option linter.unusedVariables false

def XpRel (X : Nat) (L : List Nat) (w : World) (o i : Value) (wr : World) : Prop :=
  ∃ k : Nat, k ≤ L.length ∧ i = .int .i64 (k : Int) ∧ o = .int .u64 ((xrT X L k : Nat) : Int) ∧ Below w.heap.size w wr

theorem xor_vs_u64 {X Y : Nat} (hX : Vs X) (hY : Vs Y) : bits .xor .u64 (X : Int) (Y : Int) = ((X ^^^ Y : Nat) : Int) :=
  u64_xor_nat X Y (by have := hX.lt; omega) (by have := hY.lt; omega)

set_option maxRecDepth 100000 in
theorem print_any (X Y : Nat) (hX : Vs X) (hY : Vs Y) (w : World) : Calls Tryz.prog 41 #[.int .u64 (X : Int), .int .u64 (Y : Int)] w fun e w' => e = .returned (.int .u64 ((printS X Y : Nat) : Int)) ∧ Below w.heap.size w w' := by
  go_enter Tryz.func41, Tryz.ntmps41
  go_wp2_with (go_at_call 66; (with_reducible refine (list_any _ hY _).mono ?_); rintro e w1 ⟨v, rfl, ho, hb⟩; obtain ⟨g, cap, rfl, hg1, hg2, hcell⟩ := ints_form ho)
  have hlen : (cellsL Y).length ≤ 36 := cellsN_le Y 36
  have hHc := Lib.hid hcell
  clear hcell
  have hL := getD_lt Y
  have hHL := Lib.hid hL
  clear hL ho
  generalize hLdef : cellsL Y = L at *
  go_loopw [5, 11] (XpRel X L w1) (fun _ i _ => L.length - (intOf i).toNat)
  case atStart => exact ⟨0, Nat.zero_le _, rfl, rfl, Below.refl _ _⟩
  case round =>
    obtain ⟨k, hk, rfl, rfl, hbw⟩ := hrel
    have hlen' : (L.length : Int) ≤ 36 := by omega
    by_cases hlt : k < L.length
    · have hlt' : (k : Int) < (L.length : Int) := by omega
      have hc0 : wr.cell? ⟨g, k, none⟩ = some (.int .i64 ((L.getD k 0 : Nat) : Int)) := (hbw.cell (p := ⟨g, k, none⟩) hg2).trans (hHc.out k hlt)
      have hc36 : L.getD k 0 < 36 := hHL.out k hlt
      have hor := xor_vs_u64 (xrT_vs X L k) (pressN_vs X (L.getD k 0))
      obtain ⟨c, hcd⟩ : ∃ c, c = L.getD k 0 := ⟨_, rfl⟩
      rw [← hcd] at hc0 hc36 hor
      have hCD := Lib.hid hcd
      clear hcd
      go_wp2_with (go_at_call 67; (with_reducible refine (pressed_any _ _ hX (by assumption) _).mono ?_); rintro e w1 ⟨rfl, hb⟩; obtain ⟨hc, hf, hT, hz⟩ := bfacts hb; (try simp only [World.size_alloc, World.size_setCell, World.size_drew, size_drewN] at hc hf hT hz); (try (have hzA := Nat.lt_of_succ_le hz)); (try (have hl0 : w.heap.size ≤ w1.heap.size := by omega)); (try (have hz0 : w.heap.size < w1.heap.size := by omega)); (try (have hz1 : w.heap.size + 1 < w1.heap.size := by omega)); (try (have hz2 : w.heap.size + 1 + 1 < w1.heap.size := by omega)); (try (have hz3 : w.heap.size + 1 + 1 + 1 < w1.heap.size := by omega)); (try (have hz4 : w.heap.size + 1 + 1 + 1 + 1 < w1.heap.size := by omega)))
      go_roundw
      case rel => exact ⟨k + 1, by omega, by go_num, by rw [xrT, ← hCD.out], hbw.trans (hb.mono hbw.size)⟩
      case measure => simp [intOf]; omega
    · have e : k = L.length := by omega
      subst e
      go_wp2
      go_ret
      exact ⟨by unfold printS; rw [hLdef]; rfl, hb.trans (hbw.mono hb.size)⟩

/-- behind k cells of the loop of l4Print: what came in stays, the sheet in block B is what is spread so far -/
def S4Rel (X : Nat) (L : List Nat) (w w1 : World) (B : Nat) (i : Value) (wr : World) : Prop :=
  ∃ k : Nat, k ≤ L.length ∧ i = .int .i64 (k : Int) ∧ Below w1.heap.size w1 wr ∧ w1.heap.size < wr.heap.size ∧
    HoldsA wr 26 w1.heap.size (row (xrT X L k) 0) (row (xrT X L k) 1) (row (xrT X L k) 2) (row (xrT X L k) 3) (row (xrT X L k) 4) (row (xrT X L k) 5)

set_option maxRecDepth 100000 in
set_option maxHeartbeats 1600000 in
theorem l4Print_any (X Y : Nat) (w : World) : Calls Tryz.prog 42 #[(.agg #[.int .i64 (row X 0), .int .i64 (row X 1), .int .i64 (row X 2), .int .i64 (row X 3), .int .i64 (row X 4), .int .i64 (row X 5)]), (.agg #[.int .i64 (row Y 0), .int .i64 (row Y 1), .int .i64 (row Y 2), .int .i64 (row Y 3), .int .i64 (row Y 4), .int .i64 (row Y 5)])] w fun e w' => e = .returned (.agg #[.int .i64 (row (printS X Y) 0), .int .i64 (row (printS X Y) 1), .int .i64 (row (printS X Y) 2), .int .i64 (row (printS X Y) 3), .int .i64 (row (printS X Y) 4), .int .i64 (row (printS X Y) 5)]) ∧ Below w.heap.size w w' := by
  go_enter Tryz.func42, Tryz.ntmps42
  go_wp2_with (go_at_call 68; (with_reducible refine (l2Cells_any _ _).mono ?_); rintro e wp ⟨v, rfl, ho, hb⟩; obtain ⟨g, cap, rfl, hg1, hg2, hcell⟩ := pairs_form ho; obtain ⟨hc, hf, hT, hz⟩ := bfacts hb; (try simp only [World.size_alloc, World.size_setCell, World.size_drew, size_drewN] at hc hf hT hz))
  have hlen : (cellsL Y).length ≤ 36 := cellsN_le Y 36
  have hX0 : HoldsA wp 26 w.heap.size (row X 0) (row X 1) (row X 2) (row X 3) (row X 4) (row X 5) := (((HoldsA.made w _ _ _ _ _ _ _).alloc _).alloc _).below hb (by simp)
  have hR0 : HoldsA wp 26 (w.heap.size + 1 + 1) 0 0 0 0 0 0 := by
    have h := HoldsA.made ((w.alloc (.cells #[.int .i64 (row X 0), .int .i64 (row X 1), .int .i64 (row X 2), .int .i64 (row X 3), .int .i64 (row X 4), .int .i64 (row X 5)] 26)).alloc (.cells #[.int .i64 (row Y 0), .int .i64 (row Y 1), .int .i64 (row Y 2), .int .i64 (row Y 3), .int .i64 (row Y 4), .int .i64 (row Y 5)] 26)) 26 0 0 0 0 0 0
    exact (by simpa using h : HoldsA _ _ _ _ _ _ _ _ _).below hb (by simp)
  have hw1 : w.heap.size + 1 + 1 < wp.heap.size := hR0.lt
  have hHc := Lib.hid hcell
  have hHL := Lib.hid (getD_lt Y)
  have hb0 : Below w.heap.size w wp := (by repeat (first | with_reducible exact Below.refl _ _ | with_reducible assumption | with_reducible refine Below.drew ?_ | with_reducible refine below_drewN ?_ _ | with_reducible refine Below.alloc ?_ ?_ _ | with_reducible refine Below.setCell ?_ ?_ _ | with_reducible refine Below.trans ?_ (Below.mono (by assumption) ?_) | omega | (simp <;> omega)))
  clear hcell ho hc hf hT hb hz
  generalize hLdef : cellsL Y = L at *
  go_loopw [7] (S4Rel X L w wp wp.heap.size) (fun i _ => L.length - (intOf i).toNat)
  case atStart =>
    refine ⟨0, Nat.zero_le _, rfl, (by repeat (first | with_reducible exact Below.refl _ _ | with_reducible assumption | with_reducible refine Below.drew ?_ | with_reducible refine below_drewN ?_ _ | with_reducible refine Below.alloc ?_ ?_ _ | with_reducible refine Below.setCell ?_ ?_ _ | with_reducible refine Below.trans ?_ (Below.mono (by assumption) ?_) | omega | (simp <;> omega))), by simp, ?_⟩
    have h := HoldsA.made wp 26 0 0 0 0 0 0
    simpa [xrT, zero_rows] using h
  case round =>
    obtain ⟨k, hk, rfl, hbw, hlt1, hO⟩ := hrel
    have hlen' : (L.length : Int) ≤ 36 := by omega
    have hXr := hX0.below hbw (by omega)
    have hRr := hR0.below hbw hw1
    have hbs := hbw.size
    by_cases hlt : k < L.length
    · have hlt' : (k : Int) < (L.length : Int) := by omega
      have hq0 : wr.cell? ⟨g, k * 2, none⟩ = some (.int .i64 ((L.getD k 0 % 6 : Nat) : Int)) := by rw [Nat.mul_comm k 2]; exact (hbw.cell (p := ⟨g, 2 * k, none⟩) hg2).trans (hHc.out k hlt).1
      have hq1 : wr.cell? ⟨g, k * 2 + 1, none⟩ = some (.int .i64 ((L.getD k 0 / 6 : Nat) : Int)) := by rw [Nat.mul_comm k 2]; exact (hbw.cell (p := ⟨g, 2 * k + 1, none⟩) hg2).trans (hHc.out k hlt).2
      have hc36 : L.getD k 0 < 36 := hHL.out k hlt
      obtain ⟨c, hcd⟩ : ∃ c, c = L.getD k 0 := ⟨_, rfl⟩
      obtain ⟨O1, hO1⟩ : ∃ z, z = xrT X L k := ⟨_, rfl⟩
      obtain ⟨O2, hO2⟩ : ∃ z, z = xrT X L (k + 1) := ⟨_, rfl⟩
      have hor : O1 ^^^ pressN X c = O2 := by rw [hO1, hO2, xrT, hcd]
      rw [← hcd] at hq0 hq1 hc36
      rw [← hO1] at hO
      have hOE := Lib.hid hO2
      clear hcd hO1 hO2
      have hl2 := l2Xor_any O1 (pressN X c)
      rw [hor] at hl2
      have hOR := Lib.hid hl2
      clear hl2 hor
      have hcc := hXr.c0
      have hcc1 := hXr.c1
      have hcc2 := hXr.c2
      have hcc3 := hXr.c3
      have hcc4 := hXr.c4
      have hcc5 := hXr.c5
      have hd0 := hO.c0
      have hd1 := hO.c1
      have hd2 := hO.c2
      have hd3 := hO.c3
      have hd4 := hO.c4
      have hd5 := hO.c5
      have hfr := hO.free
      go_wp2
      go_region_with (first | (go_at_call 69; (with_reducible refine (l2At_any _ _ (by assumption) _).mono ?_); rintro e w1 ⟨rfl, hb⟩; obtain ⟨hc, hf, hT, hz⟩ := bfacts hb; (try simp only [World.size_alloc, World.size_setCell, World.size_drew, size_drewN] at hc hf hT hz); (try (have hzA := Nat.lt_of_succ_le hz)); (try (have hl0 : w.heap.size ≤ w1.heap.size := by omega)); (try (have hz0 : w.heap.size < w1.heap.size := by omega)); (try (have hz1 : w.heap.size + 1 < w1.heap.size := by omega)); (try (have hz2 : w.heap.size + 1 + 1 < w1.heap.size := by omega)); (try (have hz3 : w.heap.size + 1 + 1 + 1 < w1.heap.size := by omega)); (try (have hz4 : w.heap.size + 1 + 1 + 1 + 1 < w1.heap.size := by omega))) | (go_at_call 46; (with_reducible refine (hOR.out _).mono ?_); rintro e w1 ⟨rfl, hb⟩; obtain ⟨hc, hf, hT, hz⟩ := bfacts hb; (try simp only [World.size_alloc, World.size_setCell, World.size_drew, size_drewN] at hc hf hT hz); (try (have hzA := Nat.lt_of_succ_le hz)); (try (have hl0 : w.heap.size ≤ w1.heap.size := by omega)); (try (have hz0 : w.heap.size < w1.heap.size := by omega)); (try (have hz1 : w.heap.size + 1 < w1.heap.size := by omega)); (try (have hz2 : w.heap.size + 1 + 1 < w1.heap.size := by omega)); (try (have hz3 : w.heap.size + 1 + 1 + 1 < w1.heap.size := by omega)); (try (have hz4 : w.heap.size + 1 + 1 + 1 + 1 < w1.heap.size := by omega))))
      all_goals
        have hBB : Below wr.heap.size wr w1 := (by repeat (first | with_reducible exact Below.refl _ _ | with_reducible assumption | with_reducible refine Below.drew ?_ | with_reducible refine below_drewN ?_ _ | with_reducible refine Below.alloc ?_ ?_ _ | with_reducible refine Below.setCell ?_ ?_ _ | with_reducible refine Below.trans ?_ (Below.mono (by assumption) ?_) | omega | (simp <;> omega)))
        have hH2 := (hO.below hBB hlt1).store (row O2 0) (row O2 1) (row O2 2) (row O2 3) (row O2 4) (row O2 5)
        rw [hOE.out] at hH2
        have hB3 := hbw.trans (hBB.mono hbs)
        have hzw : wp.heap.size < w1.heap.size := Nat.lt_of_lt_of_le hlt1 hBB.size
        clear hBB
        go_wp2
        go_roundw
        case rel => exact ⟨k + 1, by omega, by go_num, (by repeat (first | with_reducible exact Below.refl _ _ | with_reducible assumption | with_reducible refine Below.drew ?_ | with_reducible refine below_drewN ?_ _ | with_reducible refine Below.alloc ?_ ?_ _ | with_reducible refine Below.setCell ?_ ?_ _ | with_reducible refine Below.trans ?_ (Below.mono (by assumption) ?_) | omega | (simp <;> omega))), by simpa using hzw, by rw [hOE.out]; exact hH2⟩
        case measure => simp [intOf]; omega
    · have e : k = L.length := by omega
      subst e
      have hd0 := hO.c0
      have hd1 := hO.c1
      have hd2 := hO.c2
      have hd3 := hO.c3
      have hd4 := hO.c4
      have hd5 := hO.c5
      have hr0 := hRr.c0
      have hr1 := hRr.c1
      have hr2 := hRr.c2
      have hr3 := hRr.c3
      have hr4 := hRr.c4
      have hr5 := hRr.c5
      have hfr := hRr.free
      have hfin : xrT X L L.length = printS X Y := by unfold printS; rw [hLdef]
      rw [hfin] at hd0 hd1 hd2 hd3 hd4 hd5
      clear hfin hLdef hO
      go_wp2
      exact bodyPost_ret (v := (.agg #[.int .i64 (row (printS X Y) 0), .int .i64 (row (printS X Y) 1), .int .i64 (row (printS X Y) 2), .int .i64 (row (printS X Y) 3), .int .i64 (row (printS X Y) 4), .int .i64 (row (printS X Y) 5)])) (by simp [results, Tryz.results42, go_sem, *]) rfl ⟨rfl, (by repeat (first | with_reducible exact Below.refl _ _ | with_reducible assumption | with_reducible refine Below.drew ?_ | with_reducible refine below_drewN ?_ _ | with_reducible refine Below.alloc ?_ ?_ _ | with_reducible refine Below.setCell ?_ ?_ _ | with_reducible refine Below.trans ?_ (Below.mono (by assumption) ?_) | omega | (simp <;> omega)))⟩
end Go.Proofs.YtgjgefbcfcomcaaGreatDoor
