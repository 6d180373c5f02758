/-
  Contracts of the program's pressed, spread, where/shrunk, reflected and of the reference's l2At. No conditions.
-/
import Derived.Test.YtphnkkblgbfncaaCk
import Derived.Test.YtphnkkblgbfncaaCh
namespace Go.Proofs.Ytphnkkblgbfncaa
open Go.RowKit
set_option linter.unusedSimpArgs false
set_option linter.unusedVariables false

theorem ret_u64 {a b : Int} (h : a = b) : Ending.returned (.int .u64 a) = .returned (.int .u64 b) := by rw [h]

set_option maxRecDepth 100000 in
theorem pressed_any (X k : Nat) (hX : Vs X) (hk : k < 36) (w : World) : Calls Try.prog 59 #[.int .u64 (X : Int), .int .i64 (k : Int)] w fun e w' => e = .returned (.int .u64 ((pressN X k : Nat) : Int)) ∧ Below w.heap.size w w' := by
  have hk1 : (k : Int) < 36 := by omega
  go_enter Try.func59, Try.ntmps59
  go_wp2_with (go_at_call 76; (with_reducible refine (shifted_any _ _ _ (by assumption) _).mono ?_); rintro e w1 ⟨rfl, hb⟩; obtain ⟨hc, hf, hT, hz⟩ := bfacts hb; (try simp only [World.size_alloc, World.size_setCell, World.size_drew, size_drewN] at hc hf hT hz); (try (have hzA := Nat.lt_of_succ_le hz)); (try (have hl0 : w.heap.size ≤ w1.heap.size := by omega)); (try (have hz0 : w.heap.size < w1.heap.size := by omega)); (try (have hz1 : w.heap.size + 1 < w1.heap.size := by omega)); (try (have hz2 : w.heap.size + 1 + 1 < w1.heap.size := by omega)); (try (have hz3 : w.heap.size + 1 + 1 + 1 < w1.heap.size := by omega)); (try (have hz4 : w.heap.size + 1 + 1 + 1 + 1 < w1.heap.size := by omega)))
  go_ret
  exact ⟨ret_u64 (by unfold pressN; congr 2 <;> omega), (by repeat (first | with_reducible exact Below.refl _ _ | with_reducible assumption | with_reducible refine Below.drew ?_ | with_reducible refine below_drewN ?_ _ | with_reducible refine Below.alloc ?_ ?_ _ | with_reducible refine Below.setCell ?_ ?_ _ | with_reducible refine Below.trans ?_ (Below.mono (by assumption) ?_) | omega | (simp <;> omega)))⟩

theorem ints_form {w : World} {B : Nat} {v : Value} {L : List Nat} (h : OwnsInts w B v L) :
    ∃ g cap, v = .slice (some ⟨g, 0, none⟩) L.length cap ∧ B ≤ g ∧ g < w.heap.size ∧ ∀ j, j < L.length → w.cell? ⟨g, j, none⟩ = some (.int .i64 ((L.getD j 0 : Nat) : Int)) := by
  obtain ⟨hown, hnn⟩ := h
  rcases Joins.ownsRow_forms hown with ⟨rfl, _⟩ | ⟨g, cap, rfl⟩
  · exact absurd rfl hnn
  · have hl := hown.lt g rfl
    refine ⟨g, cap, rfl, hl.1, hl.2, fun j hj => ?_⟩
    rw [hown.cellAt j (by omega)]
    simp [List.getElem?_eq_getElem hj]

theorem getD_lt (X j : Nat) (h : j < (cellsL X).length) : (cellsL X).getD j 0 < 36 := by
  have : (cellsL X).getD j 0 ∈ cellsL X := by
    rw [List.getD_eq_getElem?_getD, List.getElem?_eq_getElem h]
    exact List.getElem_mem h
  exact cellsN_lt X 36 _ this

def SpRel (X : Nat) (L : List Nat) (w : World) (o i : Value) (wr : World) : Prop :=
  ∃ k : Nat, k ≤ L.length ∧ i = .int .i64 (k : Int) ∧ o = .int .u64 ((orT X L k : Nat) : Int) ∧ Below w.heap.size w wr

theorem or_vs_u64 {X Y : Nat} (hX : Vs X) (hY : Vs Y) : bits .or .u64 (X : Int) (Y : Int) = ((X ||| Y : Nat) : Int) :=
  or_u64 X Y (by have := hX.lt; omega) (by have := hY.lt; omega)

set_option maxRecDepth 100000 in
theorem spread_any (X Y : Nat) (hX : Vs X) (hY : Vs Y) (w : World) : Calls Try.prog 53 #[.int .u64 (X : Int), .int .u64 (Y : Int)] w fun e w' => e = .returned (.int .u64 ((spreadS X Y : Nat) : Int)) ∧ Below w.heap.size w w' := by
  go_enter Try.func53, Try.ntmps53
  go_wp2_with (go_at_call 75; (with_reducible refine (list_any _ hY _).mono ?_); rintro e w1 ⟨v, rfl, ho, hb⟩; obtain ⟨g, cap, rfl, hg1, hg2, hcell⟩ := ints_form ho)
  have hlen : (cellsL Y).length ≤ 36 := cellsN_le Y 36
  have hHc := Lib.hid hcell
  clear hcell
  have hL := getD_lt Y
  have hHL := Lib.hid hL
  clear hL ho
  generalize hLdef : cellsL Y = L at *
  go_loopw [5, 11] (SpRel X L w1) (fun _ i _ => L.length - (intOf i).toNat)
  case atStart => exact ⟨0, Nat.zero_le _, rfl, rfl, Below.refl _ _⟩
  case round =>
    obtain ⟨k, hk, rfl, rfl, hbw⟩ := hrel
    have hlen' : (L.length : Int) ≤ 36 := by omega
    by_cases hlt : k < L.length
    · have hlt' : (k : Int) < (L.length : Int) := by omega
      have hc0 : wr.cell? ⟨g, k, none⟩ = some (.int .i64 ((L.getD k 0 : Nat) : Int)) := (hbw.cell (p := ⟨g, k, none⟩) hg2).trans (hHc.out k hlt)
      have hc36 : L.getD k 0 < 36 := hHL.out k hlt
      have hor := or_vs_u64 (orT_vs X L k) (pressN_vs X (L.getD k 0))
      obtain ⟨c, hcd⟩ : ∃ c, c = L.getD k 0 := ⟨_, rfl⟩
      rw [← hcd] at hc0 hc36 hor
      have hCD := Lib.hid hcd
      clear hcd
      go_wp2_with (go_at_call 59; (with_reducible refine (pressed_any _ _ hX (by assumption) _).mono ?_); rintro e w1 ⟨rfl, hb⟩; obtain ⟨hc, hf, hT, hz⟩ := bfacts hb; (try simp only [World.size_alloc, World.size_setCell, World.size_drew, size_drewN] at hc hf hT hz); (try (have hzA := Nat.lt_of_succ_le hz)); (try (have hl0 : w.heap.size ≤ w1.heap.size := by omega)); (try (have hz0 : w.heap.size < w1.heap.size := by omega)); (try (have hz1 : w.heap.size + 1 < w1.heap.size := by omega)); (try (have hz2 : w.heap.size + 1 + 1 < w1.heap.size := by omega)); (try (have hz3 : w.heap.size + 1 + 1 + 1 < w1.heap.size := by omega)); (try (have hz4 : w.heap.size + 1 + 1 + 1 + 1 < w1.heap.size := by omega)))
      go_roundw
      case rel => exact ⟨k + 1, by omega, by go_num, by rw [orT, ← hCD.out], hbw.trans (hb.mono hbw.size)⟩
      case measure => simp [intOf]; omega
    · have e : k = L.length := by omega
      subst e
      go_wp2
      go_ret
      exact ⟨by unfold spreadS; rw [hLdef]; rfl, hb.trans (hbw.mono hb.size)⟩

theorem mkN_step (p : Nat → Bool) (k : Nat) (h : p k = true) (hk : k < 36) :
    bits .or .u64 ((mkN p k : Nat) : Int) (IntKind.u64.wrap (2 ^ k)) = ((mkN p (k + 1) : Nat) : Int) := by
  have h1 := (mkN_vs p k (by omega)).lt
  have h2 : 2 ^ k < 2 ^ 36 := Nat.pow_lt_pow_right (by omega) hk
  have h3 := or_u64 (mkN p k) (2 ^ k) (by omega) (by omega)
  have h4 : IntKind.u64.wrap (2 ^ k) = ((2 ^ k : Nat) : Int) := by
    rw [show (2 : Int) ^ k = ((2 ^ k : Nat) : Int) from by simp]
    simp only [IntKind.wrap, IntKind.bits, IntKind.signed]
    simp only [Bool.false_and, Bool.false_eq_true, if_false]
    generalize 2 ^ k = z at h2
    exact Int.emod_eq_of_lt (by omega) (by omega)
  rw [mkN, if_pos h, ← h3, h4]

/-- a loop's relation of the program's where: k cells are asked -/
def WhRel (p : Nat → Bool) (w : World) (o i : Value) (wr : World) : Prop :=
  ∃ k : Nat, k ≤ 36 ∧ i = .int .i64 (k : Int) ∧ o = .int .u64 ((mkN p k : Nat) : Int) ∧ Below w.heap.size w wr

set_option maxRecDepth 100000 in
theorem shrunk1_any (X Y k : Nat) (hX : Vs X) (hY : Vs Y) (hk : k < 36) (pa pb : Nat) (w : World)
    (ha : w.cell? ⟨pa, 0, none⟩ = some (.int .u64 (Y : Int))) (hb : w.cell? ⟨pb, 0, none⟩ = some (.int .u64 (X : Int))) :
    Calls Try.prog 72 #[.int .i64 (k : Int), .pointer (some ⟨pa, 0, none⟩), .pointer (some ⟨pb, 0, none⟩)] w
      fun e w' => e = .returned (.bool (shrinkP X Y k)) ∧ Below w.heap.size w w' := by
  have pa_lt := World.block_lt_of_cell? w _ ha
  have pb_lt := World.block_lt_of_cell? w _ hb
  have hxy := mi_u64 (pressN Y k) X (pressN_vs Y k) hX
  have hr := Lib.hid (mi_beq (pressN Y k) X (pressN_vs Y k) hX)
  go_enter Try.func72, Try.ntmps72
  go_wp2
  go_region_held3 (fun w' => w'.cell? ⟨pa, 0, none⟩ = some (.int .u64 (Y : Int)) ∧ w'.cell? ⟨pb, 0, none⟩ = some (.int .u64 (X : Int))) (simp [*, World.cell?_alloc_some, World.cell?_setCell_far, Nat.ne_of_gt]) (first | (go_at_call 59; (with_reducible refine (pressed_any _ _ hY hk _).mono ?_); rintro e w1 ⟨rfl, hb⟩; obtain ⟨hc, hf, hT, hz⟩ := bfacts hb; (try simp only [World.size_alloc, World.size_setCell, World.size_drew, size_drewN] at hc hf hT hz); (try (have hzA := Nat.lt_of_succ_le hz)); (try (have hl0 : w.heap.size ≤ w1.heap.size := by omega)); (try (have hz0 : w.heap.size < w1.heap.size := by omega)); (try (have hz1 : w.heap.size + 1 < w1.heap.size := by omega)); (try (have hz2 : w.heap.size + 1 + 1 < w1.heap.size := by omega)); (try (have hz3 : w.heap.size + 1 + 1 + 1 < w1.heap.size := by omega)); (try (have hz4 : w.heap.size + 1 + 1 + 1 + 1 < w1.heap.size := by omega))))
  all_goals
    go_wp2
    go_ret
    exact ⟨by simp [hr.out, shrinkP], (by repeat (first | with_reducible exact Below.refl _ _ | with_reducible assumption | with_reducible refine Below.drew ?_ | with_reducible refine below_drewN ?_ _ | with_reducible refine Below.alloc ?_ ?_ _ | with_reducible refine Below.setCell ?_ ?_ _ | with_reducible refine Below.trans ?_ (Below.mono (by assumption) ?_) | omega | (simp <;> omega)))⟩

set_option maxRecDepth 100000 in
theorem where_shrunk (X Y : Nat) (hX : Vs X) (hY : Vs Y) (pa pb : Nat) (w : World)
    (ha : w.cell? ⟨pa, 0, none⟩ = some (.int .u64 (Y : Int))) (hb : w.cell? ⟨pb, 0, none⟩ = some (.int .u64 (X : Int))) :
    Calls Try.prog 57 #[.func (.func 72) #[] #[.pointer (some ⟨pa, 0, none⟩), .pointer (some ⟨pb, 0, none⟩)]] w
      fun e w' => e = .returned (.int .u64 ((shrinkS X Y : Nat) : Int)) ∧ Below w.heap.size w w' := by
  have pa_lt := World.block_lt_of_cell? w _ ha
  have pb_lt := World.block_lt_of_cell? w _ hb
  have hA := Lib.hid ha
  have hB := Lib.hid hb
  clear ha hb
  go_enter Try.func57, Try.ntmps57
  go_wp2
  go_loopw [3, 5] (WhRel (shrinkP X Y) w) (fun _ i _ => 36 - (intOf i).toNat)
  case atStart => exact ⟨0, Nat.zero_le _, rfl, rfl, Below.refl _ _⟩
  case round =>
    obtain ⟨k, hk, rfl, rfl, hbw⟩ := hrel
    by_cases hlt : k < 36
    · have hlt' : (k : Int) < 36 := by omega
      have hA1 : wr.cell? ⟨pa, 0, none⟩ = some (.int .u64 (Y : Int)) := (hbw.cell (p := ⟨pa, 0, none⟩) pa_lt).trans hA.out
      have hB1 : wr.cell? ⟨pb, 0, none⟩ = some (.int .u64 (X : Int)) := (hbw.cell (p := ⟨pb, 0, none⟩) pb_lt).trans hB.out
      cases hbit : shrinkP X Y k with
      | true =>
        go_wp2_with (go_at_call 72; (with_reducible refine (shrunk1_any _ _ _ hX hY hlt _ _ _ (by assumption) (by assumption)).mono ?_); rintro e w1 ⟨rfl, hb⟩; obtain ⟨hc, hf, hT, hz⟩ := bfacts hb; (try simp only [World.size_alloc, World.size_setCell, World.size_drew, size_drewN] at hc hf hT hz); (try (have hzA := Nat.lt_of_succ_le hz)); (try (have hl0 : w.heap.size ≤ w1.heap.size := by omega)); (try (have hz0 : w.heap.size < w1.heap.size := by omega)); (try (have hz1 : w.heap.size + 1 < w1.heap.size := by omega)); (try (have hz2 : w.heap.size + 1 + 1 < w1.heap.size := by omega)); (try (have hz3 : w.heap.size + 1 + 1 + 1 < w1.heap.size := by omega)); (try (have hz4 : w.heap.size + 1 + 1 + 1 + 1 < w1.heap.size := by omega)))
        go_roundw
        case rel => exact ⟨k + 1, by omega, by go_num, by rw [mkN_step _ k hbit hlt], hbw.trans (hb.mono hbw.size)⟩
        case measure => simp [intOf]; omega
      | false =>
        go_wp2_with (go_at_call 72; (with_reducible refine (shrunk1_any _ _ _ hX hY hlt _ _ _ (by assumption) (by assumption)).mono ?_); rintro e w1 ⟨rfl, hb⟩; obtain ⟨hc, hf, hT, hz⟩ := bfacts hb; (try simp only [World.size_alloc, World.size_setCell, World.size_drew, size_drewN] at hc hf hT hz); (try (have hzA := Nat.lt_of_succ_le hz)); (try (have hl0 : w.heap.size ≤ w1.heap.size := by omega)); (try (have hz0 : w.heap.size < w1.heap.size := by omega)); (try (have hz1 : w.heap.size + 1 < w1.heap.size := by omega)); (try (have hz2 : w.heap.size + 1 + 1 < w1.heap.size := by omega)); (try (have hz3 : w.heap.size + 1 + 1 + 1 < w1.heap.size := by omega)); (try (have hz4 : w.heap.size + 1 + 1 + 1 + 1 < w1.heap.size := by omega)))
        go_roundw
        case rel => exact ⟨k + 1, by omega, by go_num, by rw [mkN_skip _ k hbit], hbw.trans (hb.mono hbw.size)⟩
        case measure => simp [intOf]; omega
    · have e : k = 36 := by omega
      subst e
      go_wp2
      go_ret
      exact ⟨rfl, hbw⟩

set_option maxRecDepth 100000 in
theorem shrunk_any (X Y : Nat) (hX : Vs X) (hY : Vs Y) (w : World) : Calls Try.prog 49 #[.int .u64 (X : Int), .int .u64 (Y : Int)] w fun e w' => e = .returned (.int .u64 ((shrinkS X Y : Nat) : Int)) ∧ Below w.heap.size w w' := by
  have hmf : ∀ (fn : Fn) (first cap : Array Value) (w : World), (Instr.makeFunc fn first cap).run Try.prog w = .ok (.func fn first cap) w := fun _ _ _ _ => rfl
  go_enter Try.func49, Try.ntmps49
  go_wp2_with (go_at_call 57; (with_reducible refine (where_shrunk X Y hX hY _ _ _ (by simp) (by simp [World.cell?_alloc_lt])).mono ?_); rintro e w1 ⟨rfl, hb⟩; obtain ⟨hc, hf, hT, hz⟩ := bfacts hb; (try simp only [World.size_alloc, World.size_setCell, World.size_drew, size_drewN] at hc hf hT hz); (try (have hzA := Nat.lt_of_succ_le hz)); (try (have hl0 : w.heap.size ≤ w1.heap.size := by omega)); (try (have hz0 : w.heap.size < w1.heap.size := by omega)); (try (have hz1 : w.heap.size + 1 < w1.heap.size := by omega)); (try (have hz2 : w.heap.size + 1 + 1 < w1.heap.size := by omega)); (try (have hz3 : w.heap.size + 1 + 1 + 1 < w1.heap.size := by omega)); (try (have hz4 : w.heap.size + 1 + 1 + 1 + 1 < w1.heap.size := by omega)))
  go_ret
  exact ⟨rfl, (by repeat (first | with_reducible exact Below.refl _ _ | with_reducible assumption | with_reducible refine Below.drew ?_ | with_reducible refine below_drewN ?_ _ | with_reducible refine Below.alloc ?_ ?_ _ | with_reducible refine Below.setCell ?_ ?_ _ | with_reducible refine Below.trans ?_ (Below.mono (by assumption) ?_) | omega | (simp <;> omega)))⟩

theorem neg_mod (k : Int) (h0 : 0 ≤ k) (h1 : k < 6) : -k % 6 = (6 - k) % 6 := by omega

set_option maxRecDepth 100000 in
theorem reflected1_any (kx ky : Int) (h0 : 0 ≤ kx) (h1 : kx < 6) (h2 : 0 ≤ ky) (h3 : ky < 6) (w : World) :
    Calls Try.prog 68 #[.int .i64 kx, .int .i64 ky] w fun e w' => e = .returned (.tuple #[.int .i64 (-kx % 6), .int .i64 (-ky % 6)]) ∧ w = w' := by
  go_enter Try.func68, Try.ntmps68
  go_wp2_with (go_at_call 69; (with_reducible refine (rest_any _ _).mono ?_); rintro e w1 ⟨rfl, rfl⟩)
  go_ret2
  exact ⟨by simp, rfl⟩

set_option maxRecDepth 100000 in
theorem moved_refl (X : Nat) (hX : Vs X) (w : World) : Calls Try.prog 67 #[.int .u64 (X : Int), .func (.func 68) #[] #[]] w
      fun e w' => e = .returned (.int .u64 ((reflS X : Nat) : Int)) ∧ Below w.heap.size w w' := by
  go_enter Try.func67, Try.ntmps67
  go_wp2
  go_loopw [5, 9] (MovRel X reTo w) (fun _ i _ => 36 - (intOf i).toNat)
  case atStart => exact ⟨0, Nat.zero_le _, rfl, rfl, Below.refl _ _⟩
  case round =>
    obtain ⟨k, hk, rfl, rfl, hbw⟩ := hrel
    by_cases hlt : k < 36
    · have hlt' : (k : Int) < 36 := by omega
      cases hbit : X.testBit k with
      | true =>
        go_wp2_with (first | (go_at_call 77; (with_reducible refine (has_any _ _ (by assumption) (by assumption) _).mono ?_); rintro e w1 ⟨rfl, rfl⟩) | (go_at_call 68; (with_reducible refine (reflected1_any _ _ (by omega) (by omega) (by omega) (by omega) _).mono ?_); rintro e w1 ⟨rfl, rfl⟩))
        go_roundw
        case rel => exact ⟨k + 1, by omega, by go_num, by rw [mov_close X reTo k _ hbit (by intro k hk; unfold reTo; omega) hlt (by unfold reTo; omega)], hbw⟩
        case measure => simp [intOf]; omega
      | false =>
        go_wp2_with (go_at_call 77; (with_reducible refine (has_any _ _ (by assumption) (by assumption) _).mono ?_); rintro e w1 ⟨rfl, rfl⟩)
        go_roundw
        case rel => exact ⟨k + 1, by omega, by go_num, by rw [movN, if_neg (by rw [hbit]; decide)], hbw⟩
        case measure => simp [intOf]; omega
    · have e : k = 36 := by omega
      subst e
      go_wp2
      go_ret
      exact ⟨by rw [← movN_refl X]; rfl, hbw⟩

set_option maxRecDepth 100000 in
theorem reflected_any (X : Nat) (hX : Vs X) (w : World) : Calls Try.prog 44 #[.int .u64 (X : Int)] w fun e w' => e = .returned (.int .u64 ((reflS X : Nat) : Int)) ∧ Below w.heap.size w w' := by
  go_enter Try.func44, Try.ntmps44
  go_wp2_with (go_at_call 67; (with_reducible refine (moved_refl X hX _).mono ?_); rintro e w1 ⟨rfl, hb⟩; obtain ⟨hc, hf, hT, hz⟩ := bfacts hb; (try simp only [World.size_alloc, World.size_setCell, World.size_drew, size_drewN] at hc hf hT hz); (try (have hzA := Nat.lt_of_succ_le hz)); (try (have hl0 : w.heap.size ≤ w1.heap.size := by omega)); (try (have hz0 : w.heap.size < w1.heap.size := by omega)); (try (have hz1 : w.heap.size + 1 < w1.heap.size := by omega)); (try (have hz2 : w.heap.size + 1 + 1 < w1.heap.size := by omega)); (try (have hz3 : w.heap.size + 1 + 1 + 1 < w1.heap.size := by omega)); (try (have hz4 : w.heap.size + 1 + 1 + 1 + 1 < w1.heap.size := by omega)))
  go_ret
  exact ⟨rfl, (by repeat (first | with_reducible exact Below.refl _ _ | with_reducible assumption | with_reducible refine Below.drew ?_ | with_reducible refine below_drewN ?_ _ | with_reducible refine Below.alloc ?_ ?_ _ | with_reducible refine Below.setCell ?_ ?_ _ | with_reducible refine Below.trans ?_ (Below.mono (by assumption) ?_) | omega | (simp <;> omega)))⟩

set_option maxRecDepth 100000 in
theorem l2At_any (X k : Nat) (hk : k < 36) (w : World) : Calls Try.prog 74 #[(.agg #[.int .i64 (row X 0), .int .i64 (row X 1), .int .i64 (row X 2), .int .i64 (row X 3), .int .i64 (row X 4), .int .i64 (row X 5)]), .agg #[.int .i64 ((k : Int) % 6), .int .i64 ((k : Int) / 6)]] w fun e w' => e = .returned (.agg #[.int .i64 (row (pressN X k) 0), .int .i64 (row (pressN X k) 1), .int .i64 (row (pressN X k) 2), .int .i64 (row (pressN X k) 3), .int .i64 (row (pressN X k) 4), .int .i64 (row (pressN X k) 5)]) ∧ Below w.heap.size w w' := by
  have hp : shiftN X (((k : Int) % 6) % 6).toNat (((k : Int) / 6) % 6).toNat = pressN X k := by unfold pressN; congr 1 <;> omega
  generalize hx : (k : Int) % 6 = x at *
  generalize hy : (k : Int) / 6 = y at *
  clear hx hy
  have hsh := l2Shift_any X x y
  rw [hp] at hsh
  have hS := Lib.hid hsh
  clear hsh hp
  go_enter Try.func74, Try.ntmps74
  go_wp2_with (go_at_call 71; (with_reducible refine (hS.out _).mono ?_); rintro e w1 ⟨rfl, hb⟩; obtain ⟨hc, hf, hT, hz⟩ := bfacts hb; (try simp only [World.size_alloc, World.size_setCell, World.size_drew, size_drewN] at hc hf hT hz); (try (have hzA := Nat.lt_of_succ_le hz)); (try (have hl0 : w.heap.size ≤ w1.heap.size := by omega)); (try (have hz0 : w.heap.size < w1.heap.size := by omega)); (try (have hz1 : w.heap.size + 1 < w1.heap.size := by omega)); (try (have hz2 : w.heap.size + 1 + 1 < w1.heap.size := by omega)); (try (have hz3 : w.heap.size + 1 + 1 + 1 < w1.heap.size := by omega)); (try (have hz4 : w.heap.size + 1 + 1 + 1 + 1 < w1.heap.size := by omega)))
  exact bodyPost_ret (v := (.agg #[.int .i64 (row (pressN X k) 0), .int .i64 (row (pressN X k) 1), .int .i64 (row (pressN X k) 2), .int .i64 (row (pressN X k) 3), .int .i64 (row (pressN X k) 4), .int .i64 (row (pressN X k) 5)])) (by simp [results, Try.results74, go_sem, *]) rfl ⟨rfl, (by repeat (first | with_reducible exact Below.refl _ _ | with_reducible assumption | with_reducible refine Below.drew ?_ | with_reducible refine below_drewN ?_ _ | with_reducible refine Below.alloc ?_ ?_ _ | with_reducible refine Below.setCell ?_ ?_ _ | with_reducible refine Below.trans ?_ (Below.mono (by assumption) ?_) | omega | (simp <;> omega)))⟩
end Go.Proofs.Ytphnkkblgbfncaa
