/-
  Contracts of HitSheet, of the program and of the reference. No conditions.
-/
import Derived.Test.YtphnkkblgbfncaaCp
import Derived.BigGuard
namespace Go.Proofs.Ytphnkkblgbfncaa
open Go.RowKit
set_option linter.unusedSimpArgs false
set_option linter.unusedVariables false

/-- whether Y hits X at k and Z misses it -/
def hitP (X Y Z k : Nat) : Bool := decide (pressN Y k &&& X = pressN Y k) && decide (pressN Z k &&& X = 0)
def hitS (X Y Z : Nat) : Nat := mkN (hitP X Y Z) 36
theorem hitS_vs (X Y Z : Nat) : Vs (hitS X Y Z) := mkN_vs _ _ (by omega)
theorem miss_iff (P X : Nat) (hP : Vs P) (hX : Vs X) : (P &&& oth X = P) ↔ (P &&& X = 0) := by
  have key := fun j hj => testBit_mi P X j hX hj
  unfold mi at key
  constructor
  · intro h
    apply eq_of_cells (hP.and X) (by unfold Vs; omega)
    intro j hj
    have h1 := key j hj
    rw [h] at h1
    rw [Nat.testBit_and, Nat.zero_testBit]
    cases e : P.testBit j <;> cases e2 : X.testBit j <;> simp_all
  · intro h
    apply eq_of_cells (hP.and _) hP
    intro j hj
    have h1 := key j hj
    rw [h1]
    have h2 : (P &&& X).testBit j = false := by rw [h, Nat.zero_testBit]
    rw [Nat.testBit_and] at h2
    cases e : P.testBit j <;> cases e2 : X.testBit j <;> simp_all
theorem hit_eq (X Y Z : Nat) (hX : Vs X) : shrinkS X Y &&& shrinkS (oth X) Z = hitS X Y Z := by
  apply eq_of_cells ((shrinkS_vs X Y).and _) (hitS_vs X Y Z)
  intro j hj
  unfold shrinkS hitS
  rw [Nat.testBit_and, testBit_mkN, testBit_mkN, testBit_mkN]
  simp only [hj, decide_true, Bool.true_and, shrinkP, hitP, miss_iff _ X (pressN_vs Z j) hX]

set_option maxRecDepth 100000 in
set_option maxHeartbeats 4000000 in
theorem hit11_any (X Y Z k : Nat) (hX : Vs X) (hY : Vs Y) (hZ : Vs Z) (hk : k < 36) (pa pb pc : Nat) (w : World)
    (ha : w.cell? ⟨pa, 0, none⟩ = some (.int .u64 (Y : Int))) (hb : w.cell? ⟨pb, 0, none⟩ = some (.int .u64 (X : Int))) (hc : w.cell? ⟨pc, 0, none⟩ = some (.int .u64 (Z : Int))) :
    Calls Try.prog 58 #[.int .i64 (k : Int), .pointer (some ⟨pa, 0, none⟩), .pointer (some ⟨pb, 0, none⟩), .pointer (some ⟨pc, 0, none⟩)] w
      fun e w' => e = .returned (.bool (hitP X Y Z k)) ∧ Below w.heap.size w w' := by
  have pa_lt : pa < w.heap.size := World.block_lt_of_cell? w _ ha
  have pb_lt : pb < w.heap.size := World.block_lt_of_cell? w _ hb
  have pc_lt : pc < w.heap.size := World.block_lt_of_cell? w _ hc
  have hxy := mi_u64 (pressN Y k) X (pressN_vs Y k) hX
  have hxz := u64_and_nat (pressN Z k) X (by have := (pressN_vs Z k).lt; omega) (by have := hX.lt; omega)
  have hz0 : (((pressN Z k &&& X : Nat) : Int) == 0) = decide (pressN Z k &&& X = 0) := natCast_beq _ 0
  by_cases hg : pressN Y k &&& X = pressN Y k
  · have hr : (((mi (pressN Y k) X : Nat) : Int) == 0) = true := by rw [mi_beq _ _ (pressN_vs Y k) hX]; simp [hg]
    have hd : hitP X Y Z k = decide (pressN Z k &&& X = 0) := by unfold hitP; simp [hg]
    rw [hd]
    clear hg hd
    go_enter Try.func58, Try.ntmps58
    go_wp2
    go_region_held3 (fun w' => w'.cell? ⟨pa, 0, none⟩ = some (.int .u64 (Y : Int)) ∧ w'.cell? ⟨pb, 0, none⟩ = some (.int .u64 (X : Int)) ∧ w'.cell? ⟨pc, 0, none⟩ = some (.int .u64 (Z : Int))) (simp [*, World.cell?_alloc_some, World.cell?_setCell_far, Nat.ne_of_gt]) (first | (go_at_call 59; (with_reducible refine (pressed_any _ _ (by assumption) hk _).mono ?_); rintro e w1 ⟨rfl, hb⟩; obtain ⟨hc, hf, hT, hz⟩ := bfacts hb; (try simp only [World.size_alloc, World.size_setCell, World.size_drew, size_drewN] at hc hf hT hz); (try (have hzA := Nat.lt_of_succ_le hz)); (try (have hl0 : w.heap.size ≤ w1.heap.size := by omega)); (try (have hz0 : w.heap.size < w1.heap.size := by omega)); (try (have hz1 : w.heap.size + 1 < w1.heap.size := by omega)); (try (have hz2 : w.heap.size + 1 + 1 < w1.heap.size := by omega)); (try (have hz3 : w.heap.size + 1 + 1 + 1 < w1.heap.size := by omega)); (try (have hz4 : w.heap.size + 1 + 1 + 1 + 1 < w1.heap.size := by omega))))
    all_goals
      go_wp2
      go_ret
      exact ⟨by first | rfl | simp [*], (by repeat (first | with_reducible exact Below.refl _ _ | with_reducible assumption | with_reducible refine Below.drew ?_ | with_reducible refine below_drewN ?_ _ | with_reducible refine Below.alloc ?_ ?_ _ | with_reducible refine Below.setCell ?_ ?_ _ | with_reducible refine Below.trans ?_ (Below.mono (by assumption) ?_) | omega | (simp <;> omega)))⟩
  · have hr : (((mi (pressN Y k) X : Nat) : Int) == 0) = false := by rw [mi_beq _ _ (pressN_vs Y k) hX]; simp [hg]
    have hr2 : decide (mi (pressN Y k) X = 0) = false := by rw [← natCast_beq, ← hr]; rfl
    have hr3 : decide (((mi (pressN Y k) X : Nat) : Int) = 0) = false := by rw [← hr2, decide_eq_decide]; omega
    have hd : hitP X Y Z k = false := by unfold hitP; simp [hg]
    rw [hd]
    clear hg hd
    go_enter Try.func58, Try.ntmps58
    go_wp2
    first | (go_region_with (first | (go_at_call 59; (with_reducible refine (pressed_any _ _ (by assumption) hk _).mono ?_); rintro e w1 ⟨rfl, hb⟩; obtain ⟨hc, hf, hT, hz⟩ := bfacts hb; (try simp only [World.size_alloc, World.size_setCell, World.size_drew, size_drewN] at hc hf hT hz); (try (have hzA := Nat.lt_of_succ_le hz)); (try (have hl0 : w.heap.size ≤ w1.heap.size := by omega)); (try (have hz0 : w.heap.size < w1.heap.size := by omega)); (try (have hz1 : w.heap.size + 1 < w1.heap.size := by omega)); (try (have hz2 : w.heap.size + 1 + 1 < w1.heap.size := by omega)); (try (have hz3 : w.heap.size + 1 + 1 + 1 < w1.heap.size := by omega)); (try (have hz4 : w.heap.size + 1 + 1 + 1 + 1 < w1.heap.size := by omega))))) | fail
    all_goals
      go_wp2
      go_ret
      exact ⟨by first | rfl | simp [*], (by repeat (first | with_reducible exact Below.refl _ _ | with_reducible assumption | with_reducible refine Below.drew ?_ | with_reducible refine below_drewN ?_ _ | with_reducible refine Below.alloc ?_ ?_ _ | with_reducible refine Below.setCell ?_ ?_ _ | with_reducible refine Below.trans ?_ (Below.mono (by assumption) ?_) | omega | (simp <;> omega)))⟩

set_option maxRecDepth 100000 in
theorem where_hit (X Y Z : Nat) (hX : Vs X) (hY : Vs Y) (hZ : Vs Z) (pa pb pc : Nat) (w : World)
    (ha : w.cell? ⟨pa, 0, none⟩ = some (.int .u64 (Y : Int))) (hb : w.cell? ⟨pb, 0, none⟩ = some (.int .u64 (X : Int))) (hc : w.cell? ⟨pc, 0, none⟩ = some (.int .u64 (Z : Int))) :
    Calls Try.prog 57 #[.func (.func 58) #[] #[.pointer (some ⟨pa, 0, none⟩), .pointer (some ⟨pb, 0, none⟩), .pointer (some ⟨pc, 0, none⟩)]] w
      fun e w' => e = .returned (.int .u64 ((hitS X Y Z : Nat) : Int)) ∧ Below w.heap.size w w' := by
  have pa_lt : pa < w.heap.size := World.block_lt_of_cell? w _ ha
  have pb_lt : pb < w.heap.size := World.block_lt_of_cell? w _ hb
  have pc_lt : pc < w.heap.size := World.block_lt_of_cell? w _ hc
  have hA := Lib.hid ha
  have hB := Lib.hid hb
  have hC := Lib.hid hc
  clear ha hb hc
  go_enter Try.func57, Try.ntmps57
  go_wp2
  go_loopw [3, 5] (WhRel (hitP X Y Z) w) (fun _ i _ => 36 - (intOf i).toNat)
  case atStart => exact ⟨0, Nat.zero_le _, rfl, rfl, Below.refl _ _⟩
  case round =>
    obtain ⟨k, hk, rfl, rfl, hbw⟩ := hrel
    by_cases hlt : k < 36
    · have hlt' : (k : Int) < 36 := by omega
      have hA1 : wr.cell? ⟨pa, 0, none⟩ = some (.int .u64 (Y : Int)) := (hbw.cell (p := ⟨pa, 0, none⟩) pa_lt).trans hA.out
      have hB1 : wr.cell? ⟨pb, 0, none⟩ = some (.int .u64 (X : Int)) := (hbw.cell (p := ⟨pb, 0, none⟩) pb_lt).trans hB.out
      have hC1 : wr.cell? ⟨pc, 0, none⟩ = some (.int .u64 (Z : Int)) := (hbw.cell (p := ⟨pc, 0, none⟩) pc_lt).trans hC.out
      cases hbit : hitP X Y Z k with
      | true =>
        go_wp2_with (go_at_call 58; (with_reducible refine (hit11_any _ _ _ _ hX hY hZ hlt _ _ _ _ (by assumption) (by assumption) (by assumption)).mono ?_); rintro e w1 ⟨rfl, hb⟩; obtain ⟨hc, hf, hT, hz⟩ := bfacts hb; (try simp only [World.size_alloc, World.size_setCell, World.size_drew, size_drewN] at hc hf hT hz); (try (have hzA := Nat.lt_of_succ_le hz)); (try (have hl0 : w.heap.size ≤ w1.heap.size := by omega)); (try (have hz0 : w.heap.size < w1.heap.size := by omega)); (try (have hz1 : w.heap.size + 1 < w1.heap.size := by omega)); (try (have hz2 : w.heap.size + 1 + 1 < w1.heap.size := by omega)); (try (have hz3 : w.heap.size + 1 + 1 + 1 < w1.heap.size := by omega)); (try (have hz4 : w.heap.size + 1 + 1 + 1 + 1 < w1.heap.size := by omega)))
        go_roundw
        case rel => exact ⟨k + 1, by omega, by go_num, by rw [mkN_step _ k hbit hlt], hbw.trans (hb.mono hbw.size)⟩
        case measure => simp [intOf]; omega
      | false =>
        go_wp2_with (go_at_call 58; (with_reducible refine (hit11_any _ _ _ _ hX hY hZ hlt _ _ _ _ (by assumption) (by assumption) (by assumption)).mono ?_); rintro e w1 ⟨rfl, hb⟩; obtain ⟨hc, hf, hT, hz⟩ := bfacts hb; (try simp only [World.size_alloc, World.size_setCell, World.size_drew, size_drewN] at hc hf hT hz); (try (have hzA := Nat.lt_of_succ_le hz)); (try (have hl0 : w.heap.size ≤ w1.heap.size := by omega)); (try (have hz0 : w.heap.size < w1.heap.size := by omega)); (try (have hz1 : w.heap.size + 1 < w1.heap.size := by omega)); (try (have hz2 : w.heap.size + 1 + 1 < w1.heap.size := by omega)); (try (have hz3 : w.heap.size + 1 + 1 + 1 < w1.heap.size := by omega)); (try (have hz4 : w.heap.size + 1 + 1 + 1 + 1 < w1.heap.size := by omega)))
        go_roundw
        case rel => exact ⟨k + 1, by omega, by go_num, by rw [mkN_skip _ k hbit], hbw.trans (hb.mono hbw.size)⟩
        case measure => simp [intOf]; omega
    · have e : k = 36 := by omega
      subst e
      go_wp2
      go_ret
      exact ⟨rfl, hbw⟩

set_option maxRecDepth 100000 in
theorem hit1_any (X Y Z : Nat) (hX : Vs X) (hY : Vs Y) (hZ : Vs Z) (pc : Nat) (w : World) (hc : w.cell? ⟨pc, 0, none⟩ = some (.int .u64 (Z : Int))) :
    Calls Try.prog 56 #[.int .u64 (X : Int), .int .u64 (Y : Int), .pointer (some ⟨pc, 0, none⟩)] w fun e w' => e = .returned (.int .u64 ((hitS X Y Z : Nat) : Int)) ∧ Below w.heap.size w w' := by
  have pc_lt : pc < w.heap.size := World.block_lt_of_cell? w _ hc
  have hmf : ∀ (fn : Fn) (first cap : Array Value) (w : World), (Instr.makeFunc fn first cap).run Try.prog w = .ok (.func fn first cap) w := fun _ _ _ _ => rfl
  go_enter Try.func56, Try.ntmps56
  go_wp2_with (go_at_call 57; (with_reducible refine (where_hit X Y Z hX hY hZ _ _ _ _ (by simp [go_sem]) (by simp [go_sem]) (by simp [*, go_sem, World.cell?_alloc_lt])).mono ?_); rintro e w1 ⟨rfl, hb⟩; obtain ⟨hc, hf, hT, hz⟩ := bfacts hb; (try simp only [World.size_alloc, World.size_setCell, World.size_drew, size_drewN] at hc hf hT hz); (try (have hzA := Nat.lt_of_succ_le hz)); (try (have hl0 : w.heap.size ≤ w1.heap.size := by omega)); (try (have hz0 : w.heap.size < w1.heap.size := by omega)); (try (have hz1 : w.heap.size + 1 < w1.heap.size := by omega)); (try (have hz2 : w.heap.size + 1 + 1 < w1.heap.size := by omega)); (try (have hz3 : w.heap.size + 1 + 1 + 1 < w1.heap.size := by omega)); (try (have hz4 : w.heap.size + 1 + 1 + 1 + 1 < w1.heap.size := by omega)))
  go_ret
  exact ⟨rfl, (by repeat (first | with_reducible exact Below.refl _ _ | with_reducible assumption | with_reducible refine Below.drew ?_ | with_reducible refine below_drewN ?_ _ | with_reducible refine Below.alloc ?_ ?_ _ | with_reducible refine Below.setCell ?_ ?_ _ | with_reducible refine Below.trans ?_ (Below.mono (by assumption) ?_) | omega | (simp <;> omega)))⟩
set_option maxRecDepth 100000 in
theorem ofTwo_hit (X Y Z : Nat) (hX : Vs X) (hY : Vs Y) (hZ : Vs Z) (pa : Nat) (w : World) (ha : w.cell? ⟨pa, 0, none⟩ = some (.int .u64 (Z : Int))) :
    Calls Try.prog 48 #[(.agg #[.int .i64 (row X 0), .int .i64 (row X 1), .int .i64 (row X 2), .int .i64 (row X 3), .int .i64 (row X 4), .int .i64 (row X 5)]), (.agg #[.int .i64 (row Y 0), .int .i64 (row Y 1), .int .i64 (row Y 2), .int .i64 (row Y 3), .int .i64 (row Y 4), .int .i64 (row Y 5)]), .func (.func 56) #[] #[.pointer (some ⟨pa, 0, none⟩)]] w fun e w' => e = .returned (.tuple #[(.agg #[.int .i64 (row (hitS X Y Z) 0), .int .i64 (row (hitS X Y Z) 1), .int .i64 (row (hitS X Y Z) 2), .int .i64 (row (hitS X Y Z) 3), .int .i64 (row (hitS X Y Z) 4), .int .i64 (row (hitS X Y Z) 5)]), .bool true]) ∧ Below w.heap.size w w' := by
  have hv := hitS_vs X Y Z
  have pa_lt : pa < w.heap.size := World.block_lt_of_cell? w _ ha
  have pa_l1 : pa < w.heap.size + 1 := by omega
  have pa_l2 : pa < w.heap.size + 1 + 1 := by omega
  have pa_l3 : pa < w.heap.size + 1 + 1 + 1 := by omega
  go_enter Try.func48, Try.ntmps48
  go_wp2_with (first | (go_at_call 52; (with_reducible refine (twoSets_ok _ _ (by assumption) (by assumption) _).mono ?_); rintro e w1 ⟨rfl, hb⟩; obtain ⟨hc, hf, hT, hz⟩ := bfacts hb; (try simp only [World.size_alloc, World.size_setCell, World.size_drew, size_drewN] at hc hf hT hz); (try (have hzA := Nat.lt_of_succ_le hz)); (try (have hl0 : w.heap.size ≤ w1.heap.size := by omega)); (try (have hz0 : w.heap.size < w1.heap.size := by omega)); (try (have hz1 : w.heap.size + 1 < w1.heap.size := by omega)); (try (have hz2 : w.heap.size + 1 + 1 < w1.heap.size := by omega)); (try (have hz3 : w.heap.size + 1 + 1 + 1 < w1.heap.size := by omega)); (try (have hz4 : w.heap.size + 1 + 1 + 1 + 1 < w1.heap.size := by omega))) | (go_at_call 56; (with_reducible refine (hit1_any _ _ _ (by assumption) (by assumption) hZ _ _ (by simp [*, World.cell?_alloc_lt])).mono ?_); rintro e w1 ⟨rfl, hb⟩; obtain ⟨hc, hf, hT, hz⟩ := bfacts hb; (try simp only [World.size_alloc, World.size_setCell, World.size_drew, size_drewN] at hc hf hT hz); (try (have hzA := Nat.lt_of_succ_le hz)); (try (have hl0 : w.heap.size ≤ w1.heap.size := by omega)); (try (have hz0 : w.heap.size < w1.heap.size := by omega)); (try (have hz1 : w.heap.size + 1 < w1.heap.size := by omega)); (try (have hz2 : w.heap.size + 1 + 1 < w1.heap.size := by omega)); (try (have hz3 : w.heap.size + 1 + 1 + 1 < w1.heap.size := by omega)); (try (have hz4 : w.heap.size + 1 + 1 + 1 + 1 < w1.heap.size := by omega))) | (go_at_call 45; (with_reducible refine (sheet_any _ (by assumption) _).mono ?_); rintro e w1 ⟨rfl, hb⟩; obtain ⟨hc, hf, hT, hz⟩ := bfacts hb; (try simp only [World.size_alloc, World.size_setCell, World.size_drew, size_drewN] at hc hf hT hz); (try (have hzA := Nat.lt_of_succ_le hz)); (try (have hl0 : w.heap.size ≤ w1.heap.size := by omega)); (try (have hz0 : w.heap.size < w1.heap.size := by omega)); (try (have hz1 : w.heap.size + 1 < w1.heap.size := by omega)); (try (have hz2 : w.heap.size + 1 + 1 < w1.heap.size := by omega)); (try (have hz3 : w.heap.size + 1 + 1 + 1 < w1.heap.size := by omega)); (try (have hz4 : w.heap.size + 1 + 1 + 1 + 1 < w1.heap.size := by omega))))
  exact bodyPost_ret (v := .tuple #[(.agg #[.int .i64 (row (hitS X Y Z) 0), .int .i64 (row (hitS X Y Z) 1), .int .i64 (row (hitS X Y Z) 2), .int .i64 (row (hitS X Y Z) 3), .int .i64 (row (hitS X Y Z) 4), .int .i64 (row (hitS X Y Z) 5)]), .bool true]) (by simp [results, Try.results48, go_sem, *]) rfl ⟨rfl, (by repeat (first | with_reducible exact Below.refl _ _ | with_reducible assumption | with_reducible refine Below.drew ?_ | with_reducible refine below_drewN ?_ _ | with_reducible refine Below.alloc ?_ ?_ _ | with_reducible refine Below.setCell ?_ ?_ _ | with_reducible refine Below.trans ?_ (Below.mono (by assumption) ?_) | omega | (simp <;> omega)))⟩

set_option maxRecDepth 100000 in
theorem implHitSheet_ok (X Y Z : Nat) (hX : Vs X) (hY : Vs Y) (hZ : Vs Z) (w : World) : Calls Try.prog 29 #[(.agg #[.int .i64 (row X 0), .int .i64 (row X 1), .int .i64 (row X 2), .int .i64 (row X 3), .int .i64 (row X 4), .int .i64 (row X 5)]), (.agg #[.int .i64 (row Y 0), .int .i64 (row Y 1), .int .i64 (row Y 2), .int .i64 (row Y 3), .int .i64 (row Y 4), .int .i64 (row Y 5)]), (.agg #[.int .i64 (row Z 0), .int .i64 (row Z 1), .int .i64 (row Z 2), .int .i64 (row Z 3), .int .i64 (row Z 4), .int .i64 (row Z 5)])] w fun e w' => e = .returned (.tuple #[(.agg #[.int .i64 (row (hitS X Y Z) 0), .int .i64 (row (hitS X Y Z) 1), .int .i64 (row (hitS X Y Z) 2), .int .i64 (row (hitS X Y Z) 3), .int .i64 (row (hitS X Y Z) 4), .int .i64 (row (hitS X Y Z) 5)]), .bool true]) ∧ Below w.heap.size w w' := by
  have hmf : ∀ (fn : Fn) (first cap : Array Value) (w : World), (Instr.makeFunc fn first cap).run Try.prog w = .ok (.func fn first cap) w := fun _ _ _ _ => rfl
  go_enter Try.func29, Try.ntmps29
  go_wp2_with (first | (go_at_call 43; (with_reducible refine (setOf_ok _ (by assumption) _).mono ?_); rintro e w1 ⟨rfl, hb⟩; obtain ⟨hc, hf, hT, hz⟩ := bfacts hb; (try simp only [World.size_alloc, World.size_setCell, World.size_drew, size_drewN] at hc hf hT hz); (try (have hzA := Nat.lt_of_succ_le hz)); (try (have hl0 : w.heap.size ≤ w1.heap.size := by omega)); (try (have hz0 : w.heap.size < w1.heap.size := by omega)); (try (have hz1 : w.heap.size + 1 < w1.heap.size := by omega)); (try (have hz2 : w.heap.size + 1 + 1 < w1.heap.size := by omega)); (try (have hz3 : w.heap.size + 1 + 1 + 1 < w1.heap.size := by omega)); (try (have hz4 : w.heap.size + 1 + 1 + 1 + 1 < w1.heap.size := by omega))) | (go_at_call 48; (with_reducible refine (ofTwo_hit X Y Z hX hY hZ _ _ (by simp [go_sem])).mono ?_); rintro e w1 ⟨rfl, hb⟩; obtain ⟨hc, hf, hT, hz⟩ := bfacts hb; (try simp only [World.size_alloc, World.size_setCell, World.size_drew, size_drewN] at hc hf hT hz); (try (have hzA := Nat.lt_of_succ_le hz)); (try (have hl0 : w.heap.size ≤ w1.heap.size := by omega)); (try (have hz0 : w.heap.size < w1.heap.size := by omega)); (try (have hz1 : w.heap.size + 1 < w1.heap.size := by omega)); (try (have hz2 : w.heap.size + 1 + 1 < w1.heap.size := by omega)); (try (have hz3 : w.heap.size + 1 + 1 + 1 < w1.heap.size := by omega)); (try (have hz4 : w.heap.size + 1 + 1 + 1 + 1 < w1.heap.size := by omega))))
  all_goals
    exact bodyPost_ret (v := .tuple #[(.agg #[.int .i64 (row (hitS X Y Z) 0), .int .i64 (row (hitS X Y Z) 1), .int .i64 (row (hitS X Y Z) 2), .int .i64 (row (hitS X Y Z) 3), .int .i64 (row (hitS X Y Z) 4), .int .i64 (row (hitS X Y Z) 5)]), .bool true]) (by simp [results, Try.results29, go_sem, *]) rfl ⟨rfl, (by repeat (first | with_reducible exact Below.refl _ _ | with_reducible assumption | with_reducible refine Below.drew ?_ | with_reducible refine below_drewN ?_ _ | with_reducible refine Below.alloc ?_ ?_ _ | with_reducible refine Below.setCell ?_ ?_ _ | with_reducible refine Below.trans ?_ (Below.mono (by assumption) ?_) | omega | (simp <;> omega)))⟩

set_option maxRecDepth 100000 in
theorem implHitSheet_no3 (a0 a1 a2 a3 a4 a5 b0 b1 b2 b3 b4 b5 c0 c1 c2 c3 c4 c5 : Int) (hn : ¬ Ok6 c0 c1 c2 c3 c4 c5) (w : World) : Calls Try.prog 29 #[(.agg #[.int .i64 a0, .int .i64 a1, .int .i64 a2, .int .i64 a3, .int .i64 a4, .int .i64 a5]), (.agg #[.int .i64 b0, .int .i64 b1, .int .i64 b2, .int .i64 b3, .int .i64 b4, .int .i64 b5]), (.agg #[.int .i64 c0, .int .i64 c1, .int .i64 c2, .int .i64 c3, .int .i64 c4, .int .i64 c5])] w fun e w' => e = .returned (.tuple #[.agg #[.int .i64 0, .int .i64 0, .int .i64 0, .int .i64 0, .int .i64 0, .int .i64 0], .bool false]) ∧ Below w.heap.size w w' := by
  go_enter Try.func29, Try.ntmps29
  go_wp2_with (go_at_call 43; (with_reducible refine (setOf_no _ _ _ _ _ _ (by assumption) _).mono ?_); rintro e w1 ⟨rfl, hb⟩; obtain ⟨hc, hf, hT, hz⟩ := bfacts hb; (try simp only [World.size_alloc, World.size_setCell, World.size_drew, size_drewN] at hc hf hT hz); (try (have hzA := Nat.lt_of_succ_le hz)); (try (have hl0 : w.heap.size ≤ w1.heap.size := by omega)); (try (have hz0 : w.heap.size < w1.heap.size := by omega)); (try (have hz1 : w.heap.size + 1 < w1.heap.size := by omega)); (try (have hz2 : w.heap.size + 1 + 1 < w1.heap.size := by omega)); (try (have hz3 : w.heap.size + 1 + 1 + 1 < w1.heap.size := by omega)); (try (have hz4 : w.heap.size + 1 + 1 + 1 + 1 < w1.heap.size := by omega)))
  all_goals
    exact bodyPost_ret (v := .tuple #[.agg #[.int .i64 0, .int .i64 0, .int .i64 0, .int .i64 0, .int .i64 0, .int .i64 0], .bool false]) (by simp [results, Try.results29, go_sem, *]) rfl ⟨rfl, (by repeat (first | with_reducible exact Below.refl _ _ | with_reducible assumption | with_reducible refine Below.drew ?_ | with_reducible refine below_drewN ?_ _ | with_reducible refine Below.alloc ?_ ?_ _ | with_reducible refine Below.setCell ?_ ?_ _ | with_reducible refine Below.trans ?_ (Below.mono (by assumption) ?_) | omega | (simp <;> omega)))⟩

set_option maxRecDepth 100000 in
theorem implHitSheet_no2 (a0 a1 a2 a3 a4 a5 b0 b1 b2 b3 b4 b5 : Int) (Z : Nat) (hZ : Vs Z) (hn : ¬ (Ok6 a0 a1 a2 a3 a4 a5 ∧ Ok6 b0 b1 b2 b3 b4 b5)) (w : World) : Calls Try.prog 29 #[(.agg #[.int .i64 a0, .int .i64 a1, .int .i64 a2, .int .i64 a3, .int .i64 a4, .int .i64 a5]), (.agg #[.int .i64 b0, .int .i64 b1, .int .i64 b2, .int .i64 b3, .int .i64 b4, .int .i64 b5]), (.agg #[.int .i64 (row Z 0), .int .i64 (row Z 1), .int .i64 (row Z 2), .int .i64 (row Z 3), .int .i64 (row Z 4), .int .i64 (row Z 5)])] w fun e w' => e = .returned (.tuple #[.agg #[.int .i64 0, .int .i64 0, .int .i64 0, .int .i64 0, .int .i64 0, .int .i64 0], .bool false]) ∧ Below w.heap.size w w' := by
  have hmf : ∀ (fn : Fn) (first cap : Array Value) (w : World), (Instr.makeFunc fn first cap).run Try.prog w = .ok (.func fn first cap) w := fun _ _ _ _ => rfl
  go_enter Try.func29, Try.ntmps29
  go_wp2_with (first | (go_at_call 43; (with_reducible refine (setOf_ok _ (by assumption) _).mono ?_); rintro e w1 ⟨rfl, hb⟩; obtain ⟨hc, hf, hT, hz⟩ := bfacts hb; (try simp only [World.size_alloc, World.size_setCell, World.size_drew, size_drewN] at hc hf hT hz); (try (have hzA := Nat.lt_of_succ_le hz)); (try (have hl0 : w.heap.size ≤ w1.heap.size := by omega)); (try (have hz0 : w.heap.size < w1.heap.size := by omega)); (try (have hz1 : w.heap.size + 1 < w1.heap.size := by omega)); (try (have hz2 : w.heap.size + 1 + 1 < w1.heap.size := by omega)); (try (have hz3 : w.heap.size + 1 + 1 + 1 < w1.heap.size := by omega)); (try (have hz4 : w.heap.size + 1 + 1 + 1 + 1 < w1.heap.size := by omega))) | (go_at_call 48; (with_reducible refine (ofTwo_no _ _ _ _ _ _ _ _ _ _ _ _ _ (by assumption) _).mono ?_); rintro e w1 ⟨rfl, hb⟩; obtain ⟨hc, hf, hT, hz⟩ := bfacts hb; (try simp only [World.size_alloc, World.size_setCell, World.size_drew, size_drewN] at hc hf hT hz); (try (have hzA := Nat.lt_of_succ_le hz)); (try (have hl0 : w.heap.size ≤ w1.heap.size := by omega)); (try (have hz0 : w.heap.size < w1.heap.size := by omega)); (try (have hz1 : w.heap.size + 1 < w1.heap.size := by omega)); (try (have hz2 : w.heap.size + 1 + 1 < w1.heap.size := by omega)); (try (have hz3 : w.heap.size + 1 + 1 + 1 < w1.heap.size := by omega)); (try (have hz4 : w.heap.size + 1 + 1 + 1 + 1 < w1.heap.size := by omega))))
  all_goals
    exact bodyPost_ret (v := .tuple #[.agg #[.int .i64 0, .int .i64 0, .int .i64 0, .int .i64 0, .int .i64 0, .int .i64 0], .bool false]) (by simp [results, Try.results29, go_sem, *]) rfl ⟨rfl, (by repeat (first | with_reducible exact Below.refl _ _ | with_reducible assumption | with_reducible refine Below.drew ?_ | with_reducible refine below_drewN ?_ _ | with_reducible refine Below.alloc ?_ ?_ _ | with_reducible refine Below.setCell ?_ ?_ _ | with_reducible refine Below.trans ?_ (Below.mono (by assumption) ?_) | omega | (simp <;> omega)))⟩

def Ok63 (a0 a1 a2 a3 a4 a5 b0 b1 b2 b3 b4 b5 c0 c1 c2 c3 c4 c5 : Int) : Prop := (Ok6 a0 a1 a2 a3 a4 a5 ∧ Ok6 b0 b1 b2 b3 b4 b5) ∧ Ok6 c0 c1 c2 c3 c4 c5
theorem implHitSheet_no (a0 a1 a2 a3 a4 a5 b0 b1 b2 b3 b4 b5 c0 c1 c2 c3 c4 c5 : Int) (hn : ¬ Ok63 a0 a1 a2 a3 a4 a5 b0 b1 b2 b3 b4 b5 c0 c1 c2 c3 c4 c5) (w : World) : Calls Try.prog 29 #[(.agg #[.int .i64 a0, .int .i64 a1, .int .i64 a2, .int .i64 a3, .int .i64 a4, .int .i64 a5]), (.agg #[.int .i64 b0, .int .i64 b1, .int .i64 b2, .int .i64 b3, .int .i64 b4, .int .i64 b5]), (.agg #[.int .i64 c0, .int .i64 c1, .int .i64 c2, .int .i64 c3, .int .i64 c4, .int .i64 c5])] w fun e w' => e = .returned (.tuple #[.agg #[.int .i64 0, .int .i64 0, .int .i64 0, .int .i64 0, .int .i64 0, .int .i64 0], .bool false]) ∧ Below w.heap.size w w' := by
  by_cases hc : Ok6 c0 c1 c2 c3 c4 c5
  · have hab : ¬ (Ok6 a0 a1 a2 a3 a4 a5 ∧ Ok6 b0 b1 b2 b3 b4 b5) := fun h => hn ⟨h, hc⟩
    clear hn
    obtain ⟨Z, hZ, rfl, rfl, rfl, rfl, rfl, rfl⟩ := set_of_rows c0 c1 c2 c3 c4 c5 hc.1 hc.2.1 hc.2.2.1 hc.2.2.2.1 hc.2.2.2.2.1 hc.2.2.2.2.2
    exact implHitSheet_no2 _ _ _ _ _ _ _ _ _ _ _ _ Z hZ hab w
  · exact implHitSheet_no3 _ _ _ _ _ _ _ _ _ _ _ _ _ _ _ _ _ _ hc w

set_option maxRecDepth 100000 in
set_option maxHeartbeats 1600000 in
theorem specHitSheet_ok (X Y Z : Nat) (hX : Vs X) (hY : Vs Y) (hZ : Vs Z) (w : World) : Calls Try.prog 28 #[(.agg #[.int .i64 (row X 0), .int .i64 (row X 1), .int .i64 (row X 2), .int .i64 (row X 3), .int .i64 (row X 4), .int .i64 (row X 5)]), (.agg #[.int .i64 (row Y 0), .int .i64 (row Y 1), .int .i64 (row Y 2), .int .i64 (row Y 3), .int .i64 (row Y 4), .int .i64 (row Y 5)]), (.agg #[.int .i64 (row Z 0), .int .i64 (row Z 1), .int .i64 (row Z 2), .int .i64 (row Z 3), .int .i64 (row Z 4), .int .i64 (row Z 5)])] w fun e w' => e = .returned (.tuple #[(.agg #[.int .i64 (row (hitS X Y Z) 0), .int .i64 (row (hitS X Y Z) 1), .int .i64 (row (hitS X Y Z) 2), .int .i64 (row (hitS X Y Z) 3), .int .i64 (row (hitS X Y Z) 4), .int .i64 (row (hitS X Y Z) 5)]), .bool true]) ∧ Below w.heap.size w w' := by
  have hv := shrinkS_vs X Y
  have hO := oth_vs X
  have he := hit_eq X Y Z hX
  go_enter Try.func28, Try.ntmps28
  go_wp2_with (go_at_call 38; (with_reducible refine (l2Sheet_ok _ _).mono ?_); rintro e w1 ⟨rfl, hb⟩; obtain ⟨hc, hf, hT, hz⟩ := bfacts hb; (try simp only [World.size_alloc, World.size_setCell, World.size_drew, size_drewN] at hc hf hT hz); (try (have hzA := Nat.lt_of_succ_le hz)); (try (have hl0 : w.heap.size ≤ w1.heap.size := by omega)); (try (have hz0 : w.heap.size < w1.heap.size := by omega)); (try (have hz1 : w.heap.size + 1 < w1.heap.size := by omega)); (try (have hz2 : w.heap.size + 1 + 1 < w1.heap.size := by omega)); (try (have hz3 : w.heap.size + 1 + 1 + 1 < w1.heap.size := by omega)); (try (have hz4 : w.heap.size + 1 + 1 + 1 + 1 < w1.heap.size := by omega)))
  have hZ2 : HoldsA w1 25 (w.heap.size + 1 + 1) (row Z 0) (row Z 1) (row Z 2) (row Z 3) (row Z 4) (row Z 5) := by (repeat (first | with_reducible assumption | (with_reducible refine HoldsA.made' ?_; (simp; done)) | with_reducible refine HoldsA.alloc ?_ _ | with_reducible refine HoldsA.drew ?_ | with_reducible refine HoldsA.drewN ?_ _ | (with_reducible refine HoldsA.far ?_ _ _ (by first | (simp; done) | (simp; omega))) | (with_reducible refine HoldsA.below ?_ (by with_reducible assumption) (by first | (simp; done) | (simp; omega) | omega))))
  have hZ1 : HoldsA w1 25 (w.heap.size + 1) (row Y 0) (row Y 1) (row Y 2) (row Y 3) (row Y 4) (row Y 5) := by (repeat (first | with_reducible assumption | (with_reducible refine HoldsA.made' ?_; (simp; done)) | with_reducible refine HoldsA.alloc ?_ _ | with_reducible refine HoldsA.drew ?_ | with_reducible refine HoldsA.drewN ?_ _ | (with_reducible refine HoldsA.far ?_ _ _ (by first | (simp; done) | (simp; omega))) | (with_reducible refine HoldsA.below ?_ (by with_reducible assumption) (by first | (simp; done) | (simp; omega) | omega))))
  have hZ0 : HoldsA w1 25 (w.heap.size) (row X 0) (row X 1) (row X 2) (row X 3) (row X 4) (row X 5) := by (repeat (first | with_reducible assumption | (with_reducible refine HoldsA.made' ?_; (simp; done)) | with_reducible refine HoldsA.alloc ?_ _ | with_reducible refine HoldsA.drew ?_ | with_reducible refine HoldsA.drewN ?_ _ | (with_reducible refine HoldsA.far ?_ _ _ (by first | (simp; done) | (simp; omega))) | (with_reducible refine HoldsA.below ?_ (by with_reducible assumption) (by first | (simp; done) | (simp; omega) | omega))))
  have hZ3 : HoldsA w1 25 (w.heap.size + 1 + 1 + 1) 0 0 0 0 0 0 := by (repeat (first | with_reducible assumption | (with_reducible refine HoldsA.made' ?_; (simp; done)) | with_reducible refine HoldsA.alloc ?_ _ | with_reducible refine HoldsA.drew ?_ | with_reducible refine HoldsA.drewN ?_ _ | (with_reducible refine HoldsA.far ?_ _ _ (by first | (simp; done) | (simp; omega))) | (with_reducible refine HoldsA.below ?_ (by with_reducible assumption) (by first | (simp; done) | (simp; omega) | omega))))
  have ht0 := hZ3.c0
  have ht1 := hZ3.c1
  have ht2 := hZ3.c2
  have ht3 := hZ3.c3
  have ht4 := hZ3.c4
  have ht5 := hZ3.c5
  have htf := hZ3.free
  have hq0 := hZ2.c0
  have hq1 := hZ2.c1
  have hq2 := hZ2.c2
  have hq3 := hZ2.c3
  have hq4 := hZ2.c4
  have hq5 := hZ2.c5
  have hqf := hZ2.free
  have hs0 := hZ1.c0
  have hs1 := hZ1.c1
  have hs2 := hZ1.c2
  have hs3 := hZ1.c3
  have hs4 := hZ1.c4
  have hs5 := hZ1.c5
  have hsf := hZ1.free
  have hr0 := hZ0.c0
  have hr1 := hZ0.c1
  have hr2 := hZ0.c2
  have hr3 := hZ0.c3
  have hr4 := hZ0.c4
  have hr5 := hZ0.c5
  have hrf := hZ0.free
  clear hc
  go_region_held3 (fun w' => w'.cell? ⟨w.heap.size, 0, none⟩ = some (.int .i64 (row X 0)) ∧ w'.cell? ⟨w.heap.size, 1, none⟩ = some (.int .i64 (row X 1)) ∧ w'.cell? ⟨w.heap.size, 2, none⟩ = some (.int .i64 (row X 2)) ∧ w'.cell? ⟨w.heap.size, 3, none⟩ = some (.int .i64 (row X 3)) ∧ w'.cell? ⟨w.heap.size, 4, none⟩ = some (.int .i64 (row X 4)) ∧ w'.cell? ⟨w.heap.size, 5, none⟩ = some (.int .i64 (row X 5)) ∧ w'.cell? ⟨w.heap.size + 1, 0, none⟩ = some (.int .i64 (row Y 0)) ∧ w'.cell? ⟨w.heap.size + 1, 1, none⟩ = some (.int .i64 (row Y 1)) ∧ w'.cell? ⟨w.heap.size + 1, 2, none⟩ = some (.int .i64 (row Y 2)) ∧ w'.cell? ⟨w.heap.size + 1, 3, none⟩ = some (.int .i64 (row Y 3)) ∧ w'.cell? ⟨w.heap.size + 1, 4, none⟩ = some (.int .i64 (row Y 4)) ∧ w'.cell? ⟨w.heap.size + 1, 5, none⟩ = some (.int .i64 (row Y 5)) ∧ w'.cell? ⟨w.heap.size + 1 + 1, 0, none⟩ = some (.int .i64 (row Z 0)) ∧ w'.cell? ⟨w.heap.size + 1 + 1, 1, none⟩ = some (.int .i64 (row Z 1)) ∧ w'.cell? ⟨w.heap.size + 1 + 1, 2, none⟩ = some (.int .i64 (row Z 2)) ∧ w'.cell? ⟨w.heap.size + 1 + 1, 3, none⟩ = some (.int .i64 (row Z 3)) ∧ w'.cell? ⟨w.heap.size + 1 + 1, 4, none⟩ = some (.int .i64 (row Z 4)) ∧ w'.cell? ⟨w.heap.size + 1 + 1, 5, none⟩ = some (.int .i64 (row Z 5))) (simp [*, World.cell?_alloc_some, World.cell?_setCell_far, Nat.ne_of_gt]) (first | (go_at_call 47; (with_reducible refine (l5Shrink_any _ _ (by assumption) (by assumption) _).mono ?_); rintro e w1 ⟨rfl, hb⟩; obtain ⟨hc, hf, hT, hz⟩ := bfacts hb; (try simp only [World.size_alloc, World.size_setCell, World.size_drew, size_drewN] at hc hf hT hz); (try (have hzA := Nat.lt_of_succ_le hz)); (try (have hl0 : w.heap.size ≤ w1.heap.size := by omega)); (try (have hz0 : w.heap.size < w1.heap.size := by omega)); (try (have hz1 : w.heap.size + 1 < w1.heap.size := by omega)); (try (have hz2 : w.heap.size + 1 + 1 < w1.heap.size := by omega)); (try (have hz3 : w.heap.size + 1 + 1 + 1 < w1.heap.size := by omega)); (try (have hz4 : w.heap.size + 1 + 1 + 1 + 1 < w1.heap.size := by omega))) | (go_at_call 50; (with_reducible refine (l2Not_any _ (by assumption) _).mono ?_); rintro e w1 ⟨rfl, hb⟩; obtain ⟨hc, hf, hT, hz⟩ := bfacts hb; (try simp only [World.size_alloc, World.size_setCell, World.size_drew, size_drewN] at hc hf hT hz); (try (have hzA := Nat.lt_of_succ_le hz)); (try (have hl0 : w.heap.size ≤ w1.heap.size := by omega)); (try (have hz0 : w.heap.size < w1.heap.size := by omega)); (try (have hz1 : w.heap.size + 1 < w1.heap.size := by omega)); (try (have hz2 : w.heap.size + 1 + 1 < w1.heap.size := by omega)); (try (have hz3 : w.heap.size + 1 + 1 + 1 < w1.heap.size := by omega)); (try (have hz4 : w.heap.size + 1 + 1 + 1 + 1 < w1.heap.size := by omega))) | (go_at_call 54; (with_reducible refine (l2And_any _ _ _).mono ?_); rintro e w1 ⟨rfl, hb⟩; obtain ⟨hc, hf, hT, hz⟩ := bfacts hb; (try simp only [World.size_alloc, World.size_setCell, World.size_drew, size_drewN] at hc hf hT hz); (try (have hzA := Nat.lt_of_succ_le hz)); (try (have hl0 : w.heap.size ≤ w1.heap.size := by omega)); (try (have hz0 : w.heap.size < w1.heap.size := by omega)); (try (have hz1 : w.heap.size + 1 < w1.heap.size := by omega)); (try (have hz2 : w.heap.size + 1 + 1 < w1.heap.size := by omega)); (try (have hz3 : w.heap.size + 1 + 1 + 1 < w1.heap.size := by omega)); (try (have hz4 : w.heap.size + 1 + 1 + 1 + 1 < w1.heap.size := by omega))))
  all_goals
    go_wp2
    exact bodyPost_ret (v := .tuple #[(.agg #[.int .i64 (row (hitS X Y Z) 0), .int .i64 (row (hitS X Y Z) 1), .int .i64 (row (hitS X Y Z) 2), .int .i64 (row (hitS X Y Z) 3), .int .i64 (row (hitS X Y Z) 4), .int .i64 (row (hitS X Y Z) 5)]), .bool true]) (by simp [results, Try.results28, go_sem, *]) rfl ⟨rfl, (by repeat (first | with_reducible exact Below.refl _ _ | with_reducible assumption | with_reducible refine Below.drew ?_ | with_reducible refine below_drewN ?_ _ | with_reducible refine Below.alloc ?_ ?_ _ | with_reducible refine Below.setCell ?_ ?_ _ | with_reducible refine Below.trans ?_ (Below.mono (by assumption) ?_) | omega | (simp <;> omega)))⟩

set_option maxRecDepth 100000 in
theorem specHitSheet_no (a0 a1 a2 a3 a4 a5 b0 b1 b2 b3 b4 b5 c0 c1 c2 c3 c4 c5 : Int) (hn : ¬ Ok63 a0 a1 a2 a3 a4 a5 b0 b1 b2 b3 b4 b5 c0 c1 c2 c3 c4 c5) (w : World) : Calls Try.prog 28 #[(.agg #[.int .i64 a0, .int .i64 a1, .int .i64 a2, .int .i64 a3, .int .i64 a4, .int .i64 a5]), (.agg #[.int .i64 b0, .int .i64 b1, .int .i64 b2, .int .i64 b3, .int .i64 b4, .int .i64 b5]), (.agg #[.int .i64 c0, .int .i64 c1, .int .i64 c2, .int .i64 c3, .int .i64 c4, .int .i64 c5])] w fun e w' => e = .returned (.tuple #[.agg #[.int .i64 0, .int .i64 0, .int .i64 0, .int .i64 0, .int .i64 0, .int .i64 0], .bool false]) ∧ Below w.heap.size w w' := by
  by_cases ha : Ok6 a0 a1 a2 a3 a4 a5
  · by_cases hb : Ok6 b0 b1 b2 b3 b4 b5
    · have hc : ¬ Ok6 c0 c1 c2 c3 c4 c5 := fun h => hn ⟨⟨ha, hb⟩, h⟩
      clear hn
      obtain ⟨X, hX, rfl, rfl, rfl, rfl, rfl, rfl⟩ := set_of_rows a0 a1 a2 a3 a4 a5 ha.1 ha.2.1 ha.2.2.1 ha.2.2.2.1 ha.2.2.2.2.1 ha.2.2.2.2.2
      obtain ⟨Y, hY, rfl, rfl, rfl, rfl, rfl, rfl⟩ := set_of_rows b0 b1 b2 b3 b4 b5 hb.1 hb.2.1 hb.2.2.1 hb.2.2.2.1 hb.2.2.2.2.1 hb.2.2.2.2.2
      clear ha hb
      go_enter Try.func28, Try.ntmps28
      go_wp2_with (go_at_call 38; (first | (with_reducible refine (l2Sheet_ok _ _).mono ?_) | (with_reducible refine (l2Sheet_no _ _ _ _ _ _ (by assumption) _).mono ?_)); rintro e w1 ⟨rfl, hb⟩; obtain ⟨hc, hf, hT, hz⟩ := bfacts hb; (try simp only [World.size_alloc, World.size_setCell, World.size_drew, size_drewN] at hc hf hT hz); (try (have hzA := Nat.lt_of_succ_le hz)); (try (have hl0 : w.heap.size ≤ w1.heap.size := by omega)); (try (have hz0 : w.heap.size < w1.heap.size := by omega)); (try (have hz1 : w.heap.size + 1 < w1.heap.size := by omega)); (try (have hz2 : w.heap.size + 1 + 1 < w1.heap.size := by omega)); (try (have hz3 : w.heap.size + 1 + 1 + 1 < w1.heap.size := by omega)); (try (have hz4 : w.heap.size + 1 + 1 + 1 + 1 < w1.heap.size := by omega)))
      exact bodyPost_ret (v := .tuple #[.agg #[.int .i64 0, .int .i64 0, .int .i64 0, .int .i64 0, .int .i64 0, .int .i64 0], .bool false]) (by simp [results, Try.results28, go_sem, *]) rfl ⟨rfl, (by repeat (first | with_reducible exact Below.refl _ _ | with_reducible assumption | with_reducible refine Below.drew ?_ | with_reducible refine below_drewN ?_ _ | with_reducible refine Below.alloc ?_ ?_ _ | with_reducible refine Below.setCell ?_ ?_ _ | with_reducible refine Below.trans ?_ (Below.mono (by assumption) ?_) | omega | (simp <;> omega)))⟩
    · clear hn
      obtain ⟨X, hX, rfl, rfl, rfl, rfl, rfl, rfl⟩ := set_of_rows a0 a1 a2 a3 a4 a5 ha.1 ha.2.1 ha.2.2.1 ha.2.2.2.1 ha.2.2.2.2.1 ha.2.2.2.2.2
      clear ha
      go_enter Try.func28, Try.ntmps28
      go_wp2_with (go_at_call 38; (first | (with_reducible refine (l2Sheet_ok _ _).mono ?_) | (with_reducible refine (l2Sheet_no _ _ _ _ _ _ (by assumption) _).mono ?_)); rintro e w1 ⟨rfl, hb⟩; obtain ⟨hc, hf, hT, hz⟩ := bfacts hb; (try simp only [World.size_alloc, World.size_setCell, World.size_drew, size_drewN] at hc hf hT hz); (try (have hzA := Nat.lt_of_succ_le hz)); (try (have hl0 : w.heap.size ≤ w1.heap.size := by omega)); (try (have hz0 : w.heap.size < w1.heap.size := by omega)); (try (have hz1 : w.heap.size + 1 < w1.heap.size := by omega)); (try (have hz2 : w.heap.size + 1 + 1 < w1.heap.size := by omega)); (try (have hz3 : w.heap.size + 1 + 1 + 1 < w1.heap.size := by omega)); (try (have hz4 : w.heap.size + 1 + 1 + 1 + 1 < w1.heap.size := by omega)))
      exact bodyPost_ret (v := .tuple #[.agg #[.int .i64 0, .int .i64 0, .int .i64 0, .int .i64 0, .int .i64 0, .int .i64 0], .bool false]) (by simp [results, Try.results28, go_sem, *]) rfl ⟨rfl, (by repeat (first | with_reducible exact Below.refl _ _ | with_reducible assumption | with_reducible refine Below.drew ?_ | with_reducible refine below_drewN ?_ _ | with_reducible refine Below.alloc ?_ ?_ _ | with_reducible refine Below.setCell ?_ ?_ _ | with_reducible refine Below.trans ?_ (Below.mono (by assumption) ?_) | omega | (simp <;> omega)))⟩
  · clear hn
    go_enter Try.func28, Try.ntmps28
    go_wp2_with (go_at_call 38; (with_reducible refine (l2Sheet_no _ _ _ _ _ _ (by assumption) _).mono ?_); rintro e w1 ⟨rfl, hb⟩; obtain ⟨hc, hf, hT, hz⟩ := bfacts hb; (try simp only [World.size_alloc, World.size_setCell, World.size_drew, size_drewN] at hc hf hT hz); (try (have hzA := Nat.lt_of_succ_le hz)); (try (have hl0 : w.heap.size ≤ w1.heap.size := by omega)); (try (have hz0 : w.heap.size < w1.heap.size := by omega)); (try (have hz1 : w.heap.size + 1 < w1.heap.size := by omega)); (try (have hz2 : w.heap.size + 1 + 1 < w1.heap.size := by omega)); (try (have hz3 : w.heap.size + 1 + 1 + 1 < w1.heap.size := by omega)); (try (have hz4 : w.heap.size + 1 + 1 + 1 + 1 < w1.heap.size := by omega)))
    exact bodyPost_ret (v := .tuple #[.agg #[.int .i64 0, .int .i64 0, .int .i64 0, .int .i64 0, .int .i64 0, .int .i64 0], .bool false]) (by simp [results, Try.results28, go_sem, *]) rfl ⟨rfl, (by repeat (first | with_reducible exact Below.refl _ _ | with_reducible assumption | with_reducible refine Below.drew ?_ | with_reducible refine below_drewN ?_ _ | with_reducible refine Below.alloc ?_ ?_ _ | with_reducible refine Below.setCell ?_ ?_ _ | with_reducible refine Below.trans ?_ (Below.mono (by assumption) ?_) | omega | (simp <;> omega)))⟩
end Go.Proofs.Ytphnkkblgbfncaa
