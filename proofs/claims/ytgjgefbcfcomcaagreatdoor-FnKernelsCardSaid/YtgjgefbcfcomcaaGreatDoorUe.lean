/-
  The reference's l4Solve and CanToggle: contracts. No conditions.
-/
import Derived.Test.YtgjgefbcfcomcaaGreatDoorUd
import Derived.Test.YtgjgefbcfcomcaaGreatDoorJC
namespace Go.Proofs.YtgjgefbcfcomcaaGreatDoor
open Go.RowKit
set_option linter.unusedSimpArgs false
set_option linter.unusedVariables false

/-- some presses have the print t -/
def CanT (X t : Nat) : Prop := ∃ y, Vs y ∧ printS X y = t
theorem SR.vs {X : Nat} {R : List (Nat × Nat)} {L : List Nat} (h : SR X (sgl 36) R L) (t : Nat) : Vs (rdL R (0, t)).1 := by
  have h2 := (h.red 0 t).2.1
  rw [Nat.zero_xor] at h2
  exact (sp_sgl 36 _).1 ((h.tabl.sp _).1 (sp_left h2))
theorem SR.can {X : Nat} {R : List (Nat × Nat)} {L : List Nat} (h : SR X (sgl 36) R L) (t : Nat) : (rdL R (0, t)).2 = 0 ↔ CanT X t := by
  rw [(h.solve t).2]
  exact ⟨fun ⟨y, h1, h2⟩ => ⟨y, (sp_sgl 36 y).1 h1, h2⟩, fun ⟨y, h1, h2⟩ => ⟨y, (sp_sgl 36 y).2 h1, h2⟩⟩
theorem rdL_vs {R : List (Nat × Nat)} : ∀ (p : Nat × Nat), Vs p.2 → (∀ r, r ∈ R → Vs r.2) → Vs (rdL R p).2 := by
  induction R with
  | nil => intro p hp _; exact hp
  | cons r R ih =>
    intro p hp hr
    refine ih (rdS p r) ?_ (fun s hs => hr s (List.mem_cons_of_mem _ hs))
    unfold rdS
    split
    · exact hp.xor (hr r List.mem_cons_self)
    · exact hp
theorem SR.vs2 {X : Nat} {G : List Nat} {R : List (Nat × Nat)} {L : List Nat} (h : SR X G R L) (t : Nat) (ht : Vs t) : Vs (rdL R (0, t)).2 :=
  rdL_vs (0, t) ht fun r hr => by rw [(h.rows r hr).1]; exact printS_vs _ _
def SvEnd (X t : Nat) (w : World) (e : Ending) (w' : World) : Prop :=
  ∃ q p, e = .returned (.tuple #[(.agg #[.int .i64 (row q 0), .int .i64 (row q 1), .int .i64 (row q 2), .int .i64 (row q 3), .int .i64 (row q 4), .int .i64 (row q 5)]), .bool (decide (p = 0))]) ∧ Vs q ∧ Vs p ∧ Hid (t = p ^^^ printS X q) ∧ (p = 0 ↔ CanT X t) ∧ Below w.heap.size w w'
set_option maxRecDepth 100000 in
set_option maxHeartbeats 4000000 in
theorem l4Solve_any (X t : Nat) (hX : Vs X) (ht : Vs t) (w : World) : Calls Tryz.prog 39 #[(.agg #[.int .i64 (row X 0), .int .i64 (row X 1), .int .i64 (row X 2), .int .i64 (row X 3), .int .i64 (row X 4), .int .i64 (row X 5)]), (.agg #[.int .i64 (row t 0), .int .i64 (row t 1), .int .i64 (row t 2), .int .i64 (row t 3), .int .i64 (row t 4), .int .i64 (row t 5)])] w (SvEnd X t w) := by
  have HX := Lib.hid hX
  have HT := Lib.hid ht
  have hzr : ∀ i, row 0 i = 0 := fun i => by unfold row; simp
  clear hX ht
  go_enter Tryz.func39, Tryz.ntmps39
  go_wp2_with (go_at_call 63; (with_reducible refine (l4Reduce_any X HX.out _).mono ?_); rintro e w1 ⟨vr, vq, R, L, rfl, hR, hL, hS, hb⟩; obtain ⟨hc, hf, hT, hz⟩ := bfacts hb; (try simp only [World.size_alloc, World.size_setCell, World.size_drew, size_drewN] at hc hf hT hz); (try (have hzA := Nat.lt_of_succ_le hz)); (try (have hl0 : w.heap.size ≤ w1.heap.size := by omega)); (try (have hz0 : w.heap.size < w1.heap.size := by omega)); (try (have hz1 : w.heap.size + 1 < w1.heap.size := by omega)); (try (have hz2 : w.heap.size + 1 + 1 < w1.heap.size := by omega)); (try (have hz3 : w.heap.size + 1 + 1 + 1 < w1.heap.size := by omega)); (try (have hz4 : w.heap.size + 1 + 1 + 1 + 1 < w1.heap.size := by omega)))
  have hlens := hS.lens
  have hrd := fun W h => l4Reduced_any vr R (0, t) (fun r hr => (hS.rows r hr).2) (by omega) W h
  dsimp only at hrd
  simp only [hzr] at hrd
  have hq1 := hS.vs t
  have hq2 := hS.vs2 t HT.out
  have hq3 := (hS.solve t).1
  have hq4 := hS.can t
  have HR := Lib.hid hR
  generalize rdL R (0, t) = q at *
  obtain ⟨q, p⟩ := q
  dsimp only at *
  have hRD := Lib.hid hrd
  have HQ := Lib.hid (And.intro hq1 (And.intro hq2 (And.intro hq3 hq4)))
  have hpb : (decide (row p 0 = 0) && (decide (row p 1 = 0) && (decide (row p 2 = 0) && (decide (row p 3 = 0) && (decide (row p 4 = 0) && decide (row p 5 = 0)))))) = decide (p = 0) := by
    rw [Bool.eq_iff_iff]
    simp only [Bool.and_eq_true, decide_eq_true_eq]
    exact is_zero p hq2
  clear hrd hq1 hq2 hq3 hq4 hS hR hL
  obtain ⟨wa, rfl⟩ : ∃ wa : World, wa = w1 := ⟨_, rfl⟩
  have hBa : Below w.heap.size w wa := (by repeat (first | with_reducible exact Below.refl _ _ | with_reducible assumption | with_reducible refine Below.drew ?_ | with_reducible refine below_drewN ?_ _ | with_reducible refine Below.alloc ?_ ?_ _ | with_reducible refine Below.setCell ?_ ?_ _ | with_reducible refine Below.trans ?_ (Below.mono (by assumption) ?_) | omega | (simp <;> omega)))
  go_wp2_with (go_at_call 53; (with_reducible refine (hRD.out _ (by exact HR.out.reads)).mono ?_); rintro e w1 ⟨rfl, hb⟩; obtain ⟨hc, hf, hT, hz⟩ := bfacts hb; (try simp only [World.size_alloc, World.size_setCell, World.size_drew, size_drewN] at hc hf hT hz); (try (have hzA := Nat.lt_of_succ_le hz)); (try (have hl0 : w.heap.size ≤ w1.heap.size := by omega)); (try (have hz0 : w.heap.size < w1.heap.size := by omega)); (try (have hz1 : w.heap.size + 1 < w1.heap.size := by omega)); (try (have hz2 : w.heap.size + 1 + 1 < w1.heap.size := by omega)); (try (have hz3 : w.heap.size + 1 + 1 + 1 < w1.heap.size := by omega)); (try (have hz4 : w.heap.size + 1 + 1 + 1 + 1 < w1.heap.size := by omega)))
  go_region
  all_goals
    go_wp2
    try rw [hpb]
    exact bodyPost_ret (v := .tuple #[(.agg #[.int .i64 (row q 0), .int .i64 (row q 1), .int .i64 (row q 2), .int .i64 (row q 3), .int .i64 (row q 4), .int .i64 (row q 5)]), .bool (decide (p = 0))]) (by simp [results, Tryz.results39, go_sem, *]) rfl ⟨q, p, rfl, HQ.out.1, HQ.out.2.1, Lib.hid HQ.out.2.2.1, HQ.out.2.2.2, (by repeat (first | with_reducible exact Below.refl _ _ | with_reducible assumption | with_reducible refine Below.drew ?_ | with_reducible refine below_drewN ?_ _ | with_reducible refine Below.alloc ?_ ?_ _ | with_reducible refine Below.setCell ?_ ?_ _ | with_reducible refine Below.trans ?_ (Below.mono (by assumption) ?_) | omega | (simp <;> omega)))⟩
end Go.Proofs.YtgjgefbcfcomcaaGreatDoor
