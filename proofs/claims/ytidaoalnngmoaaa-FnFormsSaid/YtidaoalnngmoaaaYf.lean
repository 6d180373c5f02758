/-
  vMotions and vMotion: equality of lists of motions, and whether a motion is among them. No conditions.
-/
import Derived.Test.YtidaoalnngmoaaaYc
import Derived.Test.YtidaoalnngmoaaaJF
namespace Go.Proofs.Ytidaoalnngmoaaa
open Go.RowKit
set_option linter.unusedSimpArgs false
set_option linter.unusedVariables false

/-- the slice at address a reads the motions of L -/
def RdT (w : World) (a : Option Addr) (L : List Nat) : Prop := L = [] ∨ ∃ g : Nat, a = some ⟨g, 0, none⟩ ∧ g < w.heap.size ∧ ∀ j, j < L.length * 3 → w.cell? ⟨g, j, none⟩ = some (.int .i64 (trF L j))
theorem RdT.mv {w w' : World} {a : Option Addr} {L : List Nat} (h : RdT w a L) (hb : Below w.heap.size w w') : RdT w' a L := by
  rcases h with h | ⟨g, h1, h2, h3⟩
  · exact .inl h
  · exact .inr ⟨g, h1, Nat.lt_of_lt_of_le h2 hb.size, fun j hj => (hb.cell (p := ⟨g, j, none⟩) h2).trans (h3 j hj)⟩
theorem trF_at : ∀ (L : List Nat) (k : Nat), k < L.length → trF L (k * 3) = ((L.getD k 0 : Nat) : Int) / 36 ∧ trF L (k * 3 + 1) = ((L.getD k 0 : Nat) : Int) % 36 / 6 ∧ trF L (k * 3 + 2) = ((L.getD k 0 : Nat) : Int) % 6
  | [], k, hk => by simp at hk
  | a :: L, 0, _ => by simp [trF, trI]
  | a :: L, k + 1, hk => by
      have ih := trF_at L k (by simpa using hk)
      have e : ∀ j, trF (a :: L) (j + 1 + 1 + 1) = trF L j := fun j => by simp [trF, trI]
      rw [show (k + 1) * 3 = k * 3 + 1 + 1 + 1 by omega, show k * 3 + 1 + 1 + 1 + 1 = (k * 3 + 1) + 1 + 1 + 1 by omega, show k * 3 + 1 + 1 + 1 + 2 = (k * 3 + 2) + 1 + 1 + 1 by omega, e, e, e]
      simpa using ih
set_option maxRecDepth 100000 in
set_option maxHeartbeats 1600000 in
theorem vMotions_any (a b : Option Addr) (L : List Nat) (c1 c2 : Nat) (hn : L.length ≤ 300) (w : World) (h1 : RdT w a L) (h2 : RdT w b L) :
    Calls Try.prog 62 #[.slice a L.length c1, .slice b L.length c2] w fun e w' => e = .returned (.bool true) ∧ Below w.heap.size w w' := by
  rcases h1 with h1 | ⟨g1, rfl, l1, h1⟩
  · subst h1
    go_enter Try.func62, Try.ntmps62
    go_wp2
    refine wp_loop_rounds 1 ?_
    rw [rounds_succ]
    go_wp2
    go_ret
    exact ⟨rfl, (by repeat (first | with_reducible exact Below.refl _ _ | with_reducible assumption | with_reducible refine Below.drew ?_ | with_reducible refine below_drewN ?_ _ | with_reducible refine Below.alloc ?_ ?_ _ | with_reducible refine Below.setCell ?_ ?_ _ | with_reducible refine Below.trans ?_ (Below.mono (by assumption) ?_) | omega | (simp <;> omega)))⟩
  rcases h2 with h2 | ⟨g2, rfl, l2, h2⟩
  · subst h2
    go_enter Try.func62, Try.ntmps62
    go_wp2
    refine wp_loop_rounds 1 ?_
    rw [rounds_succ]
    go_wp2
    go_ret
    exact ⟨rfl, (by repeat (first | with_reducible exact Below.refl _ _ | with_reducible assumption | with_reducible refine Below.drew ?_ | with_reducible refine below_drewN ?_ _ | with_reducible refine Below.alloc ?_ ?_ _ | with_reducible refine Below.setCell ?_ ?_ _ | with_reducible refine Below.trans ?_ (Below.mono (by assumption) ?_) | omega | (simp <;> omega)))⟩
  have H1 := Lib.hid h1
  have H2 := Lib.hid h2
  clear h1 h2
  generalize trF L = f at *
  generalize L.length = n at *
  go_enter Try.func62, Try.ntmps62
  go_wp2
  go_loopw [5] (fun i wr => ∃ k : Nat, k ≤ n ∧ i = .int .i64 (k : Int) ∧ Below w.heap.size w wr) (fun i _ => n - (intOf i).toNat)
  case atStart => exact ⟨0, Nat.zero_le _, rfl, Below.refl _ _⟩
  case round =>
    obtain ⟨k, hk, rfl, hbw⟩ := hrel
    have hbsz := hbw.size
    by_cases hlt : k < n
    · have hlt' : (k : Int) < (n : Int) := by omega
      have a10 := (hbw.cell (p := ⟨g1, k * 3, none⟩) l1).trans (H1.out (k * 3) (by omega))
      have a11 := (hbw.cell (p := ⟨g1, k * 3 + 1, none⟩) l1).trans (H1.out (k * 3 + 1) (by omega))
      have a12 := (hbw.cell (p := ⟨g1, k * 3 + 2, none⟩) l1).trans (H1.out (k * 3 + 2) (by omega))
      have a20 := (hbw.cell (p := ⟨g2, k * 3, none⟩) l2).trans (H2.out (k * 3) (by omega))
      have a21 := (hbw.cell (p := ⟨g2, k * 3 + 1, none⟩) l2).trans (H2.out (k * 3 + 1) (by omega))
      have a22 := (hbw.cell (p := ⟨g2, k * 3 + 2, none⟩) l2).trans (H2.out (k * 3 + 2) (by omega))
      have l1w : g1 < wr.heap.size := by omega
      have l2w : g2 < wr.heap.size := by omega
      go_wp2
      go_region
      all_goals
        go_wp2
        go_roundw
        case rel => exact ⟨k + 1, by omega, by go_num, (by repeat (first | with_reducible exact Below.refl _ _ | with_reducible assumption | with_reducible refine Below.drew ?_ | with_reducible refine below_drewN ?_ _ | with_reducible refine Below.alloc ?_ ?_ _ | with_reducible refine Below.setCell ?_ ?_ _ | with_reducible refine Below.trans ?_ (Below.mono (by assumption) ?_) | omega | (simp <;> omega)))⟩
        case measure => simp [intOf]; omega
    · have e : k = n := by omega
      subst e
      go_wp2
      go_ret
      exact ⟨rfl, hbw⟩
set_option maxRecDepth 100000 in
set_option maxHeartbeats 1600000 in
theorem vMotion_any (a : Option Addr) (L : List Nat) (c : Nat) (m0 m1 m2 : Int) (hn : L.length ≤ 300) (w : World) (h1 : RdT w a L) (j0 : Nat) (hj0 : j0 < L.length) (e0 : trF L (j0 * 3) = m0) (e1 : trF L (j0 * 3 + 1) = m1) (e2 : trF L (j0 * 3 + 2) = m2) :
    Calls Try.prog 64 #[.slice a L.length c, .agg #[.int .i64 m0, .int .i64 m1, .int .i64 m2]] w fun e w' => e = .returned (.bool true) ∧ Below w.heap.size w w' := by
  rcases h1 with h1 | ⟨g1, rfl, l1, h1⟩
  · subst h1; simp at hj0
  have H1 := Lib.hid h1
  have HE := Lib.hid (And.intro e0 (And.intro e1 e2))
  clear h1 e0 e1 e2
  generalize trF L = f at *
  generalize L.length = n at *
  go_enter Try.func64, Try.ntmps64
  go_wp2
  go_loopw [5] (fun i wr => ∃ k : Nat, k ≤ j0 ∧ i = .int .i64 (k : Int) ∧ Below w.heap.size w wr ∧ Holds3 wr 39 w.heap.size m0 m1 m2) (fun i _ => n - (intOf i).toNat)
  case atStart => exact ⟨0, Nat.zero_le _, rfl, (by repeat (first | with_reducible exact Below.refl _ _ | with_reducible assumption | with_reducible refine Below.drew ?_ | with_reducible refine below_drewN ?_ _ | with_reducible refine Below.alloc ?_ ?_ _ | with_reducible refine Below.setCell ?_ ?_ _ | with_reducible refine Below.trans ?_ (Below.mono (by assumption) ?_) | omega | (simp <;> omega))), Holds3.made' rfl⟩
  case round =>
    obtain ⟨k, hk, rfl, hbw, hM⟩ := hrel
    have hbsz := hbw.size
    have hlt : k < n := by omega
    have hlt' : (k : Int) < (n : Int) := by omega
    have a10 := (hbw.cell (p := ⟨g1, k * 3, none⟩) l1).trans (H1.out (k * 3) (by omega))
    have a11 := (hbw.cell (p := ⟨g1, k * 3 + 1, none⟩) l1).trans (H1.out (k * 3 + 1) (by omega))
    have a12 := (hbw.cell (p := ⟨g1, k * 3 + 2, none⟩) l1).trans (H1.out (k * 3 + 2) (by omega))
    have l1w : g1 < wr.heap.size := by omega
    have c0 := hM.c0
    have c1 := hM.c1
    have c2 := hM.c2
    have cf := hM.free
    by_cases hq : f (k * 3) = m0 ∧ f (k * 3 + 1) = m1 ∧ f (k * 3 + 2) = m2
    · obtain ⟨q0, q1, q2⟩ := hq
      rw [q0] at a10
      rw [q1] at a11
      rw [q2] at a12
      clear q0 q1 q2
      go_wp2
      go_region
      all_goals
        go_wp2
        go_ret
        exact ⟨rfl, (by repeat (first | with_reducible exact Below.refl _ _ | with_reducible assumption | with_reducible refine Below.drew ?_ | with_reducible refine below_drewN ?_ _ | with_reducible refine Below.alloc ?_ ?_ _ | with_reducible refine Below.setCell ?_ ?_ _ | with_reducible refine Below.trans ?_ (Below.mono (by assumption) ?_) | omega | (simp <;> omega)))⟩
    · have hkj : k ≠ j0 := fun e => by subst e; exact hq HE.out
      have hqd := decide_eq_false hq
      clear hq
      go_wp2
      go_region
      all_goals
        go_wp2
        go_roundw
        case rel => exact ⟨k + 1, by omega, by go_num, (by repeat (first | with_reducible exact Below.refl _ _ | with_reducible assumption | with_reducible refine Below.drew ?_ | with_reducible refine below_drewN ?_ _ | with_reducible refine Below.alloc ?_ ?_ _ | with_reducible refine Below.setCell ?_ ?_ _ | with_reducible refine Below.trans ?_ (Below.mono (by assumption) ?_) | omega | (simp <;> omega))), hM⟩
        case measure => simp [intOf]; omega
end Go.Proofs.Ytidaoalnngmoaaa
