/-
  The program's table of all single presses, and what it solves. Under: the library's own table of the lowest bits lies as its initialiser lays it.
-/
import Derived.Test.YtgjgefbcfcomcaaDoorTd
namespace Go.Proofs.YtgjgefbcfcomcaaDoor
open Go.RowKit
set_option linter.unusedSimpArgs false
set_option linter.unusedVariables false

def WholeEnd (X : Nat) (w : World) (e : Ending) (w' : World) : Prop :=
  ∃ T P Q L, e = .returned (.pointer (some ⟨T, 0, none⟩)) ∧ w.heap.size ≤ T ∧ TblAt w' T P Q L ∧ TS X (sgl 36) P Q L ∧ Below w.heap.size w w'
theorem sgl_vs : ∀ x, x ∈ sgl 36 → Vs x := fun x hx => by
  obtain ⟨i, hi, rfl⟩ := List.mem_map.1 hx
  exact Nat.pow_lt_pow_right (by omega) (List.mem_range.1 hi)
set_option maxRecDepth 100000 in
theorem whole_any (X : Nat) (hX : Vs X) (w : World) (hz : TabZ w) : Calls Tryd.prog 50 #[.int .u64 (X : Int)] w (WholeEnd X w) := by
  have hzl := hz.lt
  have HZ := Lib.hid hz
  have HX := Lib.hid hX
  clear hz hX
  go_enter Tryd.func50, Tryd.ntmps50
  go_wp2_with (first | (go_at_call 60; (with_reducible refine (singles_any _).mono ?_); rintro e w1 ⟨v, rfl, hown, hb⟩) | (go_at_call 61; (with_reducible refine (tableOf_any X HX.out v (sgl 36) sgl_vs (by rw [sgl_len]; omega) _ hown.reads (HZ.out.below hb hzl)).mono ?_); rintro e w2 ⟨P, Q, L, rfl, hT, hS, hb2⟩))
  have hs := hb.size
  go_ret
  exact ⟨_, P, Q, L, rfl, hs, hT, hS, hb.trans (hb2.mono hs)⟩
set_option maxRecDepth 100000 in
theorem solve_any (T : Nat) (P Q : Nat → Nat) (t : Nat) (ht : Vs t) (hv : ∀ k, k < 36 → Vs (P k) ∧ Vs (Q k)) (w : World) (h : PrsAt w T P Q) :
    Calls Tryd.prog 51 #[.pointer (some ⟨T, 0, none⟩), .int .u64 (t : Int)] w
      fun e w' => e = .returned (.tuple #[.int .u64 ((rdN P Q t 0 36).2 : Int), .bool (decide ((rdN P Q t 0 36).1 = 0))]) ∧ Below w.heap.size w w' := by
  have hr := reduced_any T P Q t 0 ht (by unfold Vs; omega) hv w h
  rw [show ((0 : Nat) : Int) = 0 from rfl] at hr
  have hR := Lib.hid hr
  have hq : (((rdN P Q t 0 36).1 : Int) == 0) = decide ((rdN P Q t 0 36).1 = 0) := by rw [Bool.eq_iff_iff, beq_iff_eq, decide_eq_true_eq]; omega
  have hQ := Lib.hid hq
  clear hq h ht hv hr
  go_enter Tryd.func51, Tryd.ntmps51
  go_wp2_with (go_at_call 79; (with_reducible refine (hR.out).mono ?_); rintro e w1 ⟨rfl, hb⟩; obtain ⟨hc, hf, hT, hz⟩ := bfacts hb; (try simp only [World.size_alloc, World.size_setCell, World.size_drew, size_drewN] at hc hf hT hz); (try (have hzA := Nat.lt_of_succ_le hz)); (try (have hl0 : w.heap.size ≤ w1.heap.size := by omega)); (try (have hz0 : w.heap.size < w1.heap.size := by omega)); (try (have hz1 : w.heap.size + 1 < w1.heap.size := by omega)); (try (have hz2 : w.heap.size + 1 + 1 < w1.heap.size := by omega)); (try (have hz3 : w.heap.size + 1 + 1 + 1 < w1.heap.size := by omega)); (try (have hz4 : w.heap.size + 1 + 1 + 1 + 1 < w1.heap.size := by omega)))
  go_region
  all_goals
    go_wp2
    rw [hQ.out]
    exact bodyPost_ret (v := .tuple #[.int .u64 ((rdN P Q t 0 36).2 : Int), .bool (decide ((rdN P Q t 0 36).1 = 0))]) (by simp [results, Tryd.results51, go_sem, *]) rfl ⟨rfl, (by repeat (first | with_reducible exact Below.refl _ _ | with_reducible assumption | with_reducible refine Below.drew ?_ | with_reducible refine below_drewN ?_ _ | with_reducible refine Below.alloc ?_ ?_ _ | with_reducible refine Below.setCell ?_ ?_ _ | with_reducible refine Below.trans ?_ (Below.mono (by assumption) ?_) | omega | (simp <;> omega)))⟩
/-- no presses but none are quiet -/
def NoKer (X : Nat) : Prop := ∀ y, Vs y → printS X y = 0 → y = 0
theorem TS.none {X : Nat} {P Q : Nat → Nat} {L : List Nat} (h : TS X (sgl 36) P Q L) (hk : NoKer X) : L.length = 0 := by
  obtain ⟨R, ht, _⟩ := h
  have hi := ht.ind (sgl_ind 36)
  cases L with
  | nil => rfl
  | cons l L =>
    obtain ⟨h1, h2⟩ := (ind_cons _ _).1 hi
    obtain ⟨g1, g2⟩ := (ht.ker (print_lin X) l).1 (sp_mem _ l List.mem_cons_self)
    have e := hk l ((sp_sgl 36 l).1 g1) g2
    subst e
    exact absurd (sp_zero L) h2
theorem TS.some {X : Nat} {P Q : Nat → Nat} {L : List Nat} (h : TS X (sgl 36) P Q L) (hk : ¬ NoKer X) : 0 < L.length := by
  obtain ⟨R, ht, _⟩ := h
  cases L with
  | cons l L => rw [List.length_cons]; omega
  | nil =>
    exfalso
    refine hk fun y hy h0 => ?_
    exact (ht.ker (print_lin X) y).2 ⟨(sp_sgl 36 y).2 hy, h0⟩
/-- in the table's variable the quiet presses lie as a slice of their number -/
theorem TblAt.quietSlice {w : World} {T : Nat} {P Q : Nat → Nat} {L : List Nat} (h : TblAt w T P Q L) : ∃ a c, w.cell? ⟨T, 72, none⟩ = some (.slice a L.length c) ∧ OwnsU w (T + 1) (.slice a L.length c) L := by
  obtain ⟨_, ⟨v, h1, h2⟩, _⟩ := h
  obtain ⟨a, c, rfl⟩ := owns_slice h2
  exact ⟨a, c, h1, h2⟩
end Go.Proofs.YtgjgefbcfcomcaaDoor
