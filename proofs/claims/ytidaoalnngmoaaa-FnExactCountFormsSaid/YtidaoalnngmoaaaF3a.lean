/-
  Slices of arrays of 3 whole numbers: contracts of the laws' equality, marking and holding. No conditions.
-/
import Derived.Test.YtidaoalnngmoaaaMot
import Derived.Test.YtidaoalnngmoaaaCk
import Derived.Deep.RegionHeld3
namespace Go.Proofs.Ytidaoalnngmoaaa
open Go.RowKit
set_option linter.unusedSimpArgs false
set_option linter.unusedVariables false

/-- block g begins with m whole numbers, told by f -/
def SlI (w : World) (g m : Nat) (f : Nat → Int) : Prop := (∀ j, j < m → w.cell? ⟨g, j, none⟩ = some (.int .i64 (f j))) ∧ (∀ o, w.frozen? ⟨g, o, none⟩ = false) ∧ g < w.heap.size
theorem SlI.below {w w' : World} {N g m : Nat} {f : Nat → Int} (h : SlI w g m f) (hb : Below N w w') (hN : g < N) (hs : N ≤ w'.heap.size) : SlI w' g m f :=
  ⟨fun j hj => (hb.cell (p := ⟨g, j, none⟩) hN).trans (h.1 j hj), fun o => (hb.frozen (p := ⟨g, o, none⟩) hN).trans (h.2.1 o), by omega⟩
theorem SlI.alloc {w : World} {g m : Nat} {f : Nat → Int} (h : SlI w g m f) (o : Obj) : SlI (w.alloc o) g m f :=
  h.below ((Below.refl w.heap.size w).alloc (Nat.le_refl _) o) h.2.2 (by simp)

def EqSRel (n : Nat) (w : World) (i : Value) (wr : World) : Prop := ∃ k : Nat, k ≤ n ∧ i = .int .i64 (k : Int) ∧ Below w.heap.size w wr
set_option maxRecDepth 100000 in
theorem eqS_any (g1 g2 n c1 c2 : Nat) (f : Nat → Int) (hn : n ≤ 300) (w : World) (h1 : SlI w g1 (n * 3) f) (h2 : SlI w g2 (n * 3) f) :
    Calls Try.prog 42 #[.slice (some ⟨g1, 0, none⟩) n c1, .slice (some ⟨g2, 0, none⟩) n c2] w fun e w' => e = .returned (.bool true) ∧ Below w.heap.size w w' := by
  have H1 := Lib.hid h1
  have H2 := Lib.hid h2
  have l1 := h1.2.2
  have l2 := h2.2.2
  clear h1 h2
  go_enter Try.func42, Try.ntmps42
  go_wp2
  go_loopw [5] (EqSRel n w) (fun i _ => n - (intOf i).toNat)
  case atStart => exact ⟨0, Nat.zero_le _, rfl, Below.refl _ _⟩
  case round =>
    obtain ⟨k, hk, rfl, hbw⟩ := hrel
    have hbsz := hbw.size
    by_cases hlt : k < n
    · have hlt' : (k : Int) < (n : Int) := by omega
      have k1 : SlI wr g1 (n * 3) f := H1.out.below hbw l1 hbsz
      have k2 : SlI wr g2 (n * 3) f := H2.out.below hbw l2 hbsz
      have a10 := k1.1 (k * 3) (by omega)
      have a11 := k1.1 (k * 3 + 1) (by omega)
      have a12 := k1.1 (k * 3 + 2) (by omega)
      have a20 := k2.1 (k * 3) (by omega)
      have a21 := k2.1 (k * 3 + 1) (by omega)
      have a22 := k2.1 (k * 3 + 2) (by omega)
      have l1w := k1.2.2
      have l2w := k2.2.2
      clear k1 k2
      go_wp2
      go_region_held3 (fun w' => w'.cell? ⟨g1, k * 3, none⟩ = some (.int .i64 (f (k * 3))) ∧ w'.cell? ⟨g1, k * 3 + 1, none⟩ = some (.int .i64 (f (k * 3 + 1))) ∧ w'.cell? ⟨g1, k * 3 + 2, none⟩ = some (.int .i64 (f (k * 3 + 2))) ∧ w'.cell? ⟨g2, k * 3, none⟩ = some (.int .i64 (f (k * 3))) ∧ w'.cell? ⟨g2, k * 3 + 1, none⟩ = some (.int .i64 (f (k * 3 + 1))) ∧ w'.cell? ⟨g2, k * 3 + 2, none⟩ = some (.int .i64 (f (k * 3 + 2)))) (simp [*, World.cell?_alloc_some, World.cell?_setCell_far, Nat.ne_of_gt]) (first | (go_at_call 31; (with_reducible refine (eqIntA3_same _ _ _ _).mono ?_); rintro e w1 ⟨rfl, hb⟩; obtain ⟨hc, hf, hT, hz⟩ := bfacts hb; (try simp only [World.size_alloc, World.size_setCell, World.size_drew, size_drewN] at hc hf hT hz); (try (have hzA := Nat.lt_of_succ_le hz)); (try (have hl0 : w.heap.size ≤ w1.heap.size := by omega)); (try (have hz0 : w.heap.size < w1.heap.size := by omega)); (try (have hz1 : w.heap.size + 1 < w1.heap.size := by omega)); (try (have hz2 : w.heap.size + 1 + 1 < w1.heap.size := by omega)); (try (have hz3 : w.heap.size + 1 + 1 + 1 < w1.heap.size := by omega)); (try (have hz4 : w.heap.size + 1 + 1 + 1 + 1 < w1.heap.size := by omega))))
      all_goals
        go_wp2
        go_roundw
        case rel => exact ⟨k + 1, by omega, by go_num, (by repeat (first | with_reducible exact Below.refl _ _ | with_reducible assumption | with_reducible refine Below.drew ?_ | with_reducible refine below_drewN ?_ _ | with_reducible refine Below.alloc ?_ ?_ _ | with_reducible refine Below.setCell ?_ ?_ _ | with_reducible refine Below.trans ?_ (Below.mono (by assumption) ?_) | omega | (simp <;> omega)))⟩
        case measure => simp [intOf]; omega
    · have e : k = n := by omega
      subst e
      go_wp2
      go_ret
      exact ⟨rfl, hbw⟩

theorem set_at {w : World} {g o : Nat} {v u : Value} (h : w.cell? ⟨g, o, none⟩ = some u) (j : Nat) : (w.setCell ⟨g, o, none⟩ v).cell? ⟨g, j, none⟩ = if j = o then some v else w.cell? ⟨g, j, none⟩ := by
  split
  · rename_i e; subst e; exact World.cell?_setCell_same _ _ _ h
  · rename_i e; exact World.cell?_setCell_other _ _ _ _ (fun x => e (by injection x with _ y; exact y.symm))
/-- a row of m numbers of which the first t are marked -/
def MkMem (g m t : Nat) (w wr : World) : Prop :=
  (∀ j, j < m → ∃ u, wr.cell? ⟨g, j, none⟩ = some u) ∧ (∀ j, j < t → wr.cell? ⟨g, j, none⟩ = some (.int .i64 ((j : Int) + 1))) ∧ (∀ o, wr.frozen? ⟨g, o, none⟩ = false) ∧ Below g w wr ∧ w.heap.size ≤ wr.heap.size
theorem MkMem.store {g m t : Nat} {w wr : World} (h : MkMem g m t w wr) (ht : t < m) (hg : g < w.heap.size) : MkMem g m (t + 1) w (wr.setCell ⟨g, t, none⟩ (.int .i64 ((t : Int) + 1))) := by
  obtain ⟨h1, h2, h3, h4, h5⟩ := h
  obtain ⟨u, hu⟩ := h1 t ht
  refine ⟨fun j hj => ?_, fun j hj => ?_, fun o => by rw [World.frozen?_setCell]; exact h3 o, h4.setCell (Nat.le_refl _) _, by simpa using h5⟩
  · rw [set_at hu]; split
    · exact ⟨_, rfl⟩
    · exact h1 j hj
  · rw [set_at hu]; split
    · rename_i e; subst e; rfl
    · exact h2 j (by omega)
def MkRelY (g n : Nat) (w : World) (q i : Value) (wr : World) : Prop := ∃ k : Nat, k ≤ n ∧ i = .int .i64 (k : Int) ∧ q = .int .i64 (((k * 3 : Nat) : Int) + 1) ∧ MkMem g (n * 3) (k * 3) w wr
def MkRel (g n k : Nat) (w : World) (q j : Value) (wr : World) : Prop := ∃ l : Nat, l ≤ 3 ∧ j = .int .i64 (l : Int) ∧ q = .int .i64 (((k * 3 + l : Nat) : Int) + 1) ∧ MkMem g (n * 3) (k * 3 + l) w wr
/-- what marking leaves -/
def MkEnd (g n : Nat) (w : World) (e : Ending) (w' : World) : Prop := e = .returned (.int .i64 (((n * 3 : Nat) : Int) + 1)) ∧ MkMem g (n * 3) (n * 3) w w'
set_option maxRecDepth 100000 in
theorem mark_any (g n c : Nat) (f : Nat → Int) (hn : n ≤ 300) (w : World) (h1 : SlI w g (n * 3) f) :
    Calls Try.prog 43 #[.slice (some ⟨g, 0, none⟩) n c, .int .i64 1] w (MkEnd g n w) := by
  have l1 := h1.2.2
  have hm : MkMem g (n * 3) 0 w w := ⟨fun j hj => ⟨_, h1.1 j hj⟩, fun j hj => by omega, h1.2.1, Below.refl _ _, Nat.le_refl _⟩
  clear h1
  go_enter Try.func43, Try.ntmps43
  go_wp2
  go_loopw [1, 5] (MkRelY g n w) (fun _ i _ => n - (intOf i).toNat)
  case atStart => exact ⟨0, Nat.zero_le _, rfl, rfl, by rw [Nat.zero_mul]; exact hm⟩
  case round =>
    clear hm
    obtain ⟨k, hk, rfl, rfl, hm⟩ := hrel
    by_cases hlt : k < n
    · have hlt' : (k : Int) < (n : Int) := by omega
      go_wp2
      obtain ⟨wo, rfl⟩ : ∃ wo : World, wo = wr := ⟨_, rfl⟩
      go_loopw [1, 6] (MkRel g n k w) (fun _ j _ => 3 - (intOf j).toNat)
      case atStart => exact ⟨0, Nat.zero_le _, rfl, rfl, hm⟩
      case round =>
        clear hm
        obtain ⟨l, hl, rfl, rfl, hm⟩ := hrel
        by_cases hlj : l < 3
        · have hlj' : (l : Int) < 3 := by omega
          have hbnd : k * 3 + l < n * 3 := by omega
          have hst := hm.store hbnd l1
          obtain ⟨u, hu⟩ := hm.1 (k * 3 + l) hbnd
          have hfz := hm.2.2.1 (k * 3 + l)
          have HST := Lib.hid hst
          clear hst hm
          go_wp2
          go_roundw
          case rel => exact ⟨l + 1, by omega, by go_num, by first | rfl | go_num, by rw [← Nat.add_assoc]; exact HST.out⟩
          case measure => simp [intOf]; omega
        · have e : l = 3 := by omega
          subst e
          go_wp2
          go_roundw
          case rel => exact ⟨k + 1, by omega, by go_num, by rw [Nat.succ_mul], by rw [Nat.succ_mul]; exact hm⟩
          case measure => simp [intOf]; omega
    · have e : k = n := by omega
      subst e
      go_wp2
      go_ret
      exact ⟨rfl, hm⟩
def HdRelY (n : Nat) (w : World) (q i : Value) (wr : World) : Prop := ∃ k : Nat, k ≤ n ∧ i = .int .i64 (k : Int) ∧ q = .int .i64 (((k * 3 : Nat) : Int) + 1) ∧ w = wr
def HdRel (k : Nat) (w : World) (q j : Value) (wr : World) : Prop := ∃ l : Nat, l ≤ 3 ∧ j = .int .i64 (l : Int) ∧ q = .int .i64 (((k * 3 + l : Nat) : Int) + 1) ∧ w = wr
set_option maxRecDepth 100000 in
theorem held_any (g n c : Nat) (hn : n ≤ 300) (w : World) (h1 : SlI w g (n * 3) fun j => (j : Int) + 1) :
    Calls Try.prog 44 #[.slice (some ⟨g, 0, none⟩) n c, .int .i64 1] w fun e w' => e = .returned (.int .i64 (((n * 3 : Nat) : Int) + 1)) ∧ w = w' := by
  have H1 := Lib.hid h1
  clear h1
  go_enter Try.func44, Try.ntmps44
  go_wp2
  go_loopw [1, 5] (HdRelY n w) (fun _ i _ => n - (intOf i).toNat)
  case atStart => exact ⟨0, Nat.zero_le _, rfl, rfl, rfl⟩
  case round =>
    obtain ⟨k, hk, rfl, rfl, rfl⟩ := hrel
    by_cases hlt : k < n
    · have hlt' : (k : Int) < (n : Int) := by omega
      go_wp2
      go_loopw [1, 6] (HdRel k w) (fun _ j _ => 3 - (intOf j).toNat)
      case atStart => exact ⟨0, Nat.zero_le _, rfl, rfl, rfl⟩
      case round =>
        obtain ⟨l, hl, rfl, rfl, rfl⟩ := hrel
        by_cases hlj : l < 3
        · have hlj' : (l : Int) < 3 := by omega
          have hbnd : k * 3 + l < n * 3 := by omega
          have hu := H1.out.1 (k * 3 + l) hbnd
          dsimp only at hu
          go_wp2
          go_roundw
          case rel => exact ⟨l + 1, by omega, by go_num, by first | rfl | go_num, rfl⟩
          case measure => simp [intOf]; omega
        · have e : l = 3 := by omega
          subst e
          go_wp2
          go_roundw
          case rel => exact ⟨k + 1, by omega, by go_num, by rw [Nat.succ_mul], rfl⟩
          case measure => simp [intOf]; omega
    · have e : k = n := by omega
      subst e
      go_wp2
      go_ret
      exact ⟨rfl, rfl⟩
end Go.Proofs.Ytidaoalnngmoaaa
