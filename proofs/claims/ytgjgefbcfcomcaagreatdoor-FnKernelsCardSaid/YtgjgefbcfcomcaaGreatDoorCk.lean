/-
  Sheets in memory, and the contracts of the reference's l2Flip and l2Cells. No conditions.
-/
import Derived.Test.YtgjgefbcfcomcaaGreatDoorCg
import Derived.Test.YtgjgefbcfcomcaaGreatDoorCj
import Derived.Test.YtgjgefbcfcomcaaGreatDoorJA
namespace Go.Proofs.YtgjgefbcfcomcaaGreatDoor
open Go.RowKit
set_option linter.unusedSimpArgs false
set_option linter.unusedVariables false

/-- block B is a row of six whole numbers -/
def HoldsA (w : World) (T B : Nat) (a0 a1 a2 a3 a4 a5 : Int) : Prop :=
  w.heap[B]? = some (.cells #[.int .i64 a0, .int .i64 a1, .int .i64 a2, .int .i64 a3, .int .i64 a4, .int .i64 a5] T (0, 0))
section
variable {w w' : World} {T B N : Nat} {a0 a1 a2 a3 a4 a5 : Int}
theorem HoldsA.c0 (h : HoldsA w T B a0 a1 a2 a3 a4 a5) : w.cell? ⟨B, 0, none⟩ = some (.int .i64 a0) := by unfold HoldsA at h; simp [World.cell?, h]
theorem HoldsA.c1 (h : HoldsA w T B a0 a1 a2 a3 a4 a5) : w.cell? ⟨B, 1, none⟩ = some (.int .i64 a1) := by unfold HoldsA at h; simp [World.cell?, h]
theorem HoldsA.c2 (h : HoldsA w T B a0 a1 a2 a3 a4 a5) : w.cell? ⟨B, 2, none⟩ = some (.int .i64 a2) := by unfold HoldsA at h; simp [World.cell?, h]
theorem HoldsA.c3 (h : HoldsA w T B a0 a1 a2 a3 a4 a5) : w.cell? ⟨B, 3, none⟩ = some (.int .i64 a3) := by unfold HoldsA at h; simp [World.cell?, h]
theorem HoldsA.c4 (h : HoldsA w T B a0 a1 a2 a3 a4 a5) : w.cell? ⟨B, 4, none⟩ = some (.int .i64 a4) := by unfold HoldsA at h; simp [World.cell?, h]
theorem HoldsA.c5 (h : HoldsA w T B a0 a1 a2 a3 a4 a5) : w.cell? ⟨B, 5, none⟩ = some (.int .i64 a5) := by unfold HoldsA at h; simp [World.cell?, h]
theorem HoldsA.free (h : HoldsA w T B a0 a1 a2 a3 a4 a5) (o : Nat) : w.frozen? ⟨B, o, none⟩ = false := by unfold HoldsA at h; simp [World.frozen?, h]
theorem HoldsA.lt (h : HoldsA w T B a0 a1 a2 a3 a4 a5) : B < w.heap.size := World.block_lt_of_cell? w _ h.c0
theorem HoldsA.below (h : HoldsA w T B a0 a1 a2 a3 a4 a5) (hb : Below N w w') (hB : B < N) : HoldsA w' T B a0 a1 a2 a3 a4 a5 := (hb.block B hB).trans h
theorem HoldsA.made (w : World) (T : Nat) (a0 a1 a2 a3 a4 a5 : Int) : HoldsA (w.alloc (.cells #[.int .i64 a0, .int .i64 a1, .int .i64 a2, .int .i64 a3, .int .i64 a4, .int .i64 a5] T)) T w.heap.size a0 a1 a2 a3 a4 a5 :=
  heap_alloc_new w _
theorem HoldsA.alloc (h : HoldsA w T B a0 a1 a2 a3 a4 a5) (o : Obj) : HoldsA (w.alloc o) T B a0 a1 a2 a3 a4 a5 := by
  unfold HoldsA at *; rw [Below.heap_alloc _ _ _ (by simpa using HoldsA.lt (T := T) h)]; exact h
theorem HoldsA.drew (h : HoldsA w T B a0 a1 a2 a3 a4 a5) : HoldsA w.drew T B a0 a1 a2 a3 a4 a5 := h
theorem HoldsA.drewN (h : HoldsA w T B a0 a1 a2 a3 a4 a5) (n : Nat) : HoldsA (w.drewN n) T B a0 a1 a2 a3 a4 a5 := h
theorem HoldsA.far (h : HoldsA w T B a0 a1 a2 a3 a4 a5) (p : Addr) (v : Value) (hp : B ≠ p.block) : HoldsA (w.setCell p v) T B a0 a1 a2 a3 a4 a5 := by
  unfold HoldsA at *; rw [Below.heap_setCell _ _ _ _ hp]; exact h
theorem HoldsA.store (h : HoldsA w T B a0 a1 a2 a3 a4 a5) (b0 b1 b2 b3 b4 b5 : Int) :
    HoldsA ((((((w.setCell ⟨B, 0, none⟩ (.int .i64 b0)).setCell ⟨B, 1, none⟩ (.int .i64 b1)).setCell ⟨B, 2, none⟩ (.int .i64 b2)).setCell ⟨B, 3, none⟩ (.int .i64 b3)).setCell ⟨B, 4, none⟩ (.int .i64 b4)).setCell ⟨B, 5, none⟩ (.int .i64 b5)) T B b0 b1 b2 b3 b4 b5 := by
  unfold HoldsA at *
  simp [World.setCell, Array.getElem?_modify, h]
end

theorem flip_row (X y x : Nat) (hx : x < 6) : bits .xor .i64 (row X y) (wrap64 (2 ^ x)) = row (X ^^^ 2 ^ (6 * y + x)) y := by
  unfold row
  rw [row_flip_same X y x hx]
  have h1 : 2 ^ x ≤ 2 ^ 5 := Nat.pow_le_pow_right (by omega) (by omega)
  have h2 := xor_i64 (X / 64 ^ y % 64) (2 ^ x) (by omega) (by omega)
  rw [← h2]
  congr 1
  rw [show (2 : Int) ^ x = ((2 ^ x : Nat) : Int) from by simp]
  generalize 2 ^ x = z at *
  exact IntWalk.wrap64_in _ ⟨by omega, by omega⟩

set_option maxRecDepth 100000 in
theorem l2Flip_any (X x y : Nat) (hx : x < 6) (hy : y < 6) (w : World) :
    Calls Tryz.prog 52 #[(.agg #[.int .i64 (row X 0), .int .i64 (row X 1), .int .i64 (row X 2), .int .i64 (row X 3), .int .i64 (row X 4), .int .i64 (row X 5)]), .int .i64 (x : Int), .int .i64 (y : Int)] w fun e w' => e = .returned (.agg #[.int .i64 (row (X ^^^ 2 ^ (6 * y + x)) 0), .int .i64 (row (X ^^^ 2 ^ (6 * y + x)) 1), .int .i64 (row (X ^^^ 2 ^ (6 * y + x)) 2), .int .i64 (row (X ^^^ 2 ^ (6 * y + x)) 3), .int .i64 (row (X ^^^ 2 ^ (6 * y + x)) 4), .int .i64 (row (X ^^^ 2 ^ (6 * y + x)) 5)]) ∧ Below w.heap.size w w' := by
  have hx1 : (x : Int) < 6 := by omega
  have hs := flip_row X y x hx
  have ho := fun i hi => row_flip_other X y x i hx hi
  generalize X ^^^ 2 ^ (6 * y + x) = Z at *
  rcases (by omega : y = 0 ∨ y = 1 ∨ y = 2 ∨ y = 3 ∨ y = 4 ∨ y = 5) with rfl | rfl | rfl | rfl | rfl | rfl
  · have e1 := (ho 1 (by omega)).symm
    have e2 := (ho 2 (by omega)).symm
    have e3 := (ho 3 (by omega)).symm
    have e4 := (ho 4 (by omega)).symm
    have e5 := (ho 5 (by omega)).symm
    clear ho
    go_enter Tryz.func52, Tryz.ntmps52
    go_wp2
    go_region
    all_goals
      go_wp2
      exact bodyPost_ret (v := (.agg #[.int .i64 (row Z 0), .int .i64 (row Z 1), .int .i64 (row Z 2), .int .i64 (row Z 3), .int .i64 (row Z 4), .int .i64 (row Z 5)])) (by simp [results, Tryz.results52, go_sem, *]) rfl ⟨rfl, (by repeat (first | with_reducible exact Below.refl _ _ | with_reducible assumption | with_reducible refine Below.drew ?_ | with_reducible refine below_drewN ?_ _ | with_reducible refine Below.alloc ?_ ?_ _ | with_reducible refine Below.setCell ?_ ?_ _ | with_reducible refine Below.trans ?_ (Below.mono (by assumption) ?_) | omega | (simp <;> omega)))⟩
  · have e0 := (ho 0 (by omega)).symm
    have e2 := (ho 2 (by omega)).symm
    have e3 := (ho 3 (by omega)).symm
    have e4 := (ho 4 (by omega)).symm
    have e5 := (ho 5 (by omega)).symm
    clear ho
    go_enter Tryz.func52, Tryz.ntmps52
    go_wp2
    go_region
    all_goals
      go_wp2
      exact bodyPost_ret (v := (.agg #[.int .i64 (row Z 0), .int .i64 (row Z 1), .int .i64 (row Z 2), .int .i64 (row Z 3), .int .i64 (row Z 4), .int .i64 (row Z 5)])) (by simp [results, Tryz.results52, go_sem, *]) rfl ⟨rfl, (by repeat (first | with_reducible exact Below.refl _ _ | with_reducible assumption | with_reducible refine Below.drew ?_ | with_reducible refine below_drewN ?_ _ | with_reducible refine Below.alloc ?_ ?_ _ | with_reducible refine Below.setCell ?_ ?_ _ | with_reducible refine Below.trans ?_ (Below.mono (by assumption) ?_) | omega | (simp <;> omega)))⟩
  · have e0 := (ho 0 (by omega)).symm
    have e1 := (ho 1 (by omega)).symm
    have e3 := (ho 3 (by omega)).symm
    have e4 := (ho 4 (by omega)).symm
    have e5 := (ho 5 (by omega)).symm
    clear ho
    go_enter Tryz.func52, Tryz.ntmps52
    go_wp2
    go_region
    all_goals
      go_wp2
      exact bodyPost_ret (v := (.agg #[.int .i64 (row Z 0), .int .i64 (row Z 1), .int .i64 (row Z 2), .int .i64 (row Z 3), .int .i64 (row Z 4), .int .i64 (row Z 5)])) (by simp [results, Tryz.results52, go_sem, *]) rfl ⟨rfl, (by repeat (first | with_reducible exact Below.refl _ _ | with_reducible assumption | with_reducible refine Below.drew ?_ | with_reducible refine below_drewN ?_ _ | with_reducible refine Below.alloc ?_ ?_ _ | with_reducible refine Below.setCell ?_ ?_ _ | with_reducible refine Below.trans ?_ (Below.mono (by assumption) ?_) | omega | (simp <;> omega)))⟩
  · have e0 := (ho 0 (by omega)).symm
    have e1 := (ho 1 (by omega)).symm
    have e2 := (ho 2 (by omega)).symm
    have e4 := (ho 4 (by omega)).symm
    have e5 := (ho 5 (by omega)).symm
    clear ho
    go_enter Tryz.func52, Tryz.ntmps52
    go_wp2
    go_region
    all_goals
      go_wp2
      exact bodyPost_ret (v := (.agg #[.int .i64 (row Z 0), .int .i64 (row Z 1), .int .i64 (row Z 2), .int .i64 (row Z 3), .int .i64 (row Z 4), .int .i64 (row Z 5)])) (by simp [results, Tryz.results52, go_sem, *]) rfl ⟨rfl, (by repeat (first | with_reducible exact Below.refl _ _ | with_reducible assumption | with_reducible refine Below.drew ?_ | with_reducible refine below_drewN ?_ _ | with_reducible refine Below.alloc ?_ ?_ _ | with_reducible refine Below.setCell ?_ ?_ _ | with_reducible refine Below.trans ?_ (Below.mono (by assumption) ?_) | omega | (simp <;> omega)))⟩
  · have e0 := (ho 0 (by omega)).symm
    have e1 := (ho 1 (by omega)).symm
    have e2 := (ho 2 (by omega)).symm
    have e3 := (ho 3 (by omega)).symm
    have e5 := (ho 5 (by omega)).symm
    clear ho
    go_enter Tryz.func52, Tryz.ntmps52
    go_wp2
    go_region
    all_goals
      go_wp2
      exact bodyPost_ret (v := (.agg #[.int .i64 (row Z 0), .int .i64 (row Z 1), .int .i64 (row Z 2), .int .i64 (row Z 3), .int .i64 (row Z 4), .int .i64 (row Z 5)])) (by simp [results, Tryz.results52, go_sem, *]) rfl ⟨rfl, (by repeat (first | with_reducible exact Below.refl _ _ | with_reducible assumption | with_reducible refine Below.drew ?_ | with_reducible refine below_drewN ?_ _ | with_reducible refine Below.alloc ?_ ?_ _ | with_reducible refine Below.setCell ?_ ?_ _ | with_reducible refine Below.trans ?_ (Below.mono (by assumption) ?_) | omega | (simp <;> omega)))⟩
  · have e0 := (ho 0 (by omega)).symm
    have e1 := (ho 1 (by omega)).symm
    have e2 := (ho 2 (by omega)).symm
    have e3 := (ho 3 (by omega)).symm
    have e4 := (ho 4 (by omega)).symm
    clear ho
    go_enter Tryz.func52, Tryz.ntmps52
    go_wp2
    go_region
    all_goals
      go_wp2
      exact bodyPost_ret (v := (.agg #[.int .i64 (row Z 0), .int .i64 (row Z 1), .int .i64 (row Z 2), .int .i64 (row Z 3), .int .i64 (row Z 4), .int .i64 (row Z 5)])) (by simp [results, Tryz.results52, go_sem, *]) rfl ⟨rfl, (by repeat (first | with_reducible exact Below.refl _ _ | with_reducible assumption | with_reducible refine Below.drew ?_ | with_reducible refine below_drewN ?_ _ | with_reducible refine Below.alloc ?_ ?_ _ | with_reducible refine Below.setCell ?_ ?_ _ | with_reducible refine Below.trans ?_ (Below.mono (by assumption) ?_) | omega | (simp <;> omega)))⟩

/-- the cells of a list, as pairs -/
def pairs (L : List Nat) : List Value := L.flatMap fun n : Nat => [Value.int .i64 ((n % 6 : Nat) : Int), Value.int .i64 ((n / 6 : Nat) : Int)]
theorem pairs_len (L : List Nat) : (pairs L).length = L.length * 2 := by
  unfold pairs
  induction L with
  | nil => rfl
  | cons a L ih =>
    rw [List.flatMap_cons, List.length_append, ih]
    simp only [List.length_cons, List.length_nil]
    omega
theorem pairs_snoc (L : List Nat) (n : Nat) : pairs (L ++ [n]) = pairs L ++ [Value.int .i64 ((n % 6 : Nat) : Int), Value.int .i64 ((n / 6 : Nat) : Int)] := by
  unfold pairs; simp
theorem infoPair : (Tryz.prog.info? 102).map (fun i => (i.zero, i.size, i.bytes)) = some (some (.agg #[.int .i64 0, .int .i64 0]), 2, 16) := by kernel_rfl

/-- the slice value v is no nil slice and holds the cells of L -/
def OwnsPairs (w : World) (B : Nat) (v : Value) (L : List Nat) : Prop :=
  w.ownsRow B 102 2 v L.length (pairs L) ∧ v ≠ .slice none 0 0
/-- what l2Cells leaves -/
def PairsEnd (X : Nat) (w : World) (e : Ending) (w' : World) : Prop :=
  ∃ v, e = .returned v ∧ OwnsPairs w' w.heap.size v (cellsL X) ∧ Below w.heap.size w w'
theorem ownsP_empty (w : World) (B g : Nat) (hB : B ≤ w.heap.size) (hg : g = w.heap.size) : OwnsPairs (w.alloc (.cells #[] 102)) B (.slice (some ⟨g, 0, none⟩) 0 0) [] := by
  subst hg
  exact ⟨World.ownsRow_lit (e := 102) w #[] 0 hB (by unfold maxLen; omega) (by simp), by simp⟩

/-- behind the y rows and x cells of the row y -/
def CellsRel (X y : Nat) (w : World) (o i : Value) (wr : World) : Prop :=
  ∃ x : Nat, x ≤ 6 ∧ i = .int .i64 (x : Int) ∧ OwnsPairs wr (w.heap.size + 1) o (cellsN X (6 * y + x)) ∧ Below w.heap.size w wr ∧ HoldsA wr 26 w.heap.size (row X 0) (row X 1) (row X 2) (row X 3) (row X 4) (row X 5)
def CellsRelY (X : Nat) (w : World) (o i : Value) (wr : World) : Prop :=
  ∃ y : Nat, y ≤ 6 ∧ i = .int .i64 (y : Int) ∧ OwnsPairs wr (w.heap.size + 1) o (cellsN X (6 * y)) ∧ Below w.heap.size w wr ∧ HoldsA wr 26 w.heap.size (row X 0) (row X 1) (row X 2) (row X 3) (row X 4) (row X 5)

set_option maxRecDepth 100000 in
theorem l2Cells_any (X : Nat) (w : World) : Calls Tryz.prog 68 #[(.agg #[.int .i64 (row X 0), .int .i64 (row X 1), .int .i64 (row X 2), .int .i64 (row X 3), .int .i64 (row X 4), .int .i64 (row X 5)])] w (PairsEnd X w) := by
  obtain ⟨i0, hi, iz0, iz1, iz2⟩ := info_parts infoPair
  go_enter Tryz.func68, Tryz.ntmps68
  go_wp2
  go_loopw [3, 4] (CellsRelY X w) (fun _ i _ => 6 - (intOf i).toNat)
  case atStart => exact ⟨0, Nat.zero_le _, rfl, ownsP_empty (w.alloc _) (w.heap.size + 1) _ (by simp) (by simp), (by repeat (first | with_reducible exact Below.refl _ _ | with_reducible assumption | with_reducible refine Below.drew ?_ | with_reducible refine below_drewN ?_ _ | with_reducible refine Below.alloc ?_ ?_ _ | with_reducible refine Below.setCell ?_ ?_ _ | with_reducible refine Below.trans ?_ (Below.mono (by assumption) ?_) | omega | (simp <;> omega))), (HoldsA.made _ _ _ _ _ _ _ _).alloc _⟩
  case round =>
    obtain ⟨y, hy, rfl, ⟨hown, hnn⟩, hbw, hh⟩ := hrel
    by_cases hlt : y < 6
    · have hlt' : (y : Int) < 6 := by omega
      go_wp2
      obtain ⟨wo, rfl⟩ : ∃ wo : World, wo = wr := ⟨_, rfl⟩
      go_loopw [3, 5] (CellsRel X y w) (fun _ i _ => 6 - (intOf i).toNat)
      case atStart => exact ⟨0, Nat.zero_le _, rfl, ⟨hown, hnn⟩, hbw, hh⟩
      case round =>
        clear hown hnn hbw hh
        obtain ⟨x, hx, rfl, ⟨hown, hnn⟩, hbw, hh⟩ := hrel
        have hle := cellsN_le X (6 * y + x)
        have hbs := hbw.size
        have c0 := hh.c0
        have c1 := hh.c1
        have c2 := hh.c2
        have c3 := hh.c3
        have c4 := hh.c4
        have c5 := hh.c5
        have hwl := hh.lt
        by_cases hlx : x < 6
        · have hlx' : (x : Int) < 6 := by omega
          cases hbit : X.testBit (6 * y + x) with
          | true =>
            go_wp2_with (first | (go_at_call 72; (with_reducible refine (l2Get_any _ _ _ hlx hlt _).mono ?_); rintro e w1 ⟨rfl, hb⟩; obtain ⟨hc, hf, hT, hz⟩ := bfacts hb; (try simp only [World.size_alloc, World.size_setCell, World.size_drew, size_drewN] at hc hf hT hz); (try (have hzA := Nat.lt_of_succ_le hz)); (try (have hl0 : w.heap.size ≤ w1.heap.size := by omega)); (try (have hz0 : w.heap.size < w1.heap.size := by omega)); (try (have hz1 : w.heap.size + 1 < w1.heap.size := by omega)); (try (have hz2 : w.heap.size + 1 + 1 < w1.heap.size := by omega)); (try (have hz3 : w.heap.size + 1 + 1 + 1 < w1.heap.size := by omega)); (try (have hz4 : w.heap.size + 1 + 1 + 1 + 1 < w1.heap.size := by omega))) | (at_builtin; refine wpList_append_own _ rfl _ _ 99 rfl (w.heap.size + 1) 102 i0 (.agg #[.int .i64 0, .int .i64 0]) 2 16 Tryz.underlying99 hi iz0 iz1 iz2 rfl (by decide) _ _ _ rfl ((owns_below hb hown).alloc _) ⟨w1.heap.size, 0, none⟩ 1 1 [.int .i64 (x : Int), .int .i64 (y : Int)] rfl rfl ?c1 ?c2 ?c3 ?c4 ?c5 ?_))
            case c1 =>
              intro j u hj
              match j, hj with
              | 0, hj => simp at hj; subst hj; simp [Addr.add]
              | 1, hj => simp at hj; subst hj; simp [Addr.add]
            case c2 =>
              intro u hu
              simp at hu
              rcases hu with rfl | rfl <;> rfl
            case c3 => unfold maxLen; omega
            case c4 => omega
            case c5 => have := hbw.size; have := hb.size; simp; omega
            intro v' w2 hown' hgrow hnil
            have hB2 : Below w.heap.size w w2 := ((hbw.trans (hb.mono hbw.size)).alloc (by omega) _).grown hgrow (by simp; omega) (fun j hj => by have := (hown.lt j hj).1; omega)
            have hN : v' ≠ .slice none 0 0 := fun h => by first | exact hnil h | exact hnn (hnil.1 h).1
            have hO : OwnsPairs w2 (w.heap.size + 1) v' (cellsN X (6 * y + (x + 1))) := by
              rw [← Nat.add_assoc]
              unfold cellsN OwnsPairs
              rw [if_pos hbit, pairs_snoc, show (6 * y + x) % 6 = x from by omega, show (6 * y + x) / 6 = y from by omega]
              exact ⟨by simpa using hown', hN⟩
            have hH : HoldsA w2 26 w.heap.size (row X 0) (row X 1) (row X 2) (row X 3) (row X 4) (row X 5) := by
              have h3 : w2.heap[w.heap.size]? = (w1.alloc (.cells #[.int .i64 (x : Int), .int .i64 (y : Int)] 102)).heap[w.heap.size]? :=
                hgrow.block _ (by simp; omega) (fun e => by have := (hown.lt _ e.symm).1; omega)
              exact h3.trans ((hh.below hb hwl).alloc _)
            clear hown' hgrow hnil hown hnn hN
            go_wp2
            go_roundw
            case rel => exact ⟨x + 1, by omega, by go_num, hO, hB2, hH⟩
            case measure => simp [intOf]; omega
          | false =>
            go_wp2_with (go_at_call 72; (with_reducible refine (l2Get_any _ _ _ hlx hlt _).mono ?_); rintro e w1 ⟨rfl, hb⟩; obtain ⟨hc, hf, hT, hz⟩ := bfacts hb; (try simp only [World.size_alloc, World.size_setCell, World.size_drew, size_drewN] at hc hf hT hz); (try (have hzA := Nat.lt_of_succ_le hz)); (try (have hl0 : w.heap.size ≤ w1.heap.size := by omega)); (try (have hz0 : w.heap.size < w1.heap.size := by omega)); (try (have hz1 : w.heap.size + 1 < w1.heap.size := by omega)); (try (have hz2 : w.heap.size + 1 + 1 < w1.heap.size := by omega)); (try (have hz3 : w.heap.size + 1 + 1 + 1 < w1.heap.size := by omega)); (try (have hz4 : w.heap.size + 1 + 1 + 1 + 1 < w1.heap.size := by omega)))
            go_roundw
            case rel =>
              refine ⟨x + 1, by omega, by go_num, ?_, hbw.trans (hb.mono hbw.size), hh.below hb hwl⟩
              rw [← Nat.add_assoc]
              unfold cellsN
              rw [if_neg (by rw [hbit]; decide)]
              exact ⟨owns_below hb hown, hnn⟩
            case measure => simp [intOf]; omega
        · have e : x = 6 := by omega
          subst e
          go_wp2
          go_roundw
          case rel => exact ⟨y + 1, by omega, by go_num, ⟨hown, hnn⟩, hbw, hh⟩
          case measure => simp [intOf]; omega
    · have e : y = 6 := by omega
      subst e
      go_wp2
      go_ret
      exact ⟨_, rfl, ⟨Joins.ownsRow_le hown (by omega), hnn⟩, hbw⟩
end Go.Proofs.YtgjgefbcfcomcaaGreatDoor
