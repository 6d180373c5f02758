/-
  The motions that keep a sheet: contracts of the reference's l3Kept, and of KeptBy and CountForms. No conditions.
-/
import Derived.Test.YtidaoalnngmoaaaF3b
import Derived.Test.YtidaoalnngmoaaaDe
namespace Go.Proofs.Ytidaoalnngmoaaa
open Go.RowKit
set_option linter.unusedSimpArgs false
set_option linter.unusedVariables false

theorem l3Move_at (X k x y : Nat) (hX : Vs X) (hk : k < 8) (hx : x < 6) (hy : y < 6) (w : World) : Calls Try.prog 87 #[(.agg #[.int .i64 (row X 0), .int .i64 (row X 1), .int .i64 (row X 2), .int .i64 (row X 3), .int .i64 (row X 4), .int .i64 (row X 5)]), .agg #[.int .i64 (k : Int), .int .i64 (x : Int), .int .i64 (y : Int)]] w fun e w' => e = .returned (.agg #[.int .i64 (row (mvN X (36 * k + 6 * x + y)) 0), .int .i64 (row (mvN X (36 * k + 6 * x + y)) 1), .int .i64 (row (mvN X (36 * k + 6 * x + y)) 2), .int .i64 (row (mvN X (36 * k + 6 * x + y)) 3), .int .i64 (row (mvN X (36 * k + 6 * x + y)) 4), .int .i64 (row (mvN X (36 * k + 6 * x + y)) 5)]) ∧ Below w.heap.size w w' := by
  have h := l3Move_any X k x y hX hk hx hy w
  have e : moveS k x y X = mvN X (36 * k + 6 * x + y) := by
    unfold mvN
    rw [show (36 * k + 6 * x + y) / 36 = k by omega, show (36 * k + 6 * x + y) % 36 / 6 = x by omega, show (36 * k + 6 * x + y) % 6 = y by omega]
  rw [e] at h
  exact h
def KpMem (X n : Nat) (w : World) (o : Value) (wr : World) : Prop := OwnsT wr (w.heap.size + 1) o (kpN X n) ∧ Below w.heap.size w wr ∧ HoldsA wr 33 (w.heap.size) (row X 0) (row X 1) (row X 2) (row X 3) (row X 4) (row X 5)
def KpRelK (X : Nat) (w : World) (o i : Value) (wr : World) : Prop := ∃ k : Nat, k ≤ 8 ∧ i = .int .i64 (k : Int) ∧ KpMem X (36 * k) w o wr
def KpRelX (X k : Nat) (w : World) (o i : Value) (wr : World) : Prop := ∃ x : Nat, x ≤ 6 ∧ i = .int .i64 (x : Int) ∧ KpMem X (36 * k + 6 * x) w o wr
def KpRelY (X k x : Nat) (w : World) (o i : Value) (wr : World) : Prop := ∃ y : Nat, y ≤ 6 ∧ i = .int .i64 (y : Int) ∧ KpMem X (36 * k + 6 * x + y) w o wr
set_option maxRecDepth 100000 in
set_option maxHeartbeats 3200000 in
theorem l3Kept_any (X : Nat) (hX : Vs X) (w : World) : Calls Try.prog 93 #[(.agg #[.int .i64 (row X 0), .int .i64 (row X 1), .int .i64 (row X 2), .int .i64 (row X 3), .int .i64 (row X 4), .int .i64 (row X 5)])] w (KeptEnd X w) := by
  obtain ⟨i0, hi, iz0, iz1, iz2⟩ := info_parts infoTri
  go_enter Try.func93, Try.ntmps93
  go_wp2
  go_loopw [3, 4] (KpRelK X w) (fun _ i _ => 8 - (intOf i).toNat)
  case atStart => exact ⟨0, Nat.zero_le _, rfl, ownsT_empty (w.alloc _) (w.heap.size + 1) _ (by simp) (by simp), (by repeat (first | with_reducible exact Below.refl _ _ | with_reducible assumption | with_reducible refine Below.drew ?_ | with_reducible refine below_drewN ?_ _ | with_reducible refine Below.alloc ?_ ?_ _ | with_reducible refine Below.setCell ?_ ?_ _ | with_reducible refine Below.trans ?_ (Below.mono (by assumption) ?_) | omega | (simp <;> omega))), (HoldsA.made _ _ _ _ _ _ _ _).alloc _⟩
  case round =>
    obtain ⟨k, hk, rfl, hm⟩ := hrel
    by_cases hlt : k < 8
    · have hlt' : (k : Int) < 8 := by omega
      go_wp2
      obtain ⟨wo, rfl⟩ : ∃ wo : World, wo = wr := ⟨_, rfl⟩
      go_loopw [3, 5] (KpRelX X k w) (fun _ i _ => 6 - (intOf i).toNat)
      case atStart => exact ⟨0, Nat.zero_le _, rfl, hm⟩
      case round =>
        clear hm
        obtain ⟨x, hx, rfl, hm⟩ := hrel
        by_cases hlx : x < 6
        · have hlx' : (x : Int) < 6 := by omega
          go_wp2
          obtain ⟨wo2, rfl⟩ : ∃ wo2 : World, wo2 = wr := ⟨_, rfl⟩
          go_loopw [3, 6] (KpRelY X k x w) (fun _ i _ => 6 - (intOf i).toNat)
          case atStart => exact ⟨0, Nat.zero_le _, rfl, hm⟩
          case round =>
            clear hm
            obtain ⟨y, hy, rfl, ⟨hown, hnn⟩, hbw, h0⟩ := hrel
            have hle := kpN_len X (36 * k + 6 * x + y)
            have hbsz := hbw.size
            have hlw := h0.lt
            by_cases hly : y < 6
            · have hly' : (y : Int) < 6 := by omega
              have hx0 := h0.c0
              have hx1 := h0.c1
              have hx2 := h0.c2
              have hx3 := h0.c3
              have hx4 := h0.c4
              have hx5 := h0.c5
              have hxf := h0.free
              have hMV := Lib.hid (l3Move_at X k x y hX hlt hlx hly)
              by_cases hkm : mvN X (36 * k + 6 * x + y) = X
              · have hd := rows_yes (mvN X (36 * k + 6 * x + y)) X (mvN_vs _ _) hX hkm
                have hKM := Lib.hid hkm
                clear hkm
                go_wp2
                go_region_held3 (fun w' => w'.cell? ⟨w.heap.size, 0, none⟩ = some (.int .i64 (row X 0)) ∧ w'.cell? ⟨w.heap.size, 1, none⟩ = some (.int .i64 (row X 1)) ∧ w'.cell? ⟨w.heap.size, 2, none⟩ = some (.int .i64 (row X 2)) ∧ w'.cell? ⟨w.heap.size, 3, none⟩ = some (.int .i64 (row X 3)) ∧ w'.cell? ⟨w.heap.size, 4, none⟩ = some (.int .i64 (row X 4)) ∧ w'.cell? ⟨w.heap.size, 5, none⟩ = some (.int .i64 (row X 5)) ∧ w'.cell? ⟨wr.heap.size, 0, none⟩ = some (.int .i64 (↑k)) ∧ w'.cell? ⟨wr.heap.size, 1, none⟩ = some (.int .i64 (↑x)) ∧ w'.cell? ⟨wr.heap.size, 2, none⟩ = some (.int .i64 (↑y))) (simp [*, World.cell?_alloc_some, World.cell?_setCell_far, Nat.ne_of_gt]) (first | (first | (go_at_call 87; (with_reducible refine (hMV.out _).mono ?_); rintro e w1 ⟨rfl, hb⟩; obtain ⟨hc, hf, hT, hz⟩ := bfacts hb; (try simp only [World.size_alloc, World.size_setCell, World.size_drew, size_drewN] at hc hf hT hz); (try (have hzA := Nat.lt_of_succ_le hz)); (try (have hl0 : w.heap.size ≤ w1.heap.size := by omega)); (try (have hz0 : w.heap.size < w1.heap.size := by omega)); (try (have hz1 : w.heap.size + 1 < w1.heap.size := by omega)); (try (have hz2 : w.heap.size + 1 + 1 < w1.heap.size := by omega)); (try (have hz3 : w.heap.size + 1 + 1 + 1 < w1.heap.size := by omega)); (try (have hz4 : w.heap.size + 1 + 1 + 1 + 1 < w1.heap.size := by omega)))))
                all_goals
                  have hBB : Below wr.heap.size wr w1 := (by repeat (first | with_reducible exact Below.refl _ _ | with_reducible assumption | with_reducible refine Below.drew ?_ | with_reducible refine below_drewN ?_ _ | with_reducible refine Below.alloc ?_ ?_ _ | with_reducible refine Below.setCell ?_ ?_ _ | with_reducible refine Below.trans ?_ (Below.mono (by assumption) ?_) | omega | (simp <;> omega)))
                  have hown1 := owns_below hBB hown
                  have e0 := h0.below hBB h0.lt
                  have hBw := hbw.trans (hBB.mono hbw.size)
                  have hzz := hBB.size
                  have hlm : wr.heap.size < w1.heap.size := by omega
                  go_wp2_with (at_builtin; refine wpList_append_own _ rfl _ _ 52 rfl (w.heap.size + 1) 39 i0 (.agg #[.int .i64 0, .int .i64 0, .int .i64 0]) 3 24 Try.underlying52 hi iz0 iz1 iz2 rfl (by decide) _ _ _ rfl (hown1.alloc _) ⟨w1.heap.size, 0, none⟩ 1 1 [.int .i64 (k : Int), .int .i64 (x : Int), .int .i64 (y : Int)] rfl rfl ?c1 ?c2 ?c3 ?c4 ?c5 ?_)
                  case c1 =>
                    intro j u hj
                    match j, hj with
                    | 0, hj => simp at hj; subst hj; simp [Addr.add]
                    | 1, hj => simp at hj; subst hj; simp [Addr.add]
                    | 2, hj => simp at hj; subst hj; simp [Addr.add]
                  case c2 =>
                    intro u hu
                    simp at hu
                    rcases hu with rfl | rfl | rfl <;> rfl
                  case c3 => unfold maxLen; omega
                  case c4 => omega
                  case c5 => simp; omega
                  intro v' w2 hown' hgrow hnil
                  have hB : Below w.heap.size w w2 := (hBw.alloc hBw.size _).grown hgrow (by simp; omega) (fun j hj => by have := (hown.lt j hj).1; omega)
                  have hN : v' ≠ .slice none 0 0 := fun h => by first | exact hnil h | exact hnn (hnil.1 h).1
                  have hO : OwnsT w2 (w.heap.size + 1) v' (kpN X (36 * k + 6 * x + (y + 1))) := by
                    rw [← Nat.add_assoc]
                    unfold kpN OwnsT
                    rw [if_pos hKM.out, trI_snoc, show ((36 * k + 6 * x + y : Nat) : Int) / 36 = (k : Int) by omega, show ((36 * k + 6 * x + y : Nat) : Int) % 36 / 6 = (x : Int) by omega, show ((36 * k + 6 * x + y : Nat) : Int) % 6 = (y : Int) by omega]
                    exact ⟨by simpa using hown', hN⟩
                  have hH : HoldsA w2 33 (w.heap.size) (row X 0) (row X 1) (row X 2) (row X 3) (row X 4) (row X 5) := by
                    have h3 : w2.heap[w.heap.size]? = (w1.alloc (.cells #[.int .i64 (k : Int), .int .i64 (x : Int), .int .i64 (y : Int)] 39)).heap[w.heap.size]? :=
                      hgrow.block _ (by simp; omega) (fun e => by have := (hown.lt _ e.symm).1; omega)
                    exact h3.trans (e0.alloc _)
                  clear hown' hgrow hnil hown hnn hN hown1
                  go_wp2
                  go_roundw
                  case rel => exact ⟨y + 1, by omega, by go_num, hO, hB, hH⟩
                  case measure => simp [intOf]; omega
              · have hd := rows_no (mvN X (36 * k + 6 * x + y)) X (mvN_vs _ _) hX hkm
                have hO : kpN X (36 * k + 6 * x + (y + 1)) = kpN X (36 * k + 6 * x + y) := by rw [← Nat.add_assoc, kpN, if_neg hkm]
                have hOO := Lib.hid hO
                clear hkm hO
                go_wp2
                go_region_held3 (fun w' => w'.cell? ⟨w.heap.size, 0, none⟩ = some (.int .i64 (row X 0)) ∧ w'.cell? ⟨w.heap.size, 1, none⟩ = some (.int .i64 (row X 1)) ∧ w'.cell? ⟨w.heap.size, 2, none⟩ = some (.int .i64 (row X 2)) ∧ w'.cell? ⟨w.heap.size, 3, none⟩ = some (.int .i64 (row X 3)) ∧ w'.cell? ⟨w.heap.size, 4, none⟩ = some (.int .i64 (row X 4)) ∧ w'.cell? ⟨w.heap.size, 5, none⟩ = some (.int .i64 (row X 5)) ∧ w'.cell? ⟨wr.heap.size, 0, none⟩ = some (.int .i64 (↑k)) ∧ w'.cell? ⟨wr.heap.size, 1, none⟩ = some (.int .i64 (↑x)) ∧ w'.cell? ⟨wr.heap.size, 2, none⟩ = some (.int .i64 (↑y))) (simp [*, World.cell?_alloc_some, World.cell?_setCell_far, Nat.ne_of_gt]) (first | (first | (go_at_call 87; (with_reducible refine (hMV.out _).mono ?_); rintro e w1 ⟨rfl, hb⟩; obtain ⟨hc, hf, hT, hz⟩ := bfacts hb; (try simp only [World.size_alloc, World.size_setCell, World.size_drew, size_drewN] at hc hf hT hz); (try (have hzA := Nat.lt_of_succ_le hz)); (try (have hl0 : w.heap.size ≤ w1.heap.size := by omega)); (try (have hz0 : w.heap.size < w1.heap.size := by omega)); (try (have hz1 : w.heap.size + 1 < w1.heap.size := by omega)); (try (have hz2 : w.heap.size + 1 + 1 < w1.heap.size := by omega)); (try (have hz3 : w.heap.size + 1 + 1 + 1 < w1.heap.size := by omega)); (try (have hz4 : w.heap.size + 1 + 1 + 1 + 1 < w1.heap.size := by omega)))))
                all_goals
                  have hBB : Below wr.heap.size wr w1 := (by repeat (first | with_reducible exact Below.refl _ _ | with_reducible assumption | with_reducible refine Below.drew ?_ | with_reducible refine below_drewN ?_ _ | with_reducible refine Below.alloc ?_ ?_ _ | with_reducible refine Below.setCell ?_ ?_ _ | with_reducible refine Below.trans ?_ (Below.mono (by assumption) ?_) | omega | (simp <;> omega)))
                  have hown1 := owns_below hBB hown
                  have e0 := h0.below hBB h0.lt
                  have hBw := hbw.trans (hBB.mono hbw.size)
                  go_wp2
                  go_roundw
                  case rel => exact ⟨y + 1, by omega, by go_num, by rw [hOO.out]; exact ⟨hown1, hnn⟩, hBw, e0⟩
                  case measure => simp [intOf]; omega
            · have e : y = 6 := by omega
              subst e
              go_wp2
              go_roundw
              case rel => exact ⟨x + 1, by omega, by go_num, by rw [show 36 * k + 6 * (x + 1) = 36 * k + 6 * x + 6 by omega]; exact ⟨hown, hnn⟩, hbw, h0⟩
              case measure => simp [intOf]; omega
        · have e : x = 6 := by omega
          subst e
          go_wp2
          go_roundw
          case rel => exact ⟨k + 1, by omega, by go_num, by rw [show 36 * (k + 1) = 36 * k + 6 * 6 by omega]; exact hm⟩
          case measure => simp [intOf]; omega
    · have e : k = 8 := by omega
      subst e
      obtain ⟨⟨hown, hnn⟩, hbw, h0⟩ := hm
      obtain ⟨g, cap, rfl, q1, q2, q3, q4⟩ := OwnsT.row ⟨hown, hnn⟩
      go_wp2
      go_ret
      exact ⟨g, cap, rfl, q1, q2, by omega, q4, hbw⟩
end Go.Proofs.Ytidaoalnngmoaaa
