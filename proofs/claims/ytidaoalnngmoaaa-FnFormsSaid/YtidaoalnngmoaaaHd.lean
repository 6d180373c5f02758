/-
  The reference's draw of a stamp: what it leaves. No conditions.
-/
import Derived.Test.YtidaoalnngmoaaaHc
namespace Go.Proofs.Ytidaoalnngmoaaa
open Go.RowKit
set_option linter.unusedSimpArgs false
set_option linter.unusedVariables false

theorem HoldsA.s0 {w : World} {T B : Nat} {a0 a1 a2 a3 a4 a5 : Int} (h : HoldsA w T B a0 a1 a2 a3 a4 a5) (v : Int) : HoldsA (w.setCell ⟨B, 0, none⟩ (.int .i64 v)) T B v a1 a2 a3 a4 a5 := by
  unfold HoldsA at *
  simp [World.setCell, Array.getElem?_modify, h]
theorem HoldsA.s1 {w : World} {T B : Nat} {a0 a1 a2 a3 a4 a5 : Int} (h : HoldsA w T B a0 a1 a2 a3 a4 a5) (v : Int) : HoldsA (w.setCell ⟨B, 1, none⟩ (.int .i64 v)) T B a0 v a2 a3 a4 a5 := by
  unfold HoldsA at *
  simp [World.setCell, Array.getElem?_modify, h]
theorem HoldsA.s2 {w : World} {T B : Nat} {a0 a1 a2 a3 a4 a5 : Int} (h : HoldsA w T B a0 a1 a2 a3 a4 a5) (v : Int) : HoldsA (w.setCell ⟨B, 2, none⟩ (.int .i64 v)) T B a0 a1 v a3 a4 a5 := by
  unfold HoldsA at *
  simp [World.setCell, Array.getElem?_modify, h]
theorem HoldsA.s3 {w : World} {T B : Nat} {a0 a1 a2 a3 a4 a5 : Int} (h : HoldsA w T B a0 a1 a2 a3 a4 a5) (v : Int) : HoldsA (w.setCell ⟨B, 3, none⟩ (.int .i64 v)) T B a0 a1 a2 v a4 a5 := by
  unfold HoldsA at *
  simp [World.setCell, Array.getElem?_modify, h]
theorem HoldsA.s4 {w : World} {T B : Nat} {a0 a1 a2 a3 a4 a5 : Int} (h : HoldsA w T B a0 a1 a2 a3 a4 a5) (v : Int) : HoldsA (w.setCell ⟨B, 4, none⟩ (.int .i64 v)) T B a0 a1 a2 a3 v a5 := by
  unfold HoldsA at *
  simp [World.setCell, Array.getElem?_modify, h]
theorem HoldsA.s5 {w : World} {T B : Nat} {a0 a1 a2 a3 a4 a5 : Int} (h : HoldsA w T B a0 a1 a2 a3 a4 a5) (v : Int) : HoldsA (w.setCell ⟨B, 5, none⟩ (.int .i64 v)) T B a0 a1 a2 a3 a4 v := by
  unfold HoldsA at *
  simp [World.setCell, Array.getElem?_modify, h]

theorem Cur.drew {w : World} {C len n : Nat} {cv : Value} (h : Cur w C cv len n) : Cur w.drew C cv len n := h
def StRel3 (C : Nat) (cv : Value) (len n S : Nat) (w : World) (i : Value) (wr : World) : Prop :=
  ∃ k : Nat, k ≤ 5 ∧ i = .int .i64 (k : Int) ∧ ∃ a0 a1 a2 a3 a4 a5 : Int, HoldsA wr 33 S a0 a1 a2 a3 a4 a5 ∧ HoldsA wr 33 w.heap.size 0 0 0 0 0 0 ∧ Cur wr C cv len (n + 3 + 2 * (5 - k)) ∧ w.grownBy wr (some C)
set_option maxRecDepth 100000 in
set_option maxHeartbeats 6400000 in
theorem stamp_draw {C len n : Nat} {cv : Value} {w : World} (hcur : Cur w C cv len n) (hn : n ≤ 800000) (hlen : len ≤ 1000000) : Calls Try.prog 102 #[.pointer (some ⟨C, 0, none⟩)] w (SheetEnd C cv len (n + 60) w) := by
  have hCl := hcur.lt
  go_enter Try.func102, Try.ntmps102
  go_wp2_with (first | (go_at_call 107; (with_reducible refine (one_c (by first | assumption | exact Cur.alloc (by assumption) _ | exact Cur.alloc (Cur.alloc (by assumption) _) _) 12 ⟨by omega, by omega⟩ (by omega) hlen).mono ?_); rintro e w1 ⟨b, rfl, hcu, hg⟩; obtain ⟨hc, hf, hT, hz⟩ := gfacts hg; (try simp only [World.size_alloc, World.size_setCell, World.size_drew, size_drewN] at hc hf hT hz); (try (have hzA := Nat.lt_of_succ_le hz)); (try (have hl0 : w.heap.size ≤ w1.heap.size := by omega)); (try (have hz0 : w.heap.size < w1.heap.size := by omega)); (try (have hz1 : w.heap.size + 1 < w1.heap.size := by omega)); (have hR : HoldsA w1 33 w.heap.size 0 0 0 0 0 0 := HoldsA.grown (by repeat (first | with_reducible assumption | (with_reducible refine HoldsA.made' ?_; (simp; done)) | with_reducible refine HoldsA.alloc ?_ _ | with_reducible refine HoldsA.drew ?_ | with_reducible refine HoldsA.drewN ?_ _ | (with_reducible refine HoldsA.far ?_ _ _ (by first | (simp; done) | (simp; omega) | omega)))) hg hCl)) | (go_at_call 99; (with_reducible refine (sheet_c (by first | assumption | exact Cur.alloc (by assumption) _ | exact Cur.alloc (Cur.alloc (by assumption) _) _) (by omega) hlen).mono ?_); rintro e w1 ⟨a0, a1, a2, a3, a4, a5, rfl, hcu, hg⟩; obtain ⟨hc, hf, hT, hz⟩ := gfacts hg; (try simp only [World.size_alloc, World.size_setCell, World.size_drew, size_drewN] at hc hf hT hz); (try (have hzA := Nat.lt_of_succ_le hz)); (try (have hl0 : w.heap.size ≤ w1.heap.size := by omega)); (try (have hz0 : w.heap.size < w1.heap.size := by omega)); (try (have hz1 : w.heap.size + 1 < w1.heap.size := by omega)); (have hR : HoldsA w1 33 w.heap.size 0 0 0 0 0 0 := HoldsA.grown (by repeat (first | with_reducible assumption | (with_reducible refine HoldsA.made' ?_; (simp; done)) | with_reducible refine HoldsA.alloc ?_ _ | with_reducible refine HoldsA.drew ?_ | with_reducible refine HoldsA.drewN ?_ _ | (with_reducible refine HoldsA.far ?_ _ _ (by first | (simp; done) | (simp; omega) | omega)))) hg hCl)) | (go_at_call 119; (with_reducible refine (am_c_wide (by first | assumption | exact Cur.alloc (by assumption) _ | exact Cur.alloc (Cur.alloc (by assumption) _) _) (by omega) hlen _ (by simp) _).mono ?_); rintro e w1 ⟨wide, rfl, ⟨wide0, wide1⟩, hcu, hg⟩; obtain ⟨hc, hf, hT, hz⟩ := gfacts hg; (try simp only [World.size_alloc, World.size_setCell, World.size_drew, size_drewN] at hc hf hT hz); (try (have hzA := Nat.lt_of_succ_le hz)); (try (have hl0 : w.heap.size ≤ w1.heap.size := by omega)); (try (have hz0 : w.heap.size < w1.heap.size := by omega)); (try (have hz1 : w.heap.size + 1 < w1.heap.size := by omega)); (have hR : HoldsA w1 33 w.heap.size 0 0 0 0 0 0 := HoldsA.grown (by repeat (first | with_reducible assumption | (with_reducible refine HoldsA.made' ?_; (simp; done)) | with_reducible refine HoldsA.alloc ?_ _ | with_reducible refine HoldsA.drew ?_ | with_reducible refine HoldsA.drewN ?_ _ | (with_reducible refine HoldsA.far ?_ _ _ (by first | (simp; done) | (simp; omega) | omega)))) hg hCl)))
  · have hv0 := hR.c0
    have hv1 := hR.c1
    have hv2 := hR.c2
    have hv3 := hR.c3
    have hv4 := hR.c4
    have hv5 := hR.c5
    have hvf := hR.free
    clear hc hf
    exact bodyPost_ret (v := (.agg #[.int .i64 a0, .int .i64 a1, .int .i64 a2, .int .i64 a3, .int .i64 a4, .int .i64 a5])) (by simp [results, Try.results102, go_sem, *]) rfl ⟨a0, a1, a2, a3, a4, a5, rfl, Cur.mono (n := n + 1 + 50) (by repeat (first | with_reducible assumption | with_reducible refine Cur.new ?_ ?_ | with_reducible refine Cur.alloc ?_ _ | with_reducible refine Cur.drewN ?_ _ | omega)) (by omega), (by repeat (first | with_reducible assumption | with_reducible exact World.grownBy.refl _ _ | with_reducible refine Lib.grownBy_allocR ?_ _ | with_reducible refine grown_drew ?_ | with_reducible refine grown_drewN ?_ _ | with_reducible refine grown_new ?_ ?_ _ _ | with_reducible refine Lib.grownBy_trans ?_ (by with_reducible assumption) | with_reducible refine grown_below' ?_ (by with_reducible assumption) ?_ | omega | (simp <;> omega)))⟩
  · obtain ⟨wT, rfl⟩ : ∃ wT : World, wT = w1 := ⟨_, rfl⟩
    have hwb : w.heap.size < wT.heap.size := by omega
    have hCT : C < wT.heap.size := by omega
    go_wp2_with (go_at_call 119; (with_reducible refine (am_c_many (by first | assumption | exact Cur.alloc (by assumption) _ | exact Cur.alloc (Cur.alloc (by assumption) _) _) (by omega) hlen _ (by simp) _).mono ?_); rintro e w1 ⟨many, rfl, ⟨many0, many1⟩, hcu, hg⟩; obtain ⟨hc, hf, hT, hz⟩ := gfacts hg; (try simp only [World.size_alloc, World.size_setCell, World.size_drew, size_drewN] at hc hf hT hz); (try (have hzA := Nat.lt_of_succ_le hz)); (try (have hl0 : w.heap.size ≤ w1.heap.size := by omega)); (try (have hz0 : w.heap.size < w1.heap.size := by omega)); (try (have hz1 : w.heap.size + 1 < w1.heap.size := by omega)); (have hR : HoldsA w1 33 w.heap.size 0 0 0 0 0 0 := HoldsA.grown (by repeat (first | with_reducible assumption | (with_reducible refine HoldsA.made' ?_; (simp; done)) | with_reducible refine HoldsA.alloc ?_ _ | with_reducible refine HoldsA.drew ?_ | with_reducible refine HoldsA.drewN ?_ _ | (with_reducible refine HoldsA.far ?_ _ _ (by first | (simp; done) | (simp; omega) | omega)))) hg hCl))
    have hgW : w.grownBy w1 (some C) := (by repeat (first | with_reducible assumption | with_reducible exact World.grownBy.refl _ _ | with_reducible refine Lib.grownBy_allocR ?_ _ | with_reducible refine grown_drew ?_ | with_reducible refine grown_drewN ?_ _ | with_reducible refine grown_new ?_ ?_ _ _ | with_reducible refine Lib.grownBy_trans ?_ (by with_reducible assumption) | with_reducible refine grown_below' ?_ (by with_reducible assumption) ?_ | omega | (simp <;> omega)))
    have hS1 : HoldsA w1 33 wT.heap.size 0 0 0 0 0 0 := by
      refine HoldsA.grown ?_ hg hCT
      refine HoldsA.alloc ?_ _
      exact HoldsA.made' rfl
    obtain ⟨k0, rfl⟩ : ∃ k0 : Nat, many = (k0 : Int) := ⟨many.toNat, by omega⟩
    have hk05 : k0 ≤ 5 := by omega
    go_loopw [5] (StRel3 C cv len n wT.heap.size w) (fun i _ => (intOf i).toNat)
    case atStart => exact ⟨k0, hk05, rfl, 0, 0, 0, 0, 0, 0, hS1, hR, Cur.mono (n := n + 1 + 1 + 1) (by repeat (first | with_reducible assumption | with_reducible refine Cur.new ?_ ?_ | with_reducible refine Cur.alloc ?_ _ | with_reducible refine Cur.drewN ?_ _ | omega)) (by omega), hgW⟩
    case round =>
      clear hS1 hR hgW hcu hg hc hf
      obtain ⟨k, hk, rfl, b0, b1, b2, b3, b4, b5, h0, h1, hcu, hgw⟩ := hrel
      have hgsz := hgw.size
      have hlw := h0.lt
      have hlw1 := h1.lt
      have ho0 := h0.c0
      have ho1 := h0.c1
      have ho2 := h0.c2
      have ho3 := h0.c3
      have ho4 := h0.c4
      have ho5 := h0.c5
      have hof := h0.free
      have hr0 := h1.c0
      have hr1 := h1.c1
      have hr2 := h1.c2
      have hr3 := h1.c3
      have hr4 := h1.c4
      have hr5 := h1.c5
      have hrf := h1.free
      by_cases hz : 0 < k
      · have hz' : 0 < (k : Int) := by omega
        obtain ⟨k, rfl⟩ : ∃ q, k = q + 1 := ⟨k - 1, by omega⟩
        go_wp2_with (first | (go_at_call 121; (with_reducible refine (pick_c (n := n + 3 + 2 * (5 - (k + 1))) (by first | assumption | exact Cur.alloc (by assumption) _ | exact Cur.alloc (Cur.alloc (by assumption) _) _) wide ⟨by omega, by omega⟩ (by omega) hlen).mono ?_); rintro e w1 ⟨rx, rfl, ⟨rx0, rx1⟩, hcu, hg⟩; obtain ⟨hc, hf, hT, hz⟩ := gfacts hg; (try simp only [World.size_alloc, World.size_setCell, World.size_drew, size_drewN] at hc hf hT hz); (try (have hzA := Nat.lt_of_succ_le hz)); (try (have hl0 : w.heap.size ≤ w1.heap.size := by omega)); (try (have hz0 : w.heap.size < w1.heap.size := by omega)); (try (have hz1 : w.heap.size + 1 < w1.heap.size := by omega)); have h01 := h0.grown hg hCT; have h11 := h1.grown hg hCl; have hgw1 := Lib.grownBy_trans hgw hg) | (go_at_call 121; (with_reducible refine (pick_c (n := n + 3 + 2 * (5 - (k + 1)) + 1) (by first | assumption | exact Cur.alloc (by assumption) _ | exact Cur.alloc (Cur.alloc (by assumption) _) _) wide ⟨by omega, by omega⟩ (by omega) hlen).mono ?_); rintro e w1 ⟨ry, rfl, ⟨ry0, ry1⟩, hcu, hg⟩; obtain ⟨hc, hf, hT, hz⟩ := gfacts hg; (try simp only [World.size_alloc, World.size_setCell, World.size_drew, size_drewN] at hc hf hT hz); (try (have hzA := Nat.lt_of_succ_le hz)); (try (have hl0 : w.heap.size ≤ w1.heap.size := by omega)); (try (have hz0 : w.heap.size < w1.heap.size := by omega)); (try (have hz1 : w.heap.size + 1 < w1.heap.size := by omega)); have h02 := h01.grown hg hCT; have h12 := h11.grown hg hCl; have hgw2 := Lib.grownBy_trans hgw1 hg))
        have hp0 := h02.c0
        have hp1 := h02.c1
        have hp2 := h02.c2
        have hp3 := h02.c3
        have hp4 := h02.c4
        have hp5 := h02.c5
        have hpf := h02.free
        have hlt2 := h02.lt
        have hlt3 := h12.lt
        have hrx : rx < 6 := by omega
        clear hc hf
        rcases (by omega : ry = 0 ∨ ry = 1 ∨ ry = 2 ∨ ry = 3 ∨ ry = 4 ∨ ry = 5) with rfl | rfl | rfl | rfl | rfl | rfl
        · go_region
          go_wp2
          go_roundw
          case rel =>
            refine ⟨k, by omega, by go_num, _, _, _, _, _, _, HoldsA.drew (HoldsA.s0 h02 _), ?_, Cur.mono (n := n + 3 + 2 * (5 - (k + 1)) + 1 + 1) ?_ (by omega), ?_⟩
            · (repeat (first | with_reducible assumption | (with_reducible refine HoldsA.made' ?_; (simp; done)) | with_reducible refine HoldsA.alloc ?_ _ | with_reducible refine HoldsA.drew ?_ | with_reducible refine HoldsA.drewN ?_ _ | (with_reducible refine HoldsA.far ?_ _ _ (by first | (simp; done) | (simp; omega) | omega))))
            · (repeat (first | with_reducible assumption | with_reducible refine Cur.drew ?_ | with_reducible refine Cur.new ?_ ?_ | with_reducible refine Cur.alloc ?_ _ | with_reducible refine Cur.drewN ?_ _ | omega))
            · (repeat (first | with_reducible assumption | with_reducible exact World.grownBy.refl _ _ | with_reducible refine Lib.grownBy_allocR ?_ _ | with_reducible refine grown_drew ?_ | with_reducible refine grown_drewN ?_ _ | with_reducible refine grown_new ?_ ?_ _ _ | with_reducible refine Lib.grownBy_trans ?_ (by with_reducible assumption) | with_reducible refine grown_below' ?_ (by with_reducible assumption) ?_ | omega | (simp <;> omega)))
          case measure => simp [intOf]
        · go_region
          go_wp2
          go_roundw
          case rel =>
            refine ⟨k, by omega, by go_num, _, _, _, _, _, _, HoldsA.drew (HoldsA.s1 h02 _), ?_, Cur.mono (n := n + 3 + 2 * (5 - (k + 1)) + 1 + 1) ?_ (by omega), ?_⟩
            · (repeat (first | with_reducible assumption | (with_reducible refine HoldsA.made' ?_; (simp; done)) | with_reducible refine HoldsA.alloc ?_ _ | with_reducible refine HoldsA.drew ?_ | with_reducible refine HoldsA.drewN ?_ _ | (with_reducible refine HoldsA.far ?_ _ _ (by first | (simp; done) | (simp; omega) | omega))))
            · (repeat (first | with_reducible assumption | with_reducible refine Cur.drew ?_ | with_reducible refine Cur.new ?_ ?_ | with_reducible refine Cur.alloc ?_ _ | with_reducible refine Cur.drewN ?_ _ | omega))
            · (repeat (first | with_reducible assumption | with_reducible exact World.grownBy.refl _ _ | with_reducible refine Lib.grownBy_allocR ?_ _ | with_reducible refine grown_drew ?_ | with_reducible refine grown_drewN ?_ _ | with_reducible refine grown_new ?_ ?_ _ _ | with_reducible refine Lib.grownBy_trans ?_ (by with_reducible assumption) | with_reducible refine grown_below' ?_ (by with_reducible assumption) ?_ | omega | (simp <;> omega)))
          case measure => simp [intOf]
        · go_region
          go_wp2
          go_roundw
          case rel =>
            refine ⟨k, by omega, by go_num, _, _, _, _, _, _, HoldsA.drew (HoldsA.s2 h02 _), ?_, Cur.mono (n := n + 3 + 2 * (5 - (k + 1)) + 1 + 1) ?_ (by omega), ?_⟩
            · (repeat (first | with_reducible assumption | (with_reducible refine HoldsA.made' ?_; (simp; done)) | with_reducible refine HoldsA.alloc ?_ _ | with_reducible refine HoldsA.drew ?_ | with_reducible refine HoldsA.drewN ?_ _ | (with_reducible refine HoldsA.far ?_ _ _ (by first | (simp; done) | (simp; omega) | omega))))
            · (repeat (first | with_reducible assumption | with_reducible refine Cur.drew ?_ | with_reducible refine Cur.new ?_ ?_ | with_reducible refine Cur.alloc ?_ _ | with_reducible refine Cur.drewN ?_ _ | omega))
            · (repeat (first | with_reducible assumption | with_reducible exact World.grownBy.refl _ _ | with_reducible refine Lib.grownBy_allocR ?_ _ | with_reducible refine grown_drew ?_ | with_reducible refine grown_drewN ?_ _ | with_reducible refine grown_new ?_ ?_ _ _ | with_reducible refine Lib.grownBy_trans ?_ (by with_reducible assumption) | with_reducible refine grown_below' ?_ (by with_reducible assumption) ?_ | omega | (simp <;> omega)))
          case measure => simp [intOf]
        · go_region
          go_wp2
          go_roundw
          case rel =>
            refine ⟨k, by omega, by go_num, _, _, _, _, _, _, HoldsA.drew (HoldsA.s3 h02 _), ?_, Cur.mono (n := n + 3 + 2 * (5 - (k + 1)) + 1 + 1) ?_ (by omega), ?_⟩
            · (repeat (first | with_reducible assumption | (with_reducible refine HoldsA.made' ?_; (simp; done)) | with_reducible refine HoldsA.alloc ?_ _ | with_reducible refine HoldsA.drew ?_ | with_reducible refine HoldsA.drewN ?_ _ | (with_reducible refine HoldsA.far ?_ _ _ (by first | (simp; done) | (simp; omega) | omega))))
            · (repeat (first | with_reducible assumption | with_reducible refine Cur.drew ?_ | with_reducible refine Cur.new ?_ ?_ | with_reducible refine Cur.alloc ?_ _ | with_reducible refine Cur.drewN ?_ _ | omega))
            · (repeat (first | with_reducible assumption | with_reducible exact World.grownBy.refl _ _ | with_reducible refine Lib.grownBy_allocR ?_ _ | with_reducible refine grown_drew ?_ | with_reducible refine grown_drewN ?_ _ | with_reducible refine grown_new ?_ ?_ _ _ | with_reducible refine Lib.grownBy_trans ?_ (by with_reducible assumption) | with_reducible refine grown_below' ?_ (by with_reducible assumption) ?_ | omega | (simp <;> omega)))
          case measure => simp [intOf]
        · go_region
          go_wp2
          go_roundw
          case rel =>
            refine ⟨k, by omega, by go_num, _, _, _, _, _, _, HoldsA.drew (HoldsA.s4 h02 _), ?_, Cur.mono (n := n + 3 + 2 * (5 - (k + 1)) + 1 + 1) ?_ (by omega), ?_⟩
            · (repeat (first | with_reducible assumption | (with_reducible refine HoldsA.made' ?_; (simp; done)) | with_reducible refine HoldsA.alloc ?_ _ | with_reducible refine HoldsA.drew ?_ | with_reducible refine HoldsA.drewN ?_ _ | (with_reducible refine HoldsA.far ?_ _ _ (by first | (simp; done) | (simp; omega) | omega))))
            · (repeat (first | with_reducible assumption | with_reducible refine Cur.drew ?_ | with_reducible refine Cur.new ?_ ?_ | with_reducible refine Cur.alloc ?_ _ | with_reducible refine Cur.drewN ?_ _ | omega))
            · (repeat (first | with_reducible assumption | with_reducible exact World.grownBy.refl _ _ | with_reducible refine Lib.grownBy_allocR ?_ _ | with_reducible refine grown_drew ?_ | with_reducible refine grown_drewN ?_ _ | with_reducible refine grown_new ?_ ?_ _ _ | with_reducible refine Lib.grownBy_trans ?_ (by with_reducible assumption) | with_reducible refine grown_below' ?_ (by with_reducible assumption) ?_ | omega | (simp <;> omega)))
          case measure => simp [intOf]
        · go_region
          go_wp2
          go_roundw
          case rel =>
            refine ⟨k, by omega, by go_num, _, _, _, _, _, _, HoldsA.drew (HoldsA.s5 h02 _), ?_, Cur.mono (n := n + 3 + 2 * (5 - (k + 1)) + 1 + 1) ?_ (by omega), ?_⟩
            · (repeat (first | with_reducible assumption | (with_reducible refine HoldsA.made' ?_; (simp; done)) | with_reducible refine HoldsA.alloc ?_ _ | with_reducible refine HoldsA.drew ?_ | with_reducible refine HoldsA.drewN ?_ _ | (with_reducible refine HoldsA.far ?_ _ _ (by first | (simp; done) | (simp; omega) | omega))))
            · (repeat (first | with_reducible assumption | with_reducible refine Cur.drew ?_ | with_reducible refine Cur.new ?_ ?_ | with_reducible refine Cur.alloc ?_ _ | with_reducible refine Cur.drewN ?_ _ | omega))
            · (repeat (first | with_reducible assumption | with_reducible exact World.grownBy.refl _ _ | with_reducible refine Lib.grownBy_allocR ?_ _ | with_reducible refine grown_drew ?_ | with_reducible refine grown_drewN ?_ _ | with_reducible refine grown_new ?_ ?_ _ _ | with_reducible refine Lib.grownBy_trans ?_ (by with_reducible assumption) | with_reducible refine grown_below' ?_ (by with_reducible assumption) ?_ | omega | (simp <;> omega)))
          case measure => simp [intOf]
      · have e : k = 0 := by omega
        subst e
        go_wp2
        exact bodyPost_ret (v := (.agg #[.int .i64 b0, .int .i64 b1, .int .i64 b2, .int .i64 b3, .int .i64 b4, .int .i64 b5])) (by simp [results, Try.results102, go_sem, *]) rfl ⟨b0, b1, b2, b3, b4, b5, rfl, Cur.mono (n := n + 3 + 2 * (5 - 0)) (by repeat (first | with_reducible assumption | with_reducible refine Cur.new ?_ ?_ | with_reducible refine Cur.alloc ?_ _ | with_reducible refine Cur.drewN ?_ _ | omega)) (by omega), (by repeat (first | with_reducible assumption | with_reducible exact World.grownBy.refl _ _ | with_reducible refine Lib.grownBy_allocR ?_ _ | with_reducible refine grown_drew ?_ | with_reducible refine grown_drewN ?_ _ | with_reducible refine grown_new ?_ ?_ _ _ | with_reducible refine Lib.grownBy_trans ?_ (by with_reducible assumption) | with_reducible refine grown_below' ?_ (by with_reducible assumption) ?_ | omega | (simp <;> omega)))⟩
end Go.Proofs.Ytidaoalnngmoaaa
