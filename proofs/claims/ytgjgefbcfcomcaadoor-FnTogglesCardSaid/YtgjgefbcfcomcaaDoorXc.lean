/-
  The reference's draws of a stamp and a target, and of a stamp and presses: they leave any two sheets, and old memory as it was. No conditions.
-/
import Derived.Test.YtgjgefbcfcomcaaDoorXb
import Derived.Test.YtgjgefbcfcomcaaDoorGb
namespace Go.Proofs.YtgjgefbcfcomcaaDoor
open Go.RowKit
set_option linter.unusedSimpArgs false
set_option linter.unusedVariables false

theorem CodeB.below {w W : World} {C len : Nat} {cv : Value} (h : CodeB w w.heap.size cv len) (hb : Below w.heap.size w W) (hC : w.heap.size ≤ C) : CodeB W C cv len := by
  rcases h with h | ⟨cb, co, cap, h1, h2, h3⟩
  · exact .inl h
  · refine .inr ⟨cb, co, cap, h1, by omega, fun j hj => ?_⟩
    obtain ⟨z, hz⟩ := h3 j hj
    exact ⟨z, by rw [hb.cell (p := ⟨cb, co + j, none⟩) h2]; exact hz⟩
theorem CodeB.moved {w W : World} {len : Nat} {cv : Value} (h : CodeB w w.heap.size cv len) (hb : Below w.heap.size w W) : CodeB W W.heap.size cv len := by
  rcases h with h | ⟨cb, co, cap, h1, h2, h3⟩
  · exact .inl h
  · refine .inr ⟨cb, co, cap, h1, Nat.lt_of_lt_of_le h2 hb.size, fun j hj => ?_⟩
    obtain ⟨z, hz⟩ := h3 j hj
    exact ⟨z, by rw [hb.cell (p := ⟨cb, co + j, none⟩) h2]; exact hz⟩
theorem Cur.boxed' {w W : World} {C len T : Nat} {cv : Value} (h : CodeB w w.heap.size cv len) (hb : Below w.heap.size w W) (hC : C = W.heap.size) (hT : T = 93 := by rfl) : Cur (W.alloc (.cells #[cv, .int .i64 0, .int .u64 0] T)) C cv len 0 := by
  subst hC hT
  exact ⟨0, 0, heap_alloc_new W _, Nat.le_refl _, h.below (hb.alloc hb.size _) hb.size⟩
theorem below_grown {w W w' : World} {C : Nat} (hb : Below w.heap.size w W) (hg : W.grownBy w' (some C)) (hC : w.heap.size ≤ C) : Below w.heap.size w w' :=
  hb.grown hg hb.size (fun k hk => by injection hk with hk; omega)
theorem HoldsA.far6 {w : World} {T B D : Nat} {a0 a1 a2 a3 a4 a5 : Int} (h : HoldsA w T B a0 a1 a2 a3 a4 a5) (hne : B ≠ D) (b0 b1 b2 b3 b4 b5 : Int) :
    HoldsA ((((((w.setCell ⟨D, 0, none⟩ (.int .i64 b0)).setCell ⟨D, 1, none⟩ (.int .i64 b1)).setCell ⟨D, 2, none⟩ (.int .i64 b2)).setCell ⟨D, 3, none⟩ (.int .i64 b3)).setCell ⟨D, 4, none⟩ (.int .i64 b4)).setCell ⟨D, 5, none⟩ (.int .i64 b5)) T B a0 a1 a2 a3 a4 a5 :=
  (((((h.far _ _ hne).far _ _ hne).far _ _ hne).far _ _ hne).far _ _ hne).far _ _ hne
def Two6 (w : World) (e : Ending) (w' : World) : Prop := ∃ a0 a1 a2 a3 a4 a5 b0 b1 b2 b3 b4 b5 : Int, e = .returned (.tuple #[.agg #[.int .i64 a0, .int .i64 a1, .int .i64 a2, .int .i64 a3, .int .i64 a4, .int .i64 a5], .agg #[.int .i64 b0, .int .i64 b1, .int .i64 b2, .int .i64 b3, .int .i64 b4, .int .i64 b5]]) ∧ Below w.heap.size w w'

set_option maxRecDepth 100000 in
set_option maxHeartbeats 3200000 in
theorem DrawPrintOf_any (cv : Value) (len : Nat) (hlen : len ≤ 1000000) (w : World) (hcode : CodeB w w.heap.size cv len) : Calls Tryd.prog 40 #[cv] w (Two6 w) := by
  have hc2 := hcode
  rcases hc2 with ⟨hE, hL⟩ | ⟨cb, co, cap, hE, _, _⟩
  · subst hE
    go_enter Tryd.func40, Tryd.ntmps40
    go_upto_region 3 with (go_at_call 74; (with_reducible refine (stamp_draw (by exact Cur.boxed' hcode (by repeat (first | with_reducible exact Below.refl _ _ | with_reducible assumption | with_reducible refine Below.drew ?_ | with_reducible refine below_drewN ?_ _ | with_reducible refine Below.alloc ?_ ?_ _ | with_reducible refine Below.setCell ?_ ?_ _ | with_reducible refine Below.trans ?_ (Below.mono (by assumption) ?_) | omega | (simp <;> omega))) (by simp)) (by omega) hlen).mono ?_); rintro e w1 ⟨a0, a1, a2, a3, a4, a5, rfl, hcua, hga⟩)
    have hrwa : HoldsA (w1.alloc (.cells #[.int .i64 a0, .int .i64 a1, .int .i64 a2, .int .i64 a3, .int .i64 a4, .int .i64 a5] 27)) 27 (w.heap.size) 0 0 0 0 0 0 := HoldsA.alloc (HoldsA.grownM (by repeat (first | with_reducible assumption | (with_reducible refine HoldsA.made' ?_; (simp; done)) | with_reducible refine HoldsA.alloc ?_ _ | with_reducible refine HoldsA.drew ?_ | with_reducible refine HoldsA.drewN ?_ _ | (with_reducible refine HoldsA.far ?_ _ _ (by first | (simp; done) | (simp; omega) | omega)))) hga (by omega)) _
    have hqwa : HoldsA (w1.alloc (.cells #[.int .i64 a0, .int .i64 a1, .int .i64 a2, .int .i64 a3, .int .i64 a4, .int .i64 a5] 27)) 27 (w.heap.size + 1) 0 0 0 0 0 0 := HoldsA.alloc (HoldsA.grownM (by repeat (first | with_reducible assumption | (with_reducible refine HoldsA.made' ?_; (simp; done)) | with_reducible refine HoldsA.alloc ?_ _ | with_reducible refine HoldsA.drew ?_ | with_reducible refine HoldsA.drewN ?_ _ | (with_reducible refine HoldsA.far ?_ _ _ (by first | (simp; done) | (simp; omega) | omega)))) hga (by omega)) _
    have hawa : HoldsA (w1.alloc (.cells #[.int .i64 a0, .int .i64 a1, .int .i64 a2, .int .i64 a3, .int .i64 a4, .int .i64 a5] 27)) 27 (w1.heap.size) a0 a1 a2 a3 a4 a5 := HoldsA.made _ _ _ _ _ _ _ _
    have hlwa : w.heap.size ≤ w1.heap.size := by have := hcua.lt; omega
    have hcuwa := hcua.alloc (.cells #[.int .i64 a0, .int .i64 a1, .int .i64 a2, .int .i64 a3, .int .i64 a4, .int .i64 a5] 27)
    have hBwa : Below w.heap.size w (w1.alloc (.cells #[.int .i64 a0, .int .i64 a1, .int .i64 a2, .int .i64 a3, .int .i64 a4, .int .i64 a5] 27)) := (by repeat (first | with_reducible exact Below.refl _ _ | with_reducible assumption | with_reducible refine Below.drew ?_ | with_reducible refine below_drewN ?_ _ | with_reducible refine Below.alloc ?_ ?_ _ | with_reducible refine Below.setCell ?_ ?_ _ | with_reducible refine below_grown ?_ (by with_reducible assumption) ?_ | omega | (simp <;> omega)))
    have hswa : (w1.alloc (.cells #[.int .i64 a0, .int .i64 a1, .int .i64 a2, .int .i64 a3, .int .i64 a4, .int .i64 a5] 27)).heap.size = w1.heap.size + 1 := by simp
    have hzwa : w.heap.size + 1 + 1 < w1.heap.size := by have := hcua.lt; omega
    clear hcua hga
    generalize hEwa : (w1.alloc (.cells #[.int .i64 a0, .int .i64 a1, .int .i64 a2, .int .i64 a3, .int .i64 a4, .int .i64 a5] 27)) = wa at *
    generalize hGwa : w1.heap.size = ga at *
    clear hEwa hGwa
    have x0 := hawa.c0
    have x1 := hawa.c1
    have x2 := hawa.c2
    have x3 := hawa.c3
    have x4 := hawa.c4
    have x5 := hawa.c5
    have xf := hawa.free
    go_cut [] from 11 to 13 (fun wx => ∃ b0 b1 b2 b3 b4 b5 : Int, HoldsA wx 27 (w.heap.size) a0 a1 a2 a3 a4 a5 ∧ HoldsA wx 27 (w.heap.size + 1) b0 b1 b2 b3 b4 b5 ∧ Below w.heap.size w wx)
    case first =>
      have y0 := hrwa.c0
      have y1 := hrwa.c1
      have y2 := hrwa.c2
      have y3 := hrwa.c3
      have y4 := hrwa.c4
      have y5 := hrwa.c5
      have yf := hrwa.free
      have hne1 : ¬ ga = w.heap.size := by omega
      have hne2 : ¬ ga = w.heap.size + 1 := by omega
      have hne3 : ¬ w.heap.size = ga := by omega
      have hne4 : ¬ w.heap.size + 1 = ga := by omega
      go_region_held3 (fun w' => w'.cell? ⟨ga, 0, none⟩ = some (.int .i64 a0) ∧ w'.cell? ⟨ga, 1, none⟩ = some (.int .i64 a1) ∧ w'.cell? ⟨ga, 2, none⟩ = some (.int .i64 a2) ∧ w'.cell? ⟨ga, 3, none⟩ = some (.int .i64 a3) ∧ w'.cell? ⟨ga, 4, none⟩ = some (.int .i64 a4) ∧ w'.cell? ⟨ga, 5, none⟩ = some (.int .i64 a5)) (simp [*, World.cell?_alloc_some, World.cell?_setCell_far, Nat.ne_of_gt]) (first | (go_at_call 75; (with_reducible refine (sheet_c (n := 0 + 60) (cv := (.slice none 0 0)) (len := len) (by repeat (first | with_reducible assumption | with_reducible refine Cur.drew ?_ | with_reducible refine Cur.alloc ?_ _ | with_reducible refine Cur.new ?_ ?_ | with_reducible refine Cur.drewN ?_ _ | omega)) (by omega) hlen).mono ?_); rintro e w2 ⟨b0, b1, b2, b3, b4, b5, rfl, hcub, hgb⟩; (first | have hrb : HoldsA w2 27 (w.heap.size) 0 0 0 0 0 0 := HoldsA.grownM (by repeat (first | with_reducible assumption | (with_reducible refine HoldsA.made' ?_; (simp; done)) | with_reducible refine HoldsA.alloc ?_ _ | with_reducible refine HoldsA.drew ?_ | with_reducible refine HoldsA.drewN ?_ _ | (with_reducible refine HoldsA.far ?_ _ _ (by first | (simp; done) | (simp; omega) | omega)))) hgb (by omega) | have hrb : HoldsA w2 27 (w.heap.size) a0 a1 a2 a3 a4 a5 := HoldsA.grownM (by repeat (first | with_reducible assumption | (with_reducible refine HoldsA.made' ?_; (simp; done)) | with_reducible refine HoldsA.alloc ?_ _ | with_reducible refine HoldsA.drew ?_ | with_reducible refine HoldsA.drewN ?_ _ | (with_reducible refine HoldsA.far ?_ _ _ (by first | (simp; done) | (simp; omega) | omega)))) hgb (by omega)); have hqb : HoldsA w2 27 (w.heap.size + 1) 0 0 0 0 0 0 := HoldsA.grownM (by repeat (first | with_reducible assumption | (with_reducible refine HoldsA.made' ?_; (simp; done)) | with_reducible refine HoldsA.alloc ?_ _ | with_reducible refine HoldsA.drew ?_ | with_reducible refine HoldsA.drewN ?_ _ | (with_reducible refine HoldsA.far ?_ _ _ (by first | (simp; done) | (simp; omega) | omega)))) hgb (by omega); have hab : HoldsA w2 27 (ga) a0 a1 a2 a3 a4 a5 := HoldsA.grownM (by repeat (first | with_reducible assumption | (with_reducible refine HoldsA.made' ?_; (simp; done)) | with_reducible refine HoldsA.alloc ?_ _ | with_reducible refine HoldsA.drew ?_ | with_reducible refine HoldsA.drewN ?_ _ | (with_reducible refine HoldsA.far ?_ _ _ (by first | (simp; done) | (simp; omega) | omega)))) hgb (by omega); have yr0 := hrb.c0; have yr1 := hrb.c1; have yr2 := hrb.c2; have yr3 := hrb.c3; have yr4 := hrb.c4; have yr5 := hrb.c5; have yrf := hrb.free; have yq0 := hqb.c0; have yq1 := hqb.c1; have yq2 := hqb.c2; have yq3 := hqb.c3; have yq4 := hqb.c4; have yq5 := hqb.c5; have yqf := hqb.free; have ya0 := hab.c0; have ya1 := hab.c1; have ya2 := hab.c2; have ya3 := hab.c3; have ya4 := hab.c4; have ya5 := hab.c5; have yaf := hab.free))
      all_goals
        go_wp2_with fail
        go_meet
        first | exact ⟨b0, b1, b2, b3, b4, b5, (hrb.store _ _ _ _ _ _).far6 (show w.heap.size ≠ w.heap.size + 1 by omega) _ _ _ _ _ _, (hqb.far6 (show w.heap.size + 1 ≠ w.heap.size by omega) _ _ _ _ _ _).store _ _ _ _ _ _, (by repeat (first | with_reducible exact Below.refl _ _ | with_reducible assumption | with_reducible refine Below.drew ?_ | with_reducible refine below_drewN ?_ _ | with_reducible refine Below.alloc ?_ ?_ _ | with_reducible refine Below.setCell ?_ ?_ _ | with_reducible refine below_grown ?_ (by with_reducible assumption) ?_ | omega | (simp <;> omega)))⟩ | exact ⟨b0, b1, b2, b3, b4, b5, (hrb.far6 (show w.heap.size ≠ w.heap.size + 1 by omega) _ _ _ _ _ _).store _ _ _ _ _ _, (hqb.store _ _ _ _ _ _).far6 (show w.heap.size + 1 ≠ w.heap.size by omega) _ _ _ _ _ _, (by repeat (first | with_reducible exact Below.refl _ _ | with_reducible assumption | with_reducible refine Below.drew ?_ | with_reducible refine below_drewN ?_ _ | with_reducible refine Below.alloc ?_ ?_ _ | with_reducible refine Below.setCell ?_ ?_ _ | with_reducible refine below_grown ?_ (by with_reducible assumption) ?_ | omega | (simp <;> omega)))⟩ | exact ⟨b0, b1, b2, b3, b4, b5, hrb.far6 (show w.heap.size ≠ w.heap.size + 1 by omega) _ _ _ _ _ _, hqb.store _ _ _ _ _ _, (by repeat (first | with_reducible exact Below.refl _ _ | with_reducible assumption | with_reducible refine Below.drew ?_ | with_reducible refine below_drewN ?_ _ | with_reducible refine Below.alloc ?_ ?_ _ | with_reducible refine Below.setCell ?_ ?_ _ | with_reducible refine below_grown ?_ (by with_reducible assumption) ?_ | omega | (simp <;> omega)))⟩
    case rest =>
      obtain ⟨b0, b1, b2, b3, b4, b5, hrx, hqx, hBx⟩ := hcut
      clear hrwa hqwa
      have y0 := hrx.c0
      have y1 := hrx.c1
      have y2 := hrx.c2
      have y3 := hrx.c3
      have y4 := hrx.c4
      have y5 := hrx.c5
      have yf := hrx.free
      have z0 := hqx.c0
      have z1 := hqx.c1
      have z2 := hqx.c2
      have z3 := hqx.c3
      have z4 := hqx.c4
      have z5 := hqx.c5
      have zf := hqx.free
      go_wp2_with fail
      exact bodyPost_ret (v := .tuple #[.agg #[.int .i64 a0, .int .i64 a1, .int .i64 a2, .int .i64 a3, .int .i64 a4, .int .i64 a5], .agg #[.int .i64 b0, .int .i64 b1, .int .i64 b2, .int .i64 b3, .int .i64 b4, .int .i64 b5]]) (by simp [results, Tryd.results40, go_sem, *]) rfl ⟨_, _, _, _, _, _, _, _, _, _, _, _, rfl, hBx⟩
  · subst hE
    go_enter Tryd.func40, Tryd.ntmps40
    go_upto_region 3 with (go_at_call 74; (with_reducible refine (stamp_draw (by exact Cur.boxed' hcode (by repeat (first | with_reducible exact Below.refl _ _ | with_reducible assumption | with_reducible refine Below.drew ?_ | with_reducible refine below_drewN ?_ _ | with_reducible refine Below.alloc ?_ ?_ _ | with_reducible refine Below.setCell ?_ ?_ _ | with_reducible refine Below.trans ?_ (Below.mono (by assumption) ?_) | omega | (simp <;> omega))) (by simp)) (by omega) hlen).mono ?_); rintro e w1 ⟨a0, a1, a2, a3, a4, a5, rfl, hcua, hga⟩)
    have hrwa : HoldsA (w1.alloc (.cells #[.int .i64 a0, .int .i64 a1, .int .i64 a2, .int .i64 a3, .int .i64 a4, .int .i64 a5] 27)) 27 (w.heap.size) 0 0 0 0 0 0 := HoldsA.alloc (HoldsA.grownM (by repeat (first | with_reducible assumption | (with_reducible refine HoldsA.made' ?_; (simp; done)) | with_reducible refine HoldsA.alloc ?_ _ | with_reducible refine HoldsA.drew ?_ | with_reducible refine HoldsA.drewN ?_ _ | (with_reducible refine HoldsA.far ?_ _ _ (by first | (simp; done) | (simp; omega) | omega)))) hga (by omega)) _
    have hqwa : HoldsA (w1.alloc (.cells #[.int .i64 a0, .int .i64 a1, .int .i64 a2, .int .i64 a3, .int .i64 a4, .int .i64 a5] 27)) 27 (w.heap.size + 1) 0 0 0 0 0 0 := HoldsA.alloc (HoldsA.grownM (by repeat (first | with_reducible assumption | (with_reducible refine HoldsA.made' ?_; (simp; done)) | with_reducible refine HoldsA.alloc ?_ _ | with_reducible refine HoldsA.drew ?_ | with_reducible refine HoldsA.drewN ?_ _ | (with_reducible refine HoldsA.far ?_ _ _ (by first | (simp; done) | (simp; omega) | omega)))) hga (by omega)) _
    have hawa : HoldsA (w1.alloc (.cells #[.int .i64 a0, .int .i64 a1, .int .i64 a2, .int .i64 a3, .int .i64 a4, .int .i64 a5] 27)) 27 (w1.heap.size) a0 a1 a2 a3 a4 a5 := HoldsA.made _ _ _ _ _ _ _ _
    have hlwa : w.heap.size ≤ w1.heap.size := by have := hcua.lt; omega
    have hcuwa := hcua.alloc (.cells #[.int .i64 a0, .int .i64 a1, .int .i64 a2, .int .i64 a3, .int .i64 a4, .int .i64 a5] 27)
    have hBwa : Below w.heap.size w (w1.alloc (.cells #[.int .i64 a0, .int .i64 a1, .int .i64 a2, .int .i64 a3, .int .i64 a4, .int .i64 a5] 27)) := (by repeat (first | with_reducible exact Below.refl _ _ | with_reducible assumption | with_reducible refine Below.drew ?_ | with_reducible refine below_drewN ?_ _ | with_reducible refine Below.alloc ?_ ?_ _ | with_reducible refine Below.setCell ?_ ?_ _ | with_reducible refine below_grown ?_ (by with_reducible assumption) ?_ | omega | (simp <;> omega)))
    have hswa : (w1.alloc (.cells #[.int .i64 a0, .int .i64 a1, .int .i64 a2, .int .i64 a3, .int .i64 a4, .int .i64 a5] 27)).heap.size = w1.heap.size + 1 := by simp
    have hzwa : w.heap.size + 1 + 1 < w1.heap.size := by have := hcua.lt; omega
    clear hcua hga
    generalize hEwa : (w1.alloc (.cells #[.int .i64 a0, .int .i64 a1, .int .i64 a2, .int .i64 a3, .int .i64 a4, .int .i64 a5] 27)) = wa at *
    generalize hGwa : w1.heap.size = ga at *
    clear hEwa hGwa
    have x0 := hawa.c0
    have x1 := hawa.c1
    have x2 := hawa.c2
    have x3 := hawa.c3
    have x4 := hawa.c4
    have x5 := hawa.c5
    have xf := hawa.free
    go_cut [] from 11 to 13 (fun wx => ∃ b0 b1 b2 b3 b4 b5 : Int, HoldsA wx 27 (w.heap.size) a0 a1 a2 a3 a4 a5 ∧ HoldsA wx 27 (w.heap.size + 1) b0 b1 b2 b3 b4 b5 ∧ Below w.heap.size w wx)
    case first =>
      have y0 := hrwa.c0
      have y1 := hrwa.c1
      have y2 := hrwa.c2
      have y3 := hrwa.c3
      have y4 := hrwa.c4
      have y5 := hrwa.c5
      have yf := hrwa.free
      have hne1 : ¬ ga = w.heap.size := by omega
      have hne2 : ¬ ga = w.heap.size + 1 := by omega
      have hne3 : ¬ w.heap.size = ga := by omega
      have hne4 : ¬ w.heap.size + 1 = ga := by omega
      go_region_held3 (fun w' => w'.cell? ⟨ga, 0, none⟩ = some (.int .i64 a0) ∧ w'.cell? ⟨ga, 1, none⟩ = some (.int .i64 a1) ∧ w'.cell? ⟨ga, 2, none⟩ = some (.int .i64 a2) ∧ w'.cell? ⟨ga, 3, none⟩ = some (.int .i64 a3) ∧ w'.cell? ⟨ga, 4, none⟩ = some (.int .i64 a4) ∧ w'.cell? ⟨ga, 5, none⟩ = some (.int .i64 a5)) (simp [*, World.cell?_alloc_some, World.cell?_setCell_far, Nat.ne_of_gt]) (first | (go_at_call 75; (with_reducible refine (sheet_c (n := 0 + 60) (cv := (.slice (some ⟨cb, co, none⟩) len cap)) (len := len) (by repeat (first | with_reducible assumption | with_reducible refine Cur.drew ?_ | with_reducible refine Cur.alloc ?_ _ | with_reducible refine Cur.new ?_ ?_ | with_reducible refine Cur.drewN ?_ _ | omega)) (by omega) hlen).mono ?_); rintro e w2 ⟨b0, b1, b2, b3, b4, b5, rfl, hcub, hgb⟩; (first | have hrb : HoldsA w2 27 (w.heap.size) 0 0 0 0 0 0 := HoldsA.grownM (by repeat (first | with_reducible assumption | (with_reducible refine HoldsA.made' ?_; (simp; done)) | with_reducible refine HoldsA.alloc ?_ _ | with_reducible refine HoldsA.drew ?_ | with_reducible refine HoldsA.drewN ?_ _ | (with_reducible refine HoldsA.far ?_ _ _ (by first | (simp; done) | (simp; omega) | omega)))) hgb (by omega) | have hrb : HoldsA w2 27 (w.heap.size) a0 a1 a2 a3 a4 a5 := HoldsA.grownM (by repeat (first | with_reducible assumption | (with_reducible refine HoldsA.made' ?_; (simp; done)) | with_reducible refine HoldsA.alloc ?_ _ | with_reducible refine HoldsA.drew ?_ | with_reducible refine HoldsA.drewN ?_ _ | (with_reducible refine HoldsA.far ?_ _ _ (by first | (simp; done) | (simp; omega) | omega)))) hgb (by omega)); have hqb : HoldsA w2 27 (w.heap.size + 1) 0 0 0 0 0 0 := HoldsA.grownM (by repeat (first | with_reducible assumption | (with_reducible refine HoldsA.made' ?_; (simp; done)) | with_reducible refine HoldsA.alloc ?_ _ | with_reducible refine HoldsA.drew ?_ | with_reducible refine HoldsA.drewN ?_ _ | (with_reducible refine HoldsA.far ?_ _ _ (by first | (simp; done) | (simp; omega) | omega)))) hgb (by omega); have hab : HoldsA w2 27 (ga) a0 a1 a2 a3 a4 a5 := HoldsA.grownM (by repeat (first | with_reducible assumption | (with_reducible refine HoldsA.made' ?_; (simp; done)) | with_reducible refine HoldsA.alloc ?_ _ | with_reducible refine HoldsA.drew ?_ | with_reducible refine HoldsA.drewN ?_ _ | (with_reducible refine HoldsA.far ?_ _ _ (by first | (simp; done) | (simp; omega) | omega)))) hgb (by omega); have yr0 := hrb.c0; have yr1 := hrb.c1; have yr2 := hrb.c2; have yr3 := hrb.c3; have yr4 := hrb.c4; have yr5 := hrb.c5; have yrf := hrb.free; have yq0 := hqb.c0; have yq1 := hqb.c1; have yq2 := hqb.c2; have yq3 := hqb.c3; have yq4 := hqb.c4; have yq5 := hqb.c5; have yqf := hqb.free; have ya0 := hab.c0; have ya1 := hab.c1; have ya2 := hab.c2; have ya3 := hab.c3; have ya4 := hab.c4; have ya5 := hab.c5; have yaf := hab.free))
      all_goals
        go_wp2_with fail
        go_meet
        first | exact ⟨b0, b1, b2, b3, b4, b5, (hrb.store _ _ _ _ _ _).far6 (show w.heap.size ≠ w.heap.size + 1 by omega) _ _ _ _ _ _, (hqb.far6 (show w.heap.size + 1 ≠ w.heap.size by omega) _ _ _ _ _ _).store _ _ _ _ _ _, (by repeat (first | with_reducible exact Below.refl _ _ | with_reducible assumption | with_reducible refine Below.drew ?_ | with_reducible refine below_drewN ?_ _ | with_reducible refine Below.alloc ?_ ?_ _ | with_reducible refine Below.setCell ?_ ?_ _ | with_reducible refine below_grown ?_ (by with_reducible assumption) ?_ | omega | (simp <;> omega)))⟩ | exact ⟨b0, b1, b2, b3, b4, b5, (hrb.far6 (show w.heap.size ≠ w.heap.size + 1 by omega) _ _ _ _ _ _).store _ _ _ _ _ _, (hqb.store _ _ _ _ _ _).far6 (show w.heap.size + 1 ≠ w.heap.size by omega) _ _ _ _ _ _, (by repeat (first | with_reducible exact Below.refl _ _ | with_reducible assumption | with_reducible refine Below.drew ?_ | with_reducible refine below_drewN ?_ _ | with_reducible refine Below.alloc ?_ ?_ _ | with_reducible refine Below.setCell ?_ ?_ _ | with_reducible refine below_grown ?_ (by with_reducible assumption) ?_ | omega | (simp <;> omega)))⟩ | exact ⟨b0, b1, b2, b3, b4, b5, hrb.far6 (show w.heap.size ≠ w.heap.size + 1 by omega) _ _ _ _ _ _, hqb.store _ _ _ _ _ _, (by repeat (first | with_reducible exact Below.refl _ _ | with_reducible assumption | with_reducible refine Below.drew ?_ | with_reducible refine below_drewN ?_ _ | with_reducible refine Below.alloc ?_ ?_ _ | with_reducible refine Below.setCell ?_ ?_ _ | with_reducible refine below_grown ?_ (by with_reducible assumption) ?_ | omega | (simp <;> omega)))⟩
    case rest =>
      obtain ⟨b0, b1, b2, b3, b4, b5, hrx, hqx, hBx⟩ := hcut
      clear hrwa hqwa
      have y0 := hrx.c0
      have y1 := hrx.c1
      have y2 := hrx.c2
      have y3 := hrx.c3
      have y4 := hrx.c4
      have y5 := hrx.c5
      have yf := hrx.free
      have z0 := hqx.c0
      have z1 := hqx.c1
      have z2 := hqx.c2
      have z3 := hqx.c3
      have z4 := hqx.c4
      have z5 := hqx.c5
      have zf := hqx.free
      go_wp2_with fail
      exact bodyPost_ret (v := .tuple #[.agg #[.int .i64 a0, .int .i64 a1, .int .i64 a2, .int .i64 a3, .int .i64 a4, .int .i64 a5], .agg #[.int .i64 b0, .int .i64 b1, .int .i64 b2, .int .i64 b3, .int .i64 b4, .int .i64 b5]]) (by simp [results, Tryd.results40, go_sem, *]) rfl ⟨_, _, _, _, _, _, _, _, _, _, _, _, rfl, hBx⟩

set_option maxRecDepth 100000 in
set_option maxHeartbeats 3200000 in
theorem DrawCanToggle_any (cv : Value) (len : Nat) (hlen : len ≤ 1000000) (w : World) (hcode : CodeB w w.heap.size cv len) : Calls Tryd.prog 73 #[cv] w (Two6 w) := by
  have hc2 := hcode
  rcases hc2 with ⟨hE, hL⟩ | ⟨cb, co, cap, hE, _, _⟩
  · subst hE
    go_enter Tryd.func73, Tryd.ntmps73
    go_upto_region 3 with (go_at_call 92; (with_reducible refine (kernelStamp_draw (by exact Cur.boxed' hcode (by repeat (first | with_reducible exact Below.refl _ _ | with_reducible assumption | with_reducible refine Below.drew ?_ | with_reducible refine below_drewN ?_ _ | with_reducible refine Below.alloc ?_ ?_ _ | with_reducible refine Below.setCell ?_ ?_ _ | with_reducible refine Below.trans ?_ (Below.mono (by assumption) ?_) | omega | (simp <;> omega))) (by simp)) (by omega) hlen).mono ?_); rintro e w1 ⟨a0, a1, a2, a3, a4, a5, rfl, hcua, hga⟩)
    have hrwa : HoldsA (w1.alloc (.cells #[.int .i64 a0, .int .i64 a1, .int .i64 a2, .int .i64 a3, .int .i64 a4, .int .i64 a5] 27)) 27 (w.heap.size) 0 0 0 0 0 0 := HoldsA.alloc (HoldsA.grownM (by repeat (first | with_reducible assumption | (with_reducible refine HoldsA.made' ?_; (simp; done)) | with_reducible refine HoldsA.alloc ?_ _ | with_reducible refine HoldsA.drew ?_ | with_reducible refine HoldsA.drewN ?_ _ | (with_reducible refine HoldsA.far ?_ _ _ (by first | (simp; done) | (simp; omega) | omega)))) hga (by omega)) _
    have hqwa : HoldsA (w1.alloc (.cells #[.int .i64 a0, .int .i64 a1, .int .i64 a2, .int .i64 a3, .int .i64 a4, .int .i64 a5] 27)) 27 (w.heap.size + 1) 0 0 0 0 0 0 := HoldsA.alloc (HoldsA.grownM (by repeat (first | with_reducible assumption | (with_reducible refine HoldsA.made' ?_; (simp; done)) | with_reducible refine HoldsA.alloc ?_ _ | with_reducible refine HoldsA.drew ?_ | with_reducible refine HoldsA.drewN ?_ _ | (with_reducible refine HoldsA.far ?_ _ _ (by first | (simp; done) | (simp; omega) | omega)))) hga (by omega)) _
    have hawa : HoldsA (w1.alloc (.cells #[.int .i64 a0, .int .i64 a1, .int .i64 a2, .int .i64 a3, .int .i64 a4, .int .i64 a5] 27)) 27 (w1.heap.size) a0 a1 a2 a3 a4 a5 := HoldsA.made _ _ _ _ _ _ _ _
    have hlwa : w.heap.size ≤ w1.heap.size := by have := hcua.lt; omega
    have hcuwa := hcua.alloc (.cells #[.int .i64 a0, .int .i64 a1, .int .i64 a2, .int .i64 a3, .int .i64 a4, .int .i64 a5] 27)
    have hBwa : Below w.heap.size w (w1.alloc (.cells #[.int .i64 a0, .int .i64 a1, .int .i64 a2, .int .i64 a3, .int .i64 a4, .int .i64 a5] 27)) := (by repeat (first | with_reducible exact Below.refl _ _ | with_reducible assumption | with_reducible refine Below.drew ?_ | with_reducible refine below_drewN ?_ _ | with_reducible refine Below.alloc ?_ ?_ _ | with_reducible refine Below.setCell ?_ ?_ _ | with_reducible refine below_grown ?_ (by with_reducible assumption) ?_ | omega | (simp <;> omega)))
    have hswa : (w1.alloc (.cells #[.int .i64 a0, .int .i64 a1, .int .i64 a2, .int .i64 a3, .int .i64 a4, .int .i64 a5] 27)).heap.size = w1.heap.size + 1 := by simp
    have hzwa : w.heap.size + 1 + 1 < w1.heap.size := by have := hcua.lt; omega
    clear hcua hga
    generalize hEwa : (w1.alloc (.cells #[.int .i64 a0, .int .i64 a1, .int .i64 a2, .int .i64 a3, .int .i64 a4, .int .i64 a5] 27)) = wa at *
    generalize hGwa : w1.heap.size = ga at *
    clear hEwa hGwa
    go_upto_region 4 with (go_at_call 75; (with_reducible refine (sheet_c hcuwa (by omega) hlen).mono ?_); rintro e w2 ⟨b0, b1, b2, b3, b4, b5, rfl, hcub, hgb⟩)
    have hrwb : HoldsA (w2.alloc (.cells #[.int .i64 b0, .int .i64 b1, .int .i64 b2, .int .i64 b3, .int .i64 b4, .int .i64 b5] 27)) 27 (w.heap.size) 0 0 0 0 0 0 := HoldsA.alloc (HoldsA.grownM (by repeat (first | with_reducible assumption | (with_reducible refine HoldsA.made' ?_; (simp; done)) | with_reducible refine HoldsA.alloc ?_ _ | with_reducible refine HoldsA.drew ?_ | with_reducible refine HoldsA.drewN ?_ _ | (with_reducible refine HoldsA.far ?_ _ _ (by first | (simp; done) | (simp; omega) | omega)))) hgb (by omega)) _
    have hqwb : HoldsA (w2.alloc (.cells #[.int .i64 b0, .int .i64 b1, .int .i64 b2, .int .i64 b3, .int .i64 b4, .int .i64 b5] 27)) 27 (w.heap.size + 1) 0 0 0 0 0 0 := HoldsA.alloc (HoldsA.grownM (by repeat (first | with_reducible assumption | (with_reducible refine HoldsA.made' ?_; (simp; done)) | with_reducible refine HoldsA.alloc ?_ _ | with_reducible refine HoldsA.drew ?_ | with_reducible refine HoldsA.drewN ?_ _ | (with_reducible refine HoldsA.far ?_ _ _ (by first | (simp; done) | (simp; omega) | omega)))) hgb (by omega)) _
    have hawb : HoldsA (w2.alloc (.cells #[.int .i64 b0, .int .i64 b1, .int .i64 b2, .int .i64 b3, .int .i64 b4, .int .i64 b5] 27)) 27 (ga) a0 a1 a2 a3 a4 a5 := HoldsA.alloc (HoldsA.grownM (by repeat (first | with_reducible assumption | (with_reducible refine HoldsA.made' ?_; (simp; done)) | with_reducible refine HoldsA.alloc ?_ _ | with_reducible refine HoldsA.drew ?_ | with_reducible refine HoldsA.drewN ?_ _ | (with_reducible refine HoldsA.far ?_ _ _ (by first | (simp; done) | (simp; omega) | omega)))) hgb (by omega)) _
    have hbwb : HoldsA (w2.alloc (.cells #[.int .i64 b0, .int .i64 b1, .int .i64 b2, .int .i64 b3, .int .i64 b4, .int .i64 b5] 27)) 27 (w2.heap.size) b0 b1 b2 b3 b4 b5 := HoldsA.made _ _ _ _ _ _ _ _
    have hlwb : w.heap.size ≤ w2.heap.size := by have := hcub.lt; omega
    have hcuwb := hcub.alloc (.cells #[.int .i64 b0, .int .i64 b1, .int .i64 b2, .int .i64 b3, .int .i64 b4, .int .i64 b5] 27)
    have hBwab : Below w.heap.size w w2 := below_grown hBwa hgb (by omega)
    have hgal : ga < w2.heap.size := by have := hgb.size; omega
    have hBwb : Below w.heap.size w (w2.alloc (.cells #[.int .i64 b0, .int .i64 b1, .int .i64 b2, .int .i64 b3, .int .i64 b4, .int .i64 b5] 27)) := (by repeat (first | with_reducible exact Below.refl _ _ | with_reducible assumption | with_reducible refine Below.drew ?_ | with_reducible refine below_drewN ?_ _ | with_reducible refine Below.alloc ?_ ?_ _ | with_reducible refine Below.setCell ?_ ?_ _ | with_reducible refine below_grown ?_ (by with_reducible assumption) ?_ | omega | (simp <;> omega)))
    have hswb : (w2.alloc (.cells #[.int .i64 b0, .int .i64 b1, .int .i64 b2, .int .i64 b3, .int .i64 b4, .int .i64 b5] 27)).heap.size = w2.heap.size + 1 := by simp
    have hzwb : w.heap.size + 1 + 1 < w2.heap.size := by have := hcub.lt; omega
    clear hcub hgb
    generalize hEwb : (w2.alloc (.cells #[.int .i64 b0, .int .i64 b1, .int .i64 b2, .int .i64 b3, .int .i64 b4, .int .i64 b5] 27)) = wb at *
    generalize hGwb : w2.heap.size = gb at *
    clear hEwb hGwb
    clear hrwa hqwa hawa hBwa hcuwa hBwab hlwa hswa
    have hl2 := hrwb.lt
    have hl3 := hqwb.lt
    have hl4 := hawb.lt
    have hl5 := hbwb.lt
    by_cases ha : Ok6 a0 a1 a2 a3 a4 a5
    · obtain ⟨X, hX, rfl, rfl, rfl, rfl, rfl, rfl⟩ := set_of_rows a0 a1 a2 a3 a4 a5 ha.1 ha.2.1 ha.2.2.1 ha.2.2.2.1 ha.2.2.2.2.1 ha.2.2.2.2.2
      clear ha
      have x0 := hawb.c0
      have x1 := hawb.c1
      have x2 := hawb.c2
      have x3 := hawb.c3
      have x4 := hawb.c4
      have x5 := hawb.c5
      have xf := hawb.free
      by_cases hb : Ok6 b0 b1 b2 b3 b4 b5
      · obtain ⟨Y, hY, rfl, rfl, rfl, rfl, rfl, rfl⟩ := set_of_rows b0 b1 b2 b3 b4 b5 hb.1 hb.2.1 hb.2.2.1 hb.2.2.2.1 hb.2.2.2.2.1 hb.2.2.2.2.2
        clear hb
        go_upto_if 24 with (first | (go_at_call 46; (with_reducible refine (l2Sheet_ok X _).mono ?_); rintro e w3 ⟨rfl, hw3⟩; have hrw3 := hrwb.below hw3 (by omega); have hqw3 := hqwb.below hw3 (by omega); have haw3 := hawb.below hw3 (by omega); have hbw3 := hbwb.below hw3 (by omega); have hBw3 := hBwb.trans (hw3.mono (by omega)); have hzw3 := hw3.size; have hcuw3 := hcuwb.below' hw3 (Nat.le_refl _); have x30 := haw3.c0; have x31 := haw3.c1; have x32 := haw3.c2; have x33 := haw3.c3; have x34 := haw3.c4; have x35 := haw3.c5; have x3f := haw3.free; have y30 := hbw3.c0; have y31 := hbw3.c1; have y32 := hbw3.c2; have y33 := hbw3.c3; have y34 := hbw3.c4; have y35 := hbw3.c5; have y3f := hbw3.free) | (go_at_call 46; (with_reducible refine (l2Sheet_ok Y _).mono ?_); rintro e w4 ⟨rfl, hw4⟩; have hrw4 := hrw3.below hw4 (by omega); have hqw4 := hqw3.below hw4 (by omega); have haw4 := haw3.below hw4 (by omega); have hbw4 := hbw3.below hw4 (by omega); have hBw4 := hBw3.trans (hw4.mono (by omega)); have hzw4 := hw4.size; have hcuw4 := hcuw3.below' hw4 (Nat.le_refl _); have x40 := haw4.c0; have x41 := haw4.c1; have x42 := haw4.c2; have x43 := haw4.c3; have x44 := haw4.c4; have x45 := haw4.c5; have x4f := haw4.free; have y40 := hbw4.c0; have y41 := hbw4.c1; have y42 := hbw4.c2; have y43 := hbw4.c3; have y44 := hbw4.c4; have y45 := hbw4.c5; have y4f := hbw4.free) | (go_at_call 93; (with_reducible refine (one_c (n := 0 + 70 + 50) (cv := (.slice none 0 0)) (len := len) hcuw4 3 (by constructor <;> omega) (by omega) hlen).mono ?_); rintro e w5 ⟨b, rfl, hcu5, hg5⟩; have hrw5 := HoldsA.grownM hrw4 hg5 (by omega); have hqw5 := HoldsA.grownM hqw4 hg5 (by omega); have haw5 := HoldsA.grownM haw4 hg5 (by omega); have hbw5 := HoldsA.grownM hbw4 hg5 (by omega); have hBw5 := below_grown hBw4 hg5 (by omega); have hz5 := hg5.size))
        cases b with
        | true =>
          go_upto_region 6 with fail
          clear x0 x1 x2 x3 x4 x5 xf x30 x31 x32 x33 x34 x35 x3f y30 y31 y32 y33 y34 y35 y3f x40 x41 x42 x43 x44 x45 x4f y40 y41 y42 y43 y44 y45 y4f
          have fy0 := hrw5.c0
          have fy1 := hrw5.c1
          have fy2 := hrw5.c2
          have fy3 := hrw5.c3
          have fy4 := hrw5.c4
          have fy5 := hrw5.c5
          have fyf := hrw5.free
          have fq0 := hqw5.c0
          have fq1 := hqw5.c1
          have fq2 := hqw5.c2
          have fq3 := hqw5.c3
          have fq4 := hqw5.c4
          have fq5 := hqw5.c5
          have fqf := hqw5.free
          have fx0 := haw5.c0
          have fx1 := haw5.c1
          have fx2 := haw5.c2
          have fx3 := haw5.c3
          have fx4 := haw5.c4
          have fx5 := haw5.c5
          have fxf := haw5.free
          have fz0 := hbw5.c0
          have fz1 := hbw5.c1
          have fz2 := hbw5.c2
          have fz3 := hbw5.c3
          have fz4 := hbw5.c4
          have fz5 := hbw5.c5
          have fzf := hbw5.free
          go_cut [] from 28 to 29 (fun wx => HoldsA wx 27 (w.heap.size) (row X 0) (row X 1) (row X 2) (row X 3) (row X 4) (row X 5) ∧ HoldsA wx 27 (w.heap.size + 1) (row Y 0) (row Y 1) (row Y 2) (row Y 3) (row Y 4) (row Y 5) ∧ Below w.heap.size w wx)
          case first =>
            obtain ⟨hn1, hn2, hn3, hn4, hn5, hn6, hn7, hn8⟩ : (¬ ga = w.heap.size) ∧ (¬ ga = w.heap.size + 1) ∧ (¬ gb = w.heap.size) ∧ (¬ gb = w.heap.size + 1) ∧ (¬ w.heap.size = ga) ∧ (¬ w.heap.size + 1 = ga) ∧ (¬ w.heap.size = gb) ∧ (¬ w.heap.size + 1 = gb) := ⟨by omega, by omega, by omega, by omega, by omega, by omega, by omega, by omega⟩
            go_region_held3 (fun w' => w'.cell? ⟨ga, 0, none⟩ = some (.int .i64 (row X 0)) ∧ w'.cell? ⟨ga, 1, none⟩ = some (.int .i64 (row X 1)) ∧ w'.cell? ⟨ga, 2, none⟩ = some (.int .i64 (row X 2)) ∧ w'.cell? ⟨ga, 3, none⟩ = some (.int .i64 (row X 3)) ∧ w'.cell? ⟨ga, 4, none⟩ = some (.int .i64 (row X 4)) ∧ w'.cell? ⟨ga, 5, none⟩ = some (.int .i64 (row X 5)) ∧ w'.cell? ⟨gb, 0, none⟩ = some (.int .i64 (row Y 0)) ∧ w'.cell? ⟨gb, 1, none⟩ = some (.int .i64 (row Y 1)) ∧ w'.cell? ⟨gb, 2, none⟩ = some (.int .i64 (row Y 2)) ∧ w'.cell? ⟨gb, 3, none⟩ = some (.int .i64 (row Y 3)) ∧ w'.cell? ⟨gb, 4, none⟩ = some (.int .i64 (row Y 4)) ∧ w'.cell? ⟨gb, 5, none⟩ = some (.int .i64 (row Y 5))) (simp [*, World.cell?_alloc_some, World.cell?_setCell_far, Nat.ne_of_gt]) (fail)
            all_goals
              clear hn1 hn2 hn3 hn4 hn5 hn6 hn7 hn8
              go_wp2_with fail
              go_meet
              refine ⟨?_, ?_, ?_⟩
              · (repeat (first | with_reducible refine HoldsA.drew ?_ | with_reducible refine HoldsA.drewN ?_ _)); exact (hrw5.store _ _ _ _ _ _).far6 (show w.heap.size ≠ w.heap.size + 1 by omega) _ _ _ _ _ _
              · (repeat (first | with_reducible refine HoldsA.drew ?_ | with_reducible refine HoldsA.drewN ?_ _)); exact (hqw5.far6 (show w.heap.size + 1 ≠ w.heap.size by omega) _ _ _ _ _ _).store _ _ _ _ _ _
              · exact (by repeat (first | with_reducible exact Below.refl _ _ | with_reducible assumption | with_reducible refine Below.drew ?_ | with_reducible refine below_drewN ?_ _ | with_reducible refine Below.alloc ?_ ?_ _ | with_reducible refine Below.setCell ?_ ?_ _ | with_reducible refine below_grown ?_ (by with_reducible assumption) ?_ | omega | (simp <;> omega)))
          case rest =>
            obtain ⟨hrx, hqx, hBx⟩ := hcut
            have gy0 := hrx.c0
            have gy1 := hrx.c1
            have gy2 := hrx.c2
            have gy3 := hrx.c3
            have gy4 := hrx.c4
            have gy5 := hrx.c5
            have gyf := hrx.free
            have gz0 := hqx.c0
            have gz1 := hqx.c1
            have gz2 := hqx.c2
            have gz3 := hqx.c3
            have gz4 := hqx.c4
            have gz5 := hqx.c5
            have gzf := hqx.free
            go_wp2_with fail
            exact bodyPost_ret (v := .tuple #[.agg #[.int .i64 (row X 0), .int .i64 (row X 1), .int .i64 (row X 2), .int .i64 (row X 3), .int .i64 (row X 4), .int .i64 (row X 5)], .agg #[.int .i64 (row Y 0), .int .i64 (row Y 1), .int .i64 (row Y 2), .int .i64 (row Y 3), .int .i64 (row Y 4), .int .i64 (row Y 5)]]) (by simp [results, Tryd.results73, go_sem, *]) rfl ⟨_, _, _, _, _, _, _, _, _, _, _, _, rfl, hBx⟩
        | false =>
          have x50 := haw5.c0
          have x51 := haw5.c1
          have x52 := haw5.c2
          have x53 := haw5.c3
          have x54 := haw5.c4
          have x55 := haw5.c5
          have x5f := haw5.free
          have y50 := hbw5.c0
          have y51 := hbw5.c1
          have y52 := hbw5.c2
          have y53 := hbw5.c3
          have y54 := hbw5.c4
          have y55 := hbw5.c5
          have y5f := hbw5.free
          go_upto_region 6 with (go_at_call 53; (with_reducible refine (l4Print_any X Y _).mono ?_); rintro e w6 ⟨rfl, hb6⟩; have hrw6 := hrw5.below hb6 (by omega); have hqw6 := hqw5.below hb6 (by omega); have haw6 := haw5.below hb6 (by omega); have hbw6 := hbw5.below hb6 (by omega); have hBw6 := hBw5.trans (hb6.mono (by omega)); have hzw6 := hb6.size; have y60 := hbw6.c0; have y61 := hbw6.c1; have y62 := hbw6.c2; have y63 := hbw6.c3; have y64 := hbw6.c4; have y65 := hbw6.c5; have y6f := hbw6.free)
          have hrw7 := hrw6.far6 (D := gb) (by omega) (row (printS X Y) 0) (row (printS X Y) 1) (row (printS X Y) 2) (row (printS X Y) 3) (row (printS X Y) 4) (row (printS X Y) 5)
          have hqw7 := hqw6.far6 (D := gb) (by omega) (row (printS X Y) 0) (row (printS X Y) 1) (row (printS X Y) 2) (row (printS X Y) 3) (row (printS X Y) 4) (row (printS X Y) 5)
          have haw7 := haw6.far6 (D := gb) (by omega) (row (printS X Y) 0) (row (printS X Y) 1) (row (printS X Y) 2) (row (printS X Y) 3) (row (printS X Y) 4) (row (printS X Y) 5)
          have hbw7 := hbw6.store (row (printS X Y) 0) (row (printS X Y) 1) (row (printS X Y) 2) (row (printS X Y) 3) (row (printS X Y) 4) (row (printS X Y) 5)
          have hBw7 : Below w.heap.size w ((((((w6.setCell ⟨gb, 0, none⟩ (.int .i64 (row (printS X Y) 0))).setCell ⟨gb, 1, none⟩ (.int .i64 (row (printS X Y) 1))).setCell ⟨gb, 2, none⟩ (.int .i64 (row (printS X Y) 2))).setCell ⟨gb, 3, none⟩ (.int .i64 (row (printS X Y) 3))).setCell ⟨gb, 4, none⟩ (.int .i64 (row (printS X Y) 4))).setCell ⟨gb, 5, none⟩ (.int .i64 (row (printS X Y) 5))) := (by repeat (first | with_reducible exact Below.refl _ _ | with_reducible assumption | with_reducible refine Below.drew ?_ | with_reducible refine below_drewN ?_ _ | with_reducible refine Below.alloc ?_ ?_ _ | with_reducible refine Below.setCell ?_ ?_ _ | with_reducible refine below_grown ?_ (by with_reducible assumption) ?_ | omega | (simp <;> omega)))
          generalize ((((((w6.setCell ⟨gb, 0, none⟩ (.int .i64 (row (printS X Y) 0))).setCell ⟨gb, 1, none⟩ (.int .i64 (row (printS X Y) 1))).setCell ⟨gb, 2, none⟩ (.int .i64 (row (printS X Y) 2))).setCell ⟨gb, 3, none⟩ (.int .i64 (row (printS X Y) 3))).setCell ⟨gb, 4, none⟩ (.int .i64 (row (printS X Y) 4))).setCell ⟨gb, 5, none⟩ (.int .i64 (row (printS X Y) 5))) = w7 at *
          clear x50 x51 x52 x53 x54 x55 x5f y50 y51 y52 y53 y54 y55 y5f y60 y61 y62 y63 y64 y65 y6f
          clear x0 x1 x2 x3 x4 x5 xf x30 x31 x32 x33 x34 x35 x3f y30 y31 y32 y33 y34 y35 y3f x40 x41 x42 x43 x44 x45 x4f y40 y41 y42 y43 y44 y45 y4f
          have fy0 := hrw7.c0
          have fy1 := hrw7.c1
          have fy2 := hrw7.c2
          have fy3 := hrw7.c3
          have fy4 := hrw7.c4
          have fy5 := hrw7.c5
          have fyf := hrw7.free
          have fq0 := hqw7.c0
          have fq1 := hqw7.c1
          have fq2 := hqw7.c2
          have fq3 := hqw7.c3
          have fq4 := hqw7.c4
          have fq5 := hqw7.c5
          have fqf := hqw7.free
          have fx0 := haw7.c0
          have fx1 := haw7.c1
          have fx2 := haw7.c2
          have fx3 := haw7.c3
          have fx4 := haw7.c4
          have fx5 := haw7.c5
          have fxf := haw7.free
          have fz0 := hbw7.c0
          have fz1 := hbw7.c1
          have fz2 := hbw7.c2
          have fz3 := hbw7.c3
          have fz4 := hbw7.c4
          have fz5 := hbw7.c5
          have fzf := hbw7.free
          go_cut [] from 28 to 29 (fun wx => HoldsA wx 27 (w.heap.size) (row X 0) (row X 1) (row X 2) (row X 3) (row X 4) (row X 5) ∧ HoldsA wx 27 (w.heap.size + 1) (row (printS X Y) 0) (row (printS X Y) 1) (row (printS X Y) 2) (row (printS X Y) 3) (row (printS X Y) 4) (row (printS X Y) 5) ∧ Below w.heap.size w wx)
          case first =>
            obtain ⟨hn1, hn2, hn3, hn4, hn5, hn6, hn7, hn8⟩ : (¬ ga = w.heap.size) ∧ (¬ ga = w.heap.size + 1) ∧ (¬ gb = w.heap.size) ∧ (¬ gb = w.heap.size + 1) ∧ (¬ w.heap.size = ga) ∧ (¬ w.heap.size + 1 = ga) ∧ (¬ w.heap.size = gb) ∧ (¬ w.heap.size + 1 = gb) := ⟨by omega, by omega, by omega, by omega, by omega, by omega, by omega, by omega⟩
            go_region_held3 (fun w' => w'.cell? ⟨ga, 0, none⟩ = some (.int .i64 (row X 0)) ∧ w'.cell? ⟨ga, 1, none⟩ = some (.int .i64 (row X 1)) ∧ w'.cell? ⟨ga, 2, none⟩ = some (.int .i64 (row X 2)) ∧ w'.cell? ⟨ga, 3, none⟩ = some (.int .i64 (row X 3)) ∧ w'.cell? ⟨ga, 4, none⟩ = some (.int .i64 (row X 4)) ∧ w'.cell? ⟨ga, 5, none⟩ = some (.int .i64 (row X 5)) ∧ w'.cell? ⟨gb, 0, none⟩ = some (.int .i64 (row (printS X Y) 0)) ∧ w'.cell? ⟨gb, 1, none⟩ = some (.int .i64 (row (printS X Y) 1)) ∧ w'.cell? ⟨gb, 2, none⟩ = some (.int .i64 (row (printS X Y) 2)) ∧ w'.cell? ⟨gb, 3, none⟩ = some (.int .i64 (row (printS X Y) 3)) ∧ w'.cell? ⟨gb, 4, none⟩ = some (.int .i64 (row (printS X Y) 4)) ∧ w'.cell? ⟨gb, 5, none⟩ = some (.int .i64 (row (printS X Y) 5))) (simp [*, World.cell?_alloc_some, World.cell?_setCell_far, Nat.ne_of_gt]) (fail)
            all_goals
              clear hn1 hn2 hn3 hn4 hn5 hn6 hn7 hn8
              go_wp2_with fail
              go_meet
              refine ⟨?_, ?_, ?_⟩
              · (repeat (first | with_reducible refine HoldsA.drew ?_ | with_reducible refine HoldsA.drewN ?_ _)); exact (hrw7.store _ _ _ _ _ _).far6 (show w.heap.size ≠ w.heap.size + 1 by omega) _ _ _ _ _ _
              · (repeat (first | with_reducible refine HoldsA.drew ?_ | with_reducible refine HoldsA.drewN ?_ _)); exact (hqw7.far6 (show w.heap.size + 1 ≠ w.heap.size by omega) _ _ _ _ _ _).store _ _ _ _ _ _
              · exact (by repeat (first | with_reducible exact Below.refl _ _ | with_reducible assumption | with_reducible refine Below.drew ?_ | with_reducible refine below_drewN ?_ _ | with_reducible refine Below.alloc ?_ ?_ _ | with_reducible refine Below.setCell ?_ ?_ _ | with_reducible refine below_grown ?_ (by with_reducible assumption) ?_ | omega | (simp <;> omega)))
          case rest =>
            obtain ⟨hrx, hqx, hBx⟩ := hcut
            have gy0 := hrx.c0
            have gy1 := hrx.c1
            have gy2 := hrx.c2
            have gy3 := hrx.c3
            have gy4 := hrx.c4
            have gy5 := hrx.c5
            have gyf := hrx.free
            have gz0 := hqx.c0
            have gz1 := hqx.c1
            have gz2 := hqx.c2
            have gz3 := hqx.c3
            have gz4 := hqx.c4
            have gz5 := hqx.c5
            have gzf := hqx.free
            go_wp2_with fail
            exact bodyPost_ret (v := .tuple #[.agg #[.int .i64 (row X 0), .int .i64 (row X 1), .int .i64 (row X 2), .int .i64 (row X 3), .int .i64 (row X 4), .int .i64 (row X 5)], .agg #[.int .i64 (row (printS X Y) 0), .int .i64 (row (printS X Y) 1), .int .i64 (row (printS X Y) 2), .int .i64 (row (printS X Y) 3), .int .i64 (row (printS X Y) 4), .int .i64 (row (printS X Y) 5)]]) (by simp [results, Tryd.results73, go_sem, *]) rfl ⟨_, _, _, _, _, _, _, _, _, _, _, _, rfl, hBx⟩
      · go_upto_if 24 with (first | (go_at_call 46; (with_reducible refine (l2Sheet_ok X _).mono ?_); rintro e w3 ⟨rfl, hw3⟩; have hrw3 := hrwb.below hw3 (by omega); have hqw3 := hqwb.below hw3 (by omega); have haw3 := hawb.below hw3 (by omega); have hbw3 := hbwb.below hw3 (by omega); have hBw3 := hBwb.trans (hw3.mono (by omega)); have hzw3 := hw3.size; have hcuw3 := hcuwb.below' hw3 (Nat.le_refl _); have x30 := haw3.c0; have x31 := haw3.c1; have x32 := haw3.c2; have x33 := haw3.c3; have x34 := haw3.c4; have x35 := haw3.c5; have x3f := haw3.free; have y30 := hbw3.c0; have y31 := hbw3.c1; have y32 := hbw3.c2; have y33 := hbw3.c3; have y34 := hbw3.c4; have y35 := hbw3.c5; have y3f := hbw3.free) | (go_at_call 46; (with_reducible refine (l2Sheet_no _ _ _ _ _ _ (by assumption) _).mono ?_); rintro e w4 ⟨rfl, hw4⟩; have hrw4 := hrw3.below hw4 (by omega); have hqw4 := hqw3.below hw4 (by omega); have haw4 := haw3.below hw4 (by omega); have hbw4 := hbw3.below hw4 (by omega); have hBw4 := hBw3.trans (hw4.mono (by omega)); have hzw4 := hw4.size; have hcuw4 := hcuw3.below' hw4 (Nat.le_refl _); have x40 := haw4.c0; have x41 := haw4.c1; have x42 := haw4.c2; have x43 := haw4.c3; have x44 := haw4.c4; have x45 := haw4.c5; have x4f := haw4.free; have y40 := hbw4.c0; have y41 := hbw4.c1; have y42 := hbw4.c2; have y43 := hbw4.c3; have y44 := hbw4.c4; have y45 := hbw4.c5; have y4f := hbw4.free))
        go_upto_region 6 with fail
        clear x0 x1 x2 x3 x4 x5 xf x30 x31 x32 x33 x34 x35 x3f y30 y31 y32 y33 y34 y35 y3f x40 x41 x42 x43 x44 x45 x4f y40 y41 y42 y43 y44 y45 y4f
        have fy0 := hrw4.c0
        have fy1 := hrw4.c1
        have fy2 := hrw4.c2
        have fy3 := hrw4.c3
        have fy4 := hrw4.c4
        have fy5 := hrw4.c5
        have fyf := hrw4.free
        have fq0 := hqw4.c0
        have fq1 := hqw4.c1
        have fq2 := hqw4.c2
        have fq3 := hqw4.c3
        have fq4 := hqw4.c4
        have fq5 := hqw4.c5
        have fqf := hqw4.free
        have fx0 := haw4.c0
        have fx1 := haw4.c1
        have fx2 := haw4.c2
        have fx3 := haw4.c3
        have fx4 := haw4.c4
        have fx5 := haw4.c5
        have fxf := haw4.free
        have fz0 := hbw4.c0
        have fz1 := hbw4.c1
        have fz2 := hbw4.c2
        have fz3 := hbw4.c3
        have fz4 := hbw4.c4
        have fz5 := hbw4.c5
        have fzf := hbw4.free
        go_cut [] from 28 to 29 (fun wx => HoldsA wx 27 (w.heap.size) (row X 0) (row X 1) (row X 2) (row X 3) (row X 4) (row X 5) ∧ HoldsA wx 27 (w.heap.size + 1) (b0) (b1) (b2) (b3) (b4) (b5) ∧ Below w.heap.size w wx)
        case first =>
          obtain ⟨hn1, hn2, hn3, hn4, hn5, hn6, hn7, hn8⟩ : (¬ ga = w.heap.size) ∧ (¬ ga = w.heap.size + 1) ∧ (¬ gb = w.heap.size) ∧ (¬ gb = w.heap.size + 1) ∧ (¬ w.heap.size = ga) ∧ (¬ w.heap.size + 1 = ga) ∧ (¬ w.heap.size = gb) ∧ (¬ w.heap.size + 1 = gb) := ⟨by omega, by omega, by omega, by omega, by omega, by omega, by omega, by omega⟩
          go_region_held3 (fun w' => w'.cell? ⟨ga, 0, none⟩ = some (.int .i64 (row X 0)) ∧ w'.cell? ⟨ga, 1, none⟩ = some (.int .i64 (row X 1)) ∧ w'.cell? ⟨ga, 2, none⟩ = some (.int .i64 (row X 2)) ∧ w'.cell? ⟨ga, 3, none⟩ = some (.int .i64 (row X 3)) ∧ w'.cell? ⟨ga, 4, none⟩ = some (.int .i64 (row X 4)) ∧ w'.cell? ⟨ga, 5, none⟩ = some (.int .i64 (row X 5)) ∧ w'.cell? ⟨gb, 0, none⟩ = some (.int .i64 (b0)) ∧ w'.cell? ⟨gb, 1, none⟩ = some (.int .i64 (b1)) ∧ w'.cell? ⟨gb, 2, none⟩ = some (.int .i64 (b2)) ∧ w'.cell? ⟨gb, 3, none⟩ = some (.int .i64 (b3)) ∧ w'.cell? ⟨gb, 4, none⟩ = some (.int .i64 (b4)) ∧ w'.cell? ⟨gb, 5, none⟩ = some (.int .i64 (b5))) (simp [*, World.cell?_alloc_some, World.cell?_setCell_far, Nat.ne_of_gt]) (fail)
          all_goals
            clear hn1 hn2 hn3 hn4 hn5 hn6 hn7 hn8
            go_wp2_with fail
            go_meet
            refine ⟨?_, ?_, ?_⟩
            · (repeat (first | with_reducible refine HoldsA.drew ?_ | with_reducible refine HoldsA.drewN ?_ _)); exact (hrw4.store _ _ _ _ _ _).far6 (show w.heap.size ≠ w.heap.size + 1 by omega) _ _ _ _ _ _
            · (repeat (first | with_reducible refine HoldsA.drew ?_ | with_reducible refine HoldsA.drewN ?_ _)); exact (hqw4.far6 (show w.heap.size + 1 ≠ w.heap.size by omega) _ _ _ _ _ _).store _ _ _ _ _ _
            · exact (by repeat (first | with_reducible exact Below.refl _ _ | with_reducible assumption | with_reducible refine Below.drew ?_ | with_reducible refine below_drewN ?_ _ | with_reducible refine Below.alloc ?_ ?_ _ | with_reducible refine Below.setCell ?_ ?_ _ | with_reducible refine below_grown ?_ (by with_reducible assumption) ?_ | omega | (simp <;> omega)))
        case rest =>
          obtain ⟨hrx, hqx, hBx⟩ := hcut
          have gy0 := hrx.c0
          have gy1 := hrx.c1
          have gy2 := hrx.c2
          have gy3 := hrx.c3
          have gy4 := hrx.c4
          have gy5 := hrx.c5
          have gyf := hrx.free
          have gz0 := hqx.c0
          have gz1 := hqx.c1
          have gz2 := hqx.c2
          have gz3 := hqx.c3
          have gz4 := hqx.c4
          have gz5 := hqx.c5
          have gzf := hqx.free
          go_wp2_with fail
          exact bodyPost_ret (v := .tuple #[.agg #[.int .i64 (row X 0), .int .i64 (row X 1), .int .i64 (row X 2), .int .i64 (row X 3), .int .i64 (row X 4), .int .i64 (row X 5)], .agg #[.int .i64 (b0), .int .i64 (b1), .int .i64 (b2), .int .i64 (b3), .int .i64 (b4), .int .i64 (b5)]]) (by simp [results, Tryd.results73, go_sem, *]) rfl ⟨_, _, _, _, _, _, _, _, _, _, _, _, rfl, hBx⟩
    · have hnoa := ha
      clear ha
      have x0 := hawb.c0
      have x1 := hawb.c1
      have x2 := hawb.c2
      have x3 := hawb.c3
      have x4 := hawb.c4
      have x5 := hawb.c5
      have xf := hawb.free
      go_upto_if 24 with (first | (go_at_call 46; (with_reducible refine (l2Sheet_no _ _ _ _ _ _ (by assumption) _).mono ?_); rintro e w3 ⟨rfl, hw3⟩; have hrw3 := hrwb.below hw3 (by omega); have hqw3 := hqwb.below hw3 (by omega); have haw3 := hawb.below hw3 (by omega); have hbw3 := hbwb.below hw3 (by omega); have hBw3 := hBwb.trans (hw3.mono (by omega)); have hzw3 := hw3.size; have hcuw3 := hcuwb.below' hw3 (Nat.le_refl _); have x30 := haw3.c0; have x31 := haw3.c1; have x32 := haw3.c2; have x33 := haw3.c3; have x34 := haw3.c4; have x35 := haw3.c5; have x3f := haw3.free; have y30 := hbw3.c0; have y31 := hbw3.c1; have y32 := hbw3.c2; have y33 := hbw3.c3; have y34 := hbw3.c4; have y35 := hbw3.c5; have y3f := hbw3.free))
      go_upto_region 6 with fail
      clear x0 x1 x2 x3 x4 x5 xf x30 x31 x32 x33 x34 x35 x3f y30 y31 y32 y33 y34 y35 y3f
      have fy0 := hrw3.c0
      have fy1 := hrw3.c1
      have fy2 := hrw3.c2
      have fy3 := hrw3.c3
      have fy4 := hrw3.c4
      have fy5 := hrw3.c5
      have fyf := hrw3.free
      have fq0 := hqw3.c0
      have fq1 := hqw3.c1
      have fq2 := hqw3.c2
      have fq3 := hqw3.c3
      have fq4 := hqw3.c4
      have fq5 := hqw3.c5
      have fqf := hqw3.free
      have fx0 := haw3.c0
      have fx1 := haw3.c1
      have fx2 := haw3.c2
      have fx3 := haw3.c3
      have fx4 := haw3.c4
      have fx5 := haw3.c5
      have fxf := haw3.free
      have fz0 := hbw3.c0
      have fz1 := hbw3.c1
      have fz2 := hbw3.c2
      have fz3 := hbw3.c3
      have fz4 := hbw3.c4
      have fz5 := hbw3.c5
      have fzf := hbw3.free
      go_cut [] from 28 to 29 (fun wx => HoldsA wx 27 (w.heap.size) (a0) (a1) (a2) (a3) (a4) (a5) ∧ HoldsA wx 27 (w.heap.size + 1) (b0) (b1) (b2) (b3) (b4) (b5) ∧ Below w.heap.size w wx)
      case first =>
        obtain ⟨hn1, hn2, hn3, hn4, hn5, hn6, hn7, hn8⟩ : (¬ ga = w.heap.size) ∧ (¬ ga = w.heap.size + 1) ∧ (¬ gb = w.heap.size) ∧ (¬ gb = w.heap.size + 1) ∧ (¬ w.heap.size = ga) ∧ (¬ w.heap.size + 1 = ga) ∧ (¬ w.heap.size = gb) ∧ (¬ w.heap.size + 1 = gb) := ⟨by omega, by omega, by omega, by omega, by omega, by omega, by omega, by omega⟩
        go_region_held3 (fun w' => w'.cell? ⟨ga, 0, none⟩ = some (.int .i64 (a0)) ∧ w'.cell? ⟨ga, 1, none⟩ = some (.int .i64 (a1)) ∧ w'.cell? ⟨ga, 2, none⟩ = some (.int .i64 (a2)) ∧ w'.cell? ⟨ga, 3, none⟩ = some (.int .i64 (a3)) ∧ w'.cell? ⟨ga, 4, none⟩ = some (.int .i64 (a4)) ∧ w'.cell? ⟨ga, 5, none⟩ = some (.int .i64 (a5)) ∧ w'.cell? ⟨gb, 0, none⟩ = some (.int .i64 (b0)) ∧ w'.cell? ⟨gb, 1, none⟩ = some (.int .i64 (b1)) ∧ w'.cell? ⟨gb, 2, none⟩ = some (.int .i64 (b2)) ∧ w'.cell? ⟨gb, 3, none⟩ = some (.int .i64 (b3)) ∧ w'.cell? ⟨gb, 4, none⟩ = some (.int .i64 (b4)) ∧ w'.cell? ⟨gb, 5, none⟩ = some (.int .i64 (b5))) (simp [*, World.cell?_alloc_some, World.cell?_setCell_far, Nat.ne_of_gt]) (fail)
        all_goals
          clear hn1 hn2 hn3 hn4 hn5 hn6 hn7 hn8
          go_wp2_with fail
          go_meet
          refine ⟨?_, ?_, ?_⟩
          · (repeat (first | with_reducible refine HoldsA.drew ?_ | with_reducible refine HoldsA.drewN ?_ _)); exact (hrw3.store _ _ _ _ _ _).far6 (show w.heap.size ≠ w.heap.size + 1 by omega) _ _ _ _ _ _
          · (repeat (first | with_reducible refine HoldsA.drew ?_ | with_reducible refine HoldsA.drewN ?_ _)); exact (hqw3.far6 (show w.heap.size + 1 ≠ w.heap.size by omega) _ _ _ _ _ _).store _ _ _ _ _ _
          · exact (by repeat (first | with_reducible exact Below.refl _ _ | with_reducible assumption | with_reducible refine Below.drew ?_ | with_reducible refine below_drewN ?_ _ | with_reducible refine Below.alloc ?_ ?_ _ | with_reducible refine Below.setCell ?_ ?_ _ | with_reducible refine below_grown ?_ (by with_reducible assumption) ?_ | omega | (simp <;> omega)))
      case rest =>
        obtain ⟨hrx, hqx, hBx⟩ := hcut
        have gy0 := hrx.c0
        have gy1 := hrx.c1
        have gy2 := hrx.c2
        have gy3 := hrx.c3
        have gy4 := hrx.c4
        have gy5 := hrx.c5
        have gyf := hrx.free
        have gz0 := hqx.c0
        have gz1 := hqx.c1
        have gz2 := hqx.c2
        have gz3 := hqx.c3
        have gz4 := hqx.c4
        have gz5 := hqx.c5
        have gzf := hqx.free
        go_wp2_with fail
        exact bodyPost_ret (v := .tuple #[.agg #[.int .i64 (a0), .int .i64 (a1), .int .i64 (a2), .int .i64 (a3), .int .i64 (a4), .int .i64 (a5)], .agg #[.int .i64 (b0), .int .i64 (b1), .int .i64 (b2), .int .i64 (b3), .int .i64 (b4), .int .i64 (b5)]]) (by simp [results, Tryd.results73, go_sem, *]) rfl ⟨_, _, _, _, _, _, _, _, _, _, _, _, rfl, hBx⟩
  · subst hE
    go_enter Tryd.func73, Tryd.ntmps73
    go_upto_region 3 with (go_at_call 92; (with_reducible refine (kernelStamp_draw (by exact Cur.boxed' hcode (by repeat (first | with_reducible exact Below.refl _ _ | with_reducible assumption | with_reducible refine Below.drew ?_ | with_reducible refine below_drewN ?_ _ | with_reducible refine Below.alloc ?_ ?_ _ | with_reducible refine Below.setCell ?_ ?_ _ | with_reducible refine Below.trans ?_ (Below.mono (by assumption) ?_) | omega | (simp <;> omega))) (by simp)) (by omega) hlen).mono ?_); rintro e w1 ⟨a0, a1, a2, a3, a4, a5, rfl, hcua, hga⟩)
    have hrwa : HoldsA (w1.alloc (.cells #[.int .i64 a0, .int .i64 a1, .int .i64 a2, .int .i64 a3, .int .i64 a4, .int .i64 a5] 27)) 27 (w.heap.size) 0 0 0 0 0 0 := HoldsA.alloc (HoldsA.grownM (by repeat (first | with_reducible assumption | (with_reducible refine HoldsA.made' ?_; (simp; done)) | with_reducible refine HoldsA.alloc ?_ _ | with_reducible refine HoldsA.drew ?_ | with_reducible refine HoldsA.drewN ?_ _ | (with_reducible refine HoldsA.far ?_ _ _ (by first | (simp; done) | (simp; omega) | omega)))) hga (by omega)) _
    have hqwa : HoldsA (w1.alloc (.cells #[.int .i64 a0, .int .i64 a1, .int .i64 a2, .int .i64 a3, .int .i64 a4, .int .i64 a5] 27)) 27 (w.heap.size + 1) 0 0 0 0 0 0 := HoldsA.alloc (HoldsA.grownM (by repeat (first | with_reducible assumption | (with_reducible refine HoldsA.made' ?_; (simp; done)) | with_reducible refine HoldsA.alloc ?_ _ | with_reducible refine HoldsA.drew ?_ | with_reducible refine HoldsA.drewN ?_ _ | (with_reducible refine HoldsA.far ?_ _ _ (by first | (simp; done) | (simp; omega) | omega)))) hga (by omega)) _
    have hawa : HoldsA (w1.alloc (.cells #[.int .i64 a0, .int .i64 a1, .int .i64 a2, .int .i64 a3, .int .i64 a4, .int .i64 a5] 27)) 27 (w1.heap.size) a0 a1 a2 a3 a4 a5 := HoldsA.made _ _ _ _ _ _ _ _
    have hlwa : w.heap.size ≤ w1.heap.size := by have := hcua.lt; omega
    have hcuwa := hcua.alloc (.cells #[.int .i64 a0, .int .i64 a1, .int .i64 a2, .int .i64 a3, .int .i64 a4, .int .i64 a5] 27)
    have hBwa : Below w.heap.size w (w1.alloc (.cells #[.int .i64 a0, .int .i64 a1, .int .i64 a2, .int .i64 a3, .int .i64 a4, .int .i64 a5] 27)) := (by repeat (first | with_reducible exact Below.refl _ _ | with_reducible assumption | with_reducible refine Below.drew ?_ | with_reducible refine below_drewN ?_ _ | with_reducible refine Below.alloc ?_ ?_ _ | with_reducible refine Below.setCell ?_ ?_ _ | with_reducible refine below_grown ?_ (by with_reducible assumption) ?_ | omega | (simp <;> omega)))
    have hswa : (w1.alloc (.cells #[.int .i64 a0, .int .i64 a1, .int .i64 a2, .int .i64 a3, .int .i64 a4, .int .i64 a5] 27)).heap.size = w1.heap.size + 1 := by simp
    have hzwa : w.heap.size + 1 + 1 < w1.heap.size := by have := hcua.lt; omega
    clear hcua hga
    generalize hEwa : (w1.alloc (.cells #[.int .i64 a0, .int .i64 a1, .int .i64 a2, .int .i64 a3, .int .i64 a4, .int .i64 a5] 27)) = wa at *
    generalize hGwa : w1.heap.size = ga at *
    clear hEwa hGwa
    go_upto_region 4 with (go_at_call 75; (with_reducible refine (sheet_c hcuwa (by omega) hlen).mono ?_); rintro e w2 ⟨b0, b1, b2, b3, b4, b5, rfl, hcub, hgb⟩)
    have hrwb : HoldsA (w2.alloc (.cells #[.int .i64 b0, .int .i64 b1, .int .i64 b2, .int .i64 b3, .int .i64 b4, .int .i64 b5] 27)) 27 (w.heap.size) 0 0 0 0 0 0 := HoldsA.alloc (HoldsA.grownM (by repeat (first | with_reducible assumption | (with_reducible refine HoldsA.made' ?_; (simp; done)) | with_reducible refine HoldsA.alloc ?_ _ | with_reducible refine HoldsA.drew ?_ | with_reducible refine HoldsA.drewN ?_ _ | (with_reducible refine HoldsA.far ?_ _ _ (by first | (simp; done) | (simp; omega) | omega)))) hgb (by omega)) _
    have hqwb : HoldsA (w2.alloc (.cells #[.int .i64 b0, .int .i64 b1, .int .i64 b2, .int .i64 b3, .int .i64 b4, .int .i64 b5] 27)) 27 (w.heap.size + 1) 0 0 0 0 0 0 := HoldsA.alloc (HoldsA.grownM (by repeat (first | with_reducible assumption | (with_reducible refine HoldsA.made' ?_; (simp; done)) | with_reducible refine HoldsA.alloc ?_ _ | with_reducible refine HoldsA.drew ?_ | with_reducible refine HoldsA.drewN ?_ _ | (with_reducible refine HoldsA.far ?_ _ _ (by first | (simp; done) | (simp; omega) | omega)))) hgb (by omega)) _
    have hawb : HoldsA (w2.alloc (.cells #[.int .i64 b0, .int .i64 b1, .int .i64 b2, .int .i64 b3, .int .i64 b4, .int .i64 b5] 27)) 27 (ga) a0 a1 a2 a3 a4 a5 := HoldsA.alloc (HoldsA.grownM (by repeat (first | with_reducible assumption | (with_reducible refine HoldsA.made' ?_; (simp; done)) | with_reducible refine HoldsA.alloc ?_ _ | with_reducible refine HoldsA.drew ?_ | with_reducible refine HoldsA.drewN ?_ _ | (with_reducible refine HoldsA.far ?_ _ _ (by first | (simp; done) | (simp; omega) | omega)))) hgb (by omega)) _
    have hbwb : HoldsA (w2.alloc (.cells #[.int .i64 b0, .int .i64 b1, .int .i64 b2, .int .i64 b3, .int .i64 b4, .int .i64 b5] 27)) 27 (w2.heap.size) b0 b1 b2 b3 b4 b5 := HoldsA.made _ _ _ _ _ _ _ _
    have hlwb : w.heap.size ≤ w2.heap.size := by have := hcub.lt; omega
    have hcuwb := hcub.alloc (.cells #[.int .i64 b0, .int .i64 b1, .int .i64 b2, .int .i64 b3, .int .i64 b4, .int .i64 b5] 27)
    have hBwab : Below w.heap.size w w2 := below_grown hBwa hgb (by omega)
    have hgal : ga < w2.heap.size := by have := hgb.size; omega
    have hBwb : Below w.heap.size w (w2.alloc (.cells #[.int .i64 b0, .int .i64 b1, .int .i64 b2, .int .i64 b3, .int .i64 b4, .int .i64 b5] 27)) := (by repeat (first | with_reducible exact Below.refl _ _ | with_reducible assumption | with_reducible refine Below.drew ?_ | with_reducible refine below_drewN ?_ _ | with_reducible refine Below.alloc ?_ ?_ _ | with_reducible refine Below.setCell ?_ ?_ _ | with_reducible refine below_grown ?_ (by with_reducible assumption) ?_ | omega | (simp <;> omega)))
    have hswb : (w2.alloc (.cells #[.int .i64 b0, .int .i64 b1, .int .i64 b2, .int .i64 b3, .int .i64 b4, .int .i64 b5] 27)).heap.size = w2.heap.size + 1 := by simp
    have hzwb : w.heap.size + 1 + 1 < w2.heap.size := by have := hcub.lt; omega
    clear hcub hgb
    generalize hEwb : (w2.alloc (.cells #[.int .i64 b0, .int .i64 b1, .int .i64 b2, .int .i64 b3, .int .i64 b4, .int .i64 b5] 27)) = wb at *
    generalize hGwb : w2.heap.size = gb at *
    clear hEwb hGwb
    clear hrwa hqwa hawa hBwa hcuwa hBwab hlwa hswa
    have hl2 := hrwb.lt
    have hl3 := hqwb.lt
    have hl4 := hawb.lt
    have hl5 := hbwb.lt
    by_cases ha : Ok6 a0 a1 a2 a3 a4 a5
    · obtain ⟨X, hX, rfl, rfl, rfl, rfl, rfl, rfl⟩ := set_of_rows a0 a1 a2 a3 a4 a5 ha.1 ha.2.1 ha.2.2.1 ha.2.2.2.1 ha.2.2.2.2.1 ha.2.2.2.2.2
      clear ha
      have x0 := hawb.c0
      have x1 := hawb.c1
      have x2 := hawb.c2
      have x3 := hawb.c3
      have x4 := hawb.c4
      have x5 := hawb.c5
      have xf := hawb.free
      by_cases hb : Ok6 b0 b1 b2 b3 b4 b5
      · obtain ⟨Y, hY, rfl, rfl, rfl, rfl, rfl, rfl⟩ := set_of_rows b0 b1 b2 b3 b4 b5 hb.1 hb.2.1 hb.2.2.1 hb.2.2.2.1 hb.2.2.2.2.1 hb.2.2.2.2.2
        clear hb
        go_upto_if 24 with (first | (go_at_call 46; (with_reducible refine (l2Sheet_ok X _).mono ?_); rintro e w3 ⟨rfl, hw3⟩; have hrw3 := hrwb.below hw3 (by omega); have hqw3 := hqwb.below hw3 (by omega); have haw3 := hawb.below hw3 (by omega); have hbw3 := hbwb.below hw3 (by omega); have hBw3 := hBwb.trans (hw3.mono (by omega)); have hzw3 := hw3.size; have hcuw3 := hcuwb.below' hw3 (Nat.le_refl _); have x30 := haw3.c0; have x31 := haw3.c1; have x32 := haw3.c2; have x33 := haw3.c3; have x34 := haw3.c4; have x35 := haw3.c5; have x3f := haw3.free; have y30 := hbw3.c0; have y31 := hbw3.c1; have y32 := hbw3.c2; have y33 := hbw3.c3; have y34 := hbw3.c4; have y35 := hbw3.c5; have y3f := hbw3.free) | (go_at_call 46; (with_reducible refine (l2Sheet_ok Y _).mono ?_); rintro e w4 ⟨rfl, hw4⟩; have hrw4 := hrw3.below hw4 (by omega); have hqw4 := hqw3.below hw4 (by omega); have haw4 := haw3.below hw4 (by omega); have hbw4 := hbw3.below hw4 (by omega); have hBw4 := hBw3.trans (hw4.mono (by omega)); have hzw4 := hw4.size; have hcuw4 := hcuw3.below' hw4 (Nat.le_refl _); have x40 := haw4.c0; have x41 := haw4.c1; have x42 := haw4.c2; have x43 := haw4.c3; have x44 := haw4.c4; have x45 := haw4.c5; have x4f := haw4.free; have y40 := hbw4.c0; have y41 := hbw4.c1; have y42 := hbw4.c2; have y43 := hbw4.c3; have y44 := hbw4.c4; have y45 := hbw4.c5; have y4f := hbw4.free) | (go_at_call 93; (with_reducible refine (one_c (n := 0 + 70 + 50) (cv := (.slice (some ⟨cb, co, none⟩) len cap)) (len := len) hcuw4 3 (by constructor <;> omega) (by omega) hlen).mono ?_); rintro e w5 ⟨b, rfl, hcu5, hg5⟩; have hrw5 := HoldsA.grownM hrw4 hg5 (by omega); have hqw5 := HoldsA.grownM hqw4 hg5 (by omega); have haw5 := HoldsA.grownM haw4 hg5 (by omega); have hbw5 := HoldsA.grownM hbw4 hg5 (by omega); have hBw5 := below_grown hBw4 hg5 (by omega); have hz5 := hg5.size))
        cases b with
        | true =>
          go_upto_region 6 with fail
          clear x0 x1 x2 x3 x4 x5 xf x30 x31 x32 x33 x34 x35 x3f y30 y31 y32 y33 y34 y35 y3f x40 x41 x42 x43 x44 x45 x4f y40 y41 y42 y43 y44 y45 y4f
          have fy0 := hrw5.c0
          have fy1 := hrw5.c1
          have fy2 := hrw5.c2
          have fy3 := hrw5.c3
          have fy4 := hrw5.c4
          have fy5 := hrw5.c5
          have fyf := hrw5.free
          have fq0 := hqw5.c0
          have fq1 := hqw5.c1
          have fq2 := hqw5.c2
          have fq3 := hqw5.c3
          have fq4 := hqw5.c4
          have fq5 := hqw5.c5
          have fqf := hqw5.free
          have fx0 := haw5.c0
          have fx1 := haw5.c1
          have fx2 := haw5.c2
          have fx3 := haw5.c3
          have fx4 := haw5.c4
          have fx5 := haw5.c5
          have fxf := haw5.free
          have fz0 := hbw5.c0
          have fz1 := hbw5.c1
          have fz2 := hbw5.c2
          have fz3 := hbw5.c3
          have fz4 := hbw5.c4
          have fz5 := hbw5.c5
          have fzf := hbw5.free
          go_cut [] from 28 to 29 (fun wx => HoldsA wx 27 (w.heap.size) (row X 0) (row X 1) (row X 2) (row X 3) (row X 4) (row X 5) ∧ HoldsA wx 27 (w.heap.size + 1) (row Y 0) (row Y 1) (row Y 2) (row Y 3) (row Y 4) (row Y 5) ∧ Below w.heap.size w wx)
          case first =>
            obtain ⟨hn1, hn2, hn3, hn4, hn5, hn6, hn7, hn8⟩ : (¬ ga = w.heap.size) ∧ (¬ ga = w.heap.size + 1) ∧ (¬ gb = w.heap.size) ∧ (¬ gb = w.heap.size + 1) ∧ (¬ w.heap.size = ga) ∧ (¬ w.heap.size + 1 = ga) ∧ (¬ w.heap.size = gb) ∧ (¬ w.heap.size + 1 = gb) := ⟨by omega, by omega, by omega, by omega, by omega, by omega, by omega, by omega⟩
            go_region_held3 (fun w' => w'.cell? ⟨ga, 0, none⟩ = some (.int .i64 (row X 0)) ∧ w'.cell? ⟨ga, 1, none⟩ = some (.int .i64 (row X 1)) ∧ w'.cell? ⟨ga, 2, none⟩ = some (.int .i64 (row X 2)) ∧ w'.cell? ⟨ga, 3, none⟩ = some (.int .i64 (row X 3)) ∧ w'.cell? ⟨ga, 4, none⟩ = some (.int .i64 (row X 4)) ∧ w'.cell? ⟨ga, 5, none⟩ = some (.int .i64 (row X 5)) ∧ w'.cell? ⟨gb, 0, none⟩ = some (.int .i64 (row Y 0)) ∧ w'.cell? ⟨gb, 1, none⟩ = some (.int .i64 (row Y 1)) ∧ w'.cell? ⟨gb, 2, none⟩ = some (.int .i64 (row Y 2)) ∧ w'.cell? ⟨gb, 3, none⟩ = some (.int .i64 (row Y 3)) ∧ w'.cell? ⟨gb, 4, none⟩ = some (.int .i64 (row Y 4)) ∧ w'.cell? ⟨gb, 5, none⟩ = some (.int .i64 (row Y 5))) (simp [*, World.cell?_alloc_some, World.cell?_setCell_far, Nat.ne_of_gt]) (fail)
            all_goals
              clear hn1 hn2 hn3 hn4 hn5 hn6 hn7 hn8
              go_wp2_with fail
              go_meet
              refine ⟨?_, ?_, ?_⟩
              · (repeat (first | with_reducible refine HoldsA.drew ?_ | with_reducible refine HoldsA.drewN ?_ _)); exact (hrw5.store _ _ _ _ _ _).far6 (show w.heap.size ≠ w.heap.size + 1 by omega) _ _ _ _ _ _
              · (repeat (first | with_reducible refine HoldsA.drew ?_ | with_reducible refine HoldsA.drewN ?_ _)); exact (hqw5.far6 (show w.heap.size + 1 ≠ w.heap.size by omega) _ _ _ _ _ _).store _ _ _ _ _ _
              · exact (by repeat (first | with_reducible exact Below.refl _ _ | with_reducible assumption | with_reducible refine Below.drew ?_ | with_reducible refine below_drewN ?_ _ | with_reducible refine Below.alloc ?_ ?_ _ | with_reducible refine Below.setCell ?_ ?_ _ | with_reducible refine below_grown ?_ (by with_reducible assumption) ?_ | omega | (simp <;> omega)))
          case rest =>
            obtain ⟨hrx, hqx, hBx⟩ := hcut
            have gy0 := hrx.c0
            have gy1 := hrx.c1
            have gy2 := hrx.c2
            have gy3 := hrx.c3
            have gy4 := hrx.c4
            have gy5 := hrx.c5
            have gyf := hrx.free
            have gz0 := hqx.c0
            have gz1 := hqx.c1
            have gz2 := hqx.c2
            have gz3 := hqx.c3
            have gz4 := hqx.c4
            have gz5 := hqx.c5
            have gzf := hqx.free
            go_wp2_with fail
            exact bodyPost_ret (v := .tuple #[.agg #[.int .i64 (row X 0), .int .i64 (row X 1), .int .i64 (row X 2), .int .i64 (row X 3), .int .i64 (row X 4), .int .i64 (row X 5)], .agg #[.int .i64 (row Y 0), .int .i64 (row Y 1), .int .i64 (row Y 2), .int .i64 (row Y 3), .int .i64 (row Y 4), .int .i64 (row Y 5)]]) (by simp [results, Tryd.results73, go_sem, *]) rfl ⟨_, _, _, _, _, _, _, _, _, _, _, _, rfl, hBx⟩
        | false =>
          have x50 := haw5.c0
          have x51 := haw5.c1
          have x52 := haw5.c2
          have x53 := haw5.c3
          have x54 := haw5.c4
          have x55 := haw5.c5
          have x5f := haw5.free
          have y50 := hbw5.c0
          have y51 := hbw5.c1
          have y52 := hbw5.c2
          have y53 := hbw5.c3
          have y54 := hbw5.c4
          have y55 := hbw5.c5
          have y5f := hbw5.free
          go_upto_region 6 with (go_at_call 53; (with_reducible refine (l4Print_any X Y _).mono ?_); rintro e w6 ⟨rfl, hb6⟩; have hrw6 := hrw5.below hb6 (by omega); have hqw6 := hqw5.below hb6 (by omega); have haw6 := haw5.below hb6 (by omega); have hbw6 := hbw5.below hb6 (by omega); have hBw6 := hBw5.trans (hb6.mono (by omega)); have hzw6 := hb6.size; have y60 := hbw6.c0; have y61 := hbw6.c1; have y62 := hbw6.c2; have y63 := hbw6.c3; have y64 := hbw6.c4; have y65 := hbw6.c5; have y6f := hbw6.free)
          have hrw7 := hrw6.far6 (D := gb) (by omega) (row (printS X Y) 0) (row (printS X Y) 1) (row (printS X Y) 2) (row (printS X Y) 3) (row (printS X Y) 4) (row (printS X Y) 5)
          have hqw7 := hqw6.far6 (D := gb) (by omega) (row (printS X Y) 0) (row (printS X Y) 1) (row (printS X Y) 2) (row (printS X Y) 3) (row (printS X Y) 4) (row (printS X Y) 5)
          have haw7 := haw6.far6 (D := gb) (by omega) (row (printS X Y) 0) (row (printS X Y) 1) (row (printS X Y) 2) (row (printS X Y) 3) (row (printS X Y) 4) (row (printS X Y) 5)
          have hbw7 := hbw6.store (row (printS X Y) 0) (row (printS X Y) 1) (row (printS X Y) 2) (row (printS X Y) 3) (row (printS X Y) 4) (row (printS X Y) 5)
          have hBw7 : Below w.heap.size w ((((((w6.setCell ⟨gb, 0, none⟩ (.int .i64 (row (printS X Y) 0))).setCell ⟨gb, 1, none⟩ (.int .i64 (row (printS X Y) 1))).setCell ⟨gb, 2, none⟩ (.int .i64 (row (printS X Y) 2))).setCell ⟨gb, 3, none⟩ (.int .i64 (row (printS X Y) 3))).setCell ⟨gb, 4, none⟩ (.int .i64 (row (printS X Y) 4))).setCell ⟨gb, 5, none⟩ (.int .i64 (row (printS X Y) 5))) := (by repeat (first | with_reducible exact Below.refl _ _ | with_reducible assumption | with_reducible refine Below.drew ?_ | with_reducible refine below_drewN ?_ _ | with_reducible refine Below.alloc ?_ ?_ _ | with_reducible refine Below.setCell ?_ ?_ _ | with_reducible refine below_grown ?_ (by with_reducible assumption) ?_ | omega | (simp <;> omega)))
          generalize ((((((w6.setCell ⟨gb, 0, none⟩ (.int .i64 (row (printS X Y) 0))).setCell ⟨gb, 1, none⟩ (.int .i64 (row (printS X Y) 1))).setCell ⟨gb, 2, none⟩ (.int .i64 (row (printS X Y) 2))).setCell ⟨gb, 3, none⟩ (.int .i64 (row (printS X Y) 3))).setCell ⟨gb, 4, none⟩ (.int .i64 (row (printS X Y) 4))).setCell ⟨gb, 5, none⟩ (.int .i64 (row (printS X Y) 5))) = w7 at *
          clear x50 x51 x52 x53 x54 x55 x5f y50 y51 y52 y53 y54 y55 y5f y60 y61 y62 y63 y64 y65 y6f
          clear x0 x1 x2 x3 x4 x5 xf x30 x31 x32 x33 x34 x35 x3f y30 y31 y32 y33 y34 y35 y3f x40 x41 x42 x43 x44 x45 x4f y40 y41 y42 y43 y44 y45 y4f
          have fy0 := hrw7.c0
          have fy1 := hrw7.c1
          have fy2 := hrw7.c2
          have fy3 := hrw7.c3
          have fy4 := hrw7.c4
          have fy5 := hrw7.c5
          have fyf := hrw7.free
          have fq0 := hqw7.c0
          have fq1 := hqw7.c1
          have fq2 := hqw7.c2
          have fq3 := hqw7.c3
          have fq4 := hqw7.c4
          have fq5 := hqw7.c5
          have fqf := hqw7.free
          have fx0 := haw7.c0
          have fx1 := haw7.c1
          have fx2 := haw7.c2
          have fx3 := haw7.c3
          have fx4 := haw7.c4
          have fx5 := haw7.c5
          have fxf := haw7.free
          have fz0 := hbw7.c0
          have fz1 := hbw7.c1
          have fz2 := hbw7.c2
          have fz3 := hbw7.c3
          have fz4 := hbw7.c4
          have fz5 := hbw7.c5
          have fzf := hbw7.free
          go_cut [] from 28 to 29 (fun wx => HoldsA wx 27 (w.heap.size) (row X 0) (row X 1) (row X 2) (row X 3) (row X 4) (row X 5) ∧ HoldsA wx 27 (w.heap.size + 1) (row (printS X Y) 0) (row (printS X Y) 1) (row (printS X Y) 2) (row (printS X Y) 3) (row (printS X Y) 4) (row (printS X Y) 5) ∧ Below w.heap.size w wx)
          case first =>
            obtain ⟨hn1, hn2, hn3, hn4, hn5, hn6, hn7, hn8⟩ : (¬ ga = w.heap.size) ∧ (¬ ga = w.heap.size + 1) ∧ (¬ gb = w.heap.size) ∧ (¬ gb = w.heap.size + 1) ∧ (¬ w.heap.size = ga) ∧ (¬ w.heap.size + 1 = ga) ∧ (¬ w.heap.size = gb) ∧ (¬ w.heap.size + 1 = gb) := ⟨by omega, by omega, by omega, by omega, by omega, by omega, by omega, by omega⟩
            go_region_held3 (fun w' => w'.cell? ⟨ga, 0, none⟩ = some (.int .i64 (row X 0)) ∧ w'.cell? ⟨ga, 1, none⟩ = some (.int .i64 (row X 1)) ∧ w'.cell? ⟨ga, 2, none⟩ = some (.int .i64 (row X 2)) ∧ w'.cell? ⟨ga, 3, none⟩ = some (.int .i64 (row X 3)) ∧ w'.cell? ⟨ga, 4, none⟩ = some (.int .i64 (row X 4)) ∧ w'.cell? ⟨ga, 5, none⟩ = some (.int .i64 (row X 5)) ∧ w'.cell? ⟨gb, 0, none⟩ = some (.int .i64 (row (printS X Y) 0)) ∧ w'.cell? ⟨gb, 1, none⟩ = some (.int .i64 (row (printS X Y) 1)) ∧ w'.cell? ⟨gb, 2, none⟩ = some (.int .i64 (row (printS X Y) 2)) ∧ w'.cell? ⟨gb, 3, none⟩ = some (.int .i64 (row (printS X Y) 3)) ∧ w'.cell? ⟨gb, 4, none⟩ = some (.int .i64 (row (printS X Y) 4)) ∧ w'.cell? ⟨gb, 5, none⟩ = some (.int .i64 (row (printS X Y) 5))) (simp [*, World.cell?_alloc_some, World.cell?_setCell_far, Nat.ne_of_gt]) (fail)
            all_goals
              clear hn1 hn2 hn3 hn4 hn5 hn6 hn7 hn8
              go_wp2_with fail
              go_meet
              refine ⟨?_, ?_, ?_⟩
              · (repeat (first | with_reducible refine HoldsA.drew ?_ | with_reducible refine HoldsA.drewN ?_ _)); exact (hrw7.store _ _ _ _ _ _).far6 (show w.heap.size ≠ w.heap.size + 1 by omega) _ _ _ _ _ _
              · (repeat (first | with_reducible refine HoldsA.drew ?_ | with_reducible refine HoldsA.drewN ?_ _)); exact (hqw7.far6 (show w.heap.size + 1 ≠ w.heap.size by omega) _ _ _ _ _ _).store _ _ _ _ _ _
              · exact (by repeat (first | with_reducible exact Below.refl _ _ | with_reducible assumption | with_reducible refine Below.drew ?_ | with_reducible refine below_drewN ?_ _ | with_reducible refine Below.alloc ?_ ?_ _ | with_reducible refine Below.setCell ?_ ?_ _ | with_reducible refine below_grown ?_ (by with_reducible assumption) ?_ | omega | (simp <;> omega)))
          case rest =>
            obtain ⟨hrx, hqx, hBx⟩ := hcut
            have gy0 := hrx.c0
            have gy1 := hrx.c1
            have gy2 := hrx.c2
            have gy3 := hrx.c3
            have gy4 := hrx.c4
            have gy5 := hrx.c5
            have gyf := hrx.free
            have gz0 := hqx.c0
            have gz1 := hqx.c1
            have gz2 := hqx.c2
            have gz3 := hqx.c3
            have gz4 := hqx.c4
            have gz5 := hqx.c5
            have gzf := hqx.free
            go_wp2_with fail
            exact bodyPost_ret (v := .tuple #[.agg #[.int .i64 (row X 0), .int .i64 (row X 1), .int .i64 (row X 2), .int .i64 (row X 3), .int .i64 (row X 4), .int .i64 (row X 5)], .agg #[.int .i64 (row (printS X Y) 0), .int .i64 (row (printS X Y) 1), .int .i64 (row (printS X Y) 2), .int .i64 (row (printS X Y) 3), .int .i64 (row (printS X Y) 4), .int .i64 (row (printS X Y) 5)]]) (by simp [results, Tryd.results73, go_sem, *]) rfl ⟨_, _, _, _, _, _, _, _, _, _, _, _, rfl, hBx⟩
      · go_upto_if 24 with (first | (go_at_call 46; (with_reducible refine (l2Sheet_ok X _).mono ?_); rintro e w3 ⟨rfl, hw3⟩; have hrw3 := hrwb.below hw3 (by omega); have hqw3 := hqwb.below hw3 (by omega); have haw3 := hawb.below hw3 (by omega); have hbw3 := hbwb.below hw3 (by omega); have hBw3 := hBwb.trans (hw3.mono (by omega)); have hzw3 := hw3.size; have hcuw3 := hcuwb.below' hw3 (Nat.le_refl _); have x30 := haw3.c0; have x31 := haw3.c1; have x32 := haw3.c2; have x33 := haw3.c3; have x34 := haw3.c4; have x35 := haw3.c5; have x3f := haw3.free; have y30 := hbw3.c0; have y31 := hbw3.c1; have y32 := hbw3.c2; have y33 := hbw3.c3; have y34 := hbw3.c4; have y35 := hbw3.c5; have y3f := hbw3.free) | (go_at_call 46; (with_reducible refine (l2Sheet_no _ _ _ _ _ _ (by assumption) _).mono ?_); rintro e w4 ⟨rfl, hw4⟩; have hrw4 := hrw3.below hw4 (by omega); have hqw4 := hqw3.below hw4 (by omega); have haw4 := haw3.below hw4 (by omega); have hbw4 := hbw3.below hw4 (by omega); have hBw4 := hBw3.trans (hw4.mono (by omega)); have hzw4 := hw4.size; have hcuw4 := hcuw3.below' hw4 (Nat.le_refl _); have x40 := haw4.c0; have x41 := haw4.c1; have x42 := haw4.c2; have x43 := haw4.c3; have x44 := haw4.c4; have x45 := haw4.c5; have x4f := haw4.free; have y40 := hbw4.c0; have y41 := hbw4.c1; have y42 := hbw4.c2; have y43 := hbw4.c3; have y44 := hbw4.c4; have y45 := hbw4.c5; have y4f := hbw4.free))
        go_upto_region 6 with fail
        clear x0 x1 x2 x3 x4 x5 xf x30 x31 x32 x33 x34 x35 x3f y30 y31 y32 y33 y34 y35 y3f x40 x41 x42 x43 x44 x45 x4f y40 y41 y42 y43 y44 y45 y4f
        have fy0 := hrw4.c0
        have fy1 := hrw4.c1
        have fy2 := hrw4.c2
        have fy3 := hrw4.c3
        have fy4 := hrw4.c4
        have fy5 := hrw4.c5
        have fyf := hrw4.free
        have fq0 := hqw4.c0
        have fq1 := hqw4.c1
        have fq2 := hqw4.c2
        have fq3 := hqw4.c3
        have fq4 := hqw4.c4
        have fq5 := hqw4.c5
        have fqf := hqw4.free
        have fx0 := haw4.c0
        have fx1 := haw4.c1
        have fx2 := haw4.c2
        have fx3 := haw4.c3
        have fx4 := haw4.c4
        have fx5 := haw4.c5
        have fxf := haw4.free
        have fz0 := hbw4.c0
        have fz1 := hbw4.c1
        have fz2 := hbw4.c2
        have fz3 := hbw4.c3
        have fz4 := hbw4.c4
        have fz5 := hbw4.c5
        have fzf := hbw4.free
        go_cut [] from 28 to 29 (fun wx => HoldsA wx 27 (w.heap.size) (row X 0) (row X 1) (row X 2) (row X 3) (row X 4) (row X 5) ∧ HoldsA wx 27 (w.heap.size + 1) (b0) (b1) (b2) (b3) (b4) (b5) ∧ Below w.heap.size w wx)
        case first =>
          obtain ⟨hn1, hn2, hn3, hn4, hn5, hn6, hn7, hn8⟩ : (¬ ga = w.heap.size) ∧ (¬ ga = w.heap.size + 1) ∧ (¬ gb = w.heap.size) ∧ (¬ gb = w.heap.size + 1) ∧ (¬ w.heap.size = ga) ∧ (¬ w.heap.size + 1 = ga) ∧ (¬ w.heap.size = gb) ∧ (¬ w.heap.size + 1 = gb) := ⟨by omega, by omega, by omega, by omega, by omega, by omega, by omega, by omega⟩
          go_region_held3 (fun w' => w'.cell? ⟨ga, 0, none⟩ = some (.int .i64 (row X 0)) ∧ w'.cell? ⟨ga, 1, none⟩ = some (.int .i64 (row X 1)) ∧ w'.cell? ⟨ga, 2, none⟩ = some (.int .i64 (row X 2)) ∧ w'.cell? ⟨ga, 3, none⟩ = some (.int .i64 (row X 3)) ∧ w'.cell? ⟨ga, 4, none⟩ = some (.int .i64 (row X 4)) ∧ w'.cell? ⟨ga, 5, none⟩ = some (.int .i64 (row X 5)) ∧ w'.cell? ⟨gb, 0, none⟩ = some (.int .i64 (b0)) ∧ w'.cell? ⟨gb, 1, none⟩ = some (.int .i64 (b1)) ∧ w'.cell? ⟨gb, 2, none⟩ = some (.int .i64 (b2)) ∧ w'.cell? ⟨gb, 3, none⟩ = some (.int .i64 (b3)) ∧ w'.cell? ⟨gb, 4, none⟩ = some (.int .i64 (b4)) ∧ w'.cell? ⟨gb, 5, none⟩ = some (.int .i64 (b5))) (simp [*, World.cell?_alloc_some, World.cell?_setCell_far, Nat.ne_of_gt]) (fail)
          all_goals
            clear hn1 hn2 hn3 hn4 hn5 hn6 hn7 hn8
            go_wp2_with fail
            go_meet
            refine ⟨?_, ?_, ?_⟩
            · (repeat (first | with_reducible refine HoldsA.drew ?_ | with_reducible refine HoldsA.drewN ?_ _)); exact (hrw4.store _ _ _ _ _ _).far6 (show w.heap.size ≠ w.heap.size + 1 by omega) _ _ _ _ _ _
            · (repeat (first | with_reducible refine HoldsA.drew ?_ | with_reducible refine HoldsA.drewN ?_ _)); exact (hqw4.far6 (show w.heap.size + 1 ≠ w.heap.size by omega) _ _ _ _ _ _).store _ _ _ _ _ _
            · exact (by repeat (first | with_reducible exact Below.refl _ _ | with_reducible assumption | with_reducible refine Below.drew ?_ | with_reducible refine below_drewN ?_ _ | with_reducible refine Below.alloc ?_ ?_ _ | with_reducible refine Below.setCell ?_ ?_ _ | with_reducible refine below_grown ?_ (by with_reducible assumption) ?_ | omega | (simp <;> omega)))
        case rest =>
          obtain ⟨hrx, hqx, hBx⟩ := hcut
          have gy0 := hrx.c0
          have gy1 := hrx.c1
          have gy2 := hrx.c2
          have gy3 := hrx.c3
          have gy4 := hrx.c4
          have gy5 := hrx.c5
          have gyf := hrx.free
          have gz0 := hqx.c0
          have gz1 := hqx.c1
          have gz2 := hqx.c2
          have gz3 := hqx.c3
          have gz4 := hqx.c4
          have gz5 := hqx.c5
          have gzf := hqx.free
          go_wp2_with fail
          exact bodyPost_ret (v := .tuple #[.agg #[.int .i64 (row X 0), .int .i64 (row X 1), .int .i64 (row X 2), .int .i64 (row X 3), .int .i64 (row X 4), .int .i64 (row X 5)], .agg #[.int .i64 (b0), .int .i64 (b1), .int .i64 (b2), .int .i64 (b3), .int .i64 (b4), .int .i64 (b5)]]) (by simp [results, Tryd.results73, go_sem, *]) rfl ⟨_, _, _, _, _, _, _, _, _, _, _, _, rfl, hBx⟩
    · have hnoa := ha
      clear ha
      have x0 := hawb.c0
      have x1 := hawb.c1
      have x2 := hawb.c2
      have x3 := hawb.c3
      have x4 := hawb.c4
      have x5 := hawb.c5
      have xf := hawb.free
      go_upto_if 24 with (first | (go_at_call 46; (with_reducible refine (l2Sheet_no _ _ _ _ _ _ (by assumption) _).mono ?_); rintro e w3 ⟨rfl, hw3⟩; have hrw3 := hrwb.below hw3 (by omega); have hqw3 := hqwb.below hw3 (by omega); have haw3 := hawb.below hw3 (by omega); have hbw3 := hbwb.below hw3 (by omega); have hBw3 := hBwb.trans (hw3.mono (by omega)); have hzw3 := hw3.size; have hcuw3 := hcuwb.below' hw3 (Nat.le_refl _); have x30 := haw3.c0; have x31 := haw3.c1; have x32 := haw3.c2; have x33 := haw3.c3; have x34 := haw3.c4; have x35 := haw3.c5; have x3f := haw3.free; have y30 := hbw3.c0; have y31 := hbw3.c1; have y32 := hbw3.c2; have y33 := hbw3.c3; have y34 := hbw3.c4; have y35 := hbw3.c5; have y3f := hbw3.free))
      go_upto_region 6 with fail
      clear x0 x1 x2 x3 x4 x5 xf x30 x31 x32 x33 x34 x35 x3f y30 y31 y32 y33 y34 y35 y3f
      have fy0 := hrw3.c0
      have fy1 := hrw3.c1
      have fy2 := hrw3.c2
      have fy3 := hrw3.c3
      have fy4 := hrw3.c4
      have fy5 := hrw3.c5
      have fyf := hrw3.free
      have fq0 := hqw3.c0
      have fq1 := hqw3.c1
      have fq2 := hqw3.c2
      have fq3 := hqw3.c3
      have fq4 := hqw3.c4
      have fq5 := hqw3.c5
      have fqf := hqw3.free
      have fx0 := haw3.c0
      have fx1 := haw3.c1
      have fx2 := haw3.c2
      have fx3 := haw3.c3
      have fx4 := haw3.c4
      have fx5 := haw3.c5
      have fxf := haw3.free
      have fz0 := hbw3.c0
      have fz1 := hbw3.c1
      have fz2 := hbw3.c2
      have fz3 := hbw3.c3
      have fz4 := hbw3.c4
      have fz5 := hbw3.c5
      have fzf := hbw3.free
      go_cut [] from 28 to 29 (fun wx => HoldsA wx 27 (w.heap.size) (a0) (a1) (a2) (a3) (a4) (a5) ∧ HoldsA wx 27 (w.heap.size + 1) (b0) (b1) (b2) (b3) (b4) (b5) ∧ Below w.heap.size w wx)
      case first =>
        obtain ⟨hn1, hn2, hn3, hn4, hn5, hn6, hn7, hn8⟩ : (¬ ga = w.heap.size) ∧ (¬ ga = w.heap.size + 1) ∧ (¬ gb = w.heap.size) ∧ (¬ gb = w.heap.size + 1) ∧ (¬ w.heap.size = ga) ∧ (¬ w.heap.size + 1 = ga) ∧ (¬ w.heap.size = gb) ∧ (¬ w.heap.size + 1 = gb) := ⟨by omega, by omega, by omega, by omega, by omega, by omega, by omega, by omega⟩
        go_region_held3 (fun w' => w'.cell? ⟨ga, 0, none⟩ = some (.int .i64 (a0)) ∧ w'.cell? ⟨ga, 1, none⟩ = some (.int .i64 (a1)) ∧ w'.cell? ⟨ga, 2, none⟩ = some (.int .i64 (a2)) ∧ w'.cell? ⟨ga, 3, none⟩ = some (.int .i64 (a3)) ∧ w'.cell? ⟨ga, 4, none⟩ = some (.int .i64 (a4)) ∧ w'.cell? ⟨ga, 5, none⟩ = some (.int .i64 (a5)) ∧ w'.cell? ⟨gb, 0, none⟩ = some (.int .i64 (b0)) ∧ w'.cell? ⟨gb, 1, none⟩ = some (.int .i64 (b1)) ∧ w'.cell? ⟨gb, 2, none⟩ = some (.int .i64 (b2)) ∧ w'.cell? ⟨gb, 3, none⟩ = some (.int .i64 (b3)) ∧ w'.cell? ⟨gb, 4, none⟩ = some (.int .i64 (b4)) ∧ w'.cell? ⟨gb, 5, none⟩ = some (.int .i64 (b5))) (simp [*, World.cell?_alloc_some, World.cell?_setCell_far, Nat.ne_of_gt]) (fail)
        all_goals
          clear hn1 hn2 hn3 hn4 hn5 hn6 hn7 hn8
          go_wp2_with fail
          go_meet
          refine ⟨?_, ?_, ?_⟩
          · (repeat (first | with_reducible refine HoldsA.drew ?_ | with_reducible refine HoldsA.drewN ?_ _)); exact (hrw3.store _ _ _ _ _ _).far6 (show w.heap.size ≠ w.heap.size + 1 by omega) _ _ _ _ _ _
          · (repeat (first | with_reducible refine HoldsA.drew ?_ | with_reducible refine HoldsA.drewN ?_ _)); exact (hqw3.far6 (show w.heap.size + 1 ≠ w.heap.size by omega) _ _ _ _ _ _).store _ _ _ _ _ _
          · exact (by repeat (first | with_reducible exact Below.refl _ _ | with_reducible assumption | with_reducible refine Below.drew ?_ | with_reducible refine below_drewN ?_ _ | with_reducible refine Below.alloc ?_ ?_ _ | with_reducible refine Below.setCell ?_ ?_ _ | with_reducible refine below_grown ?_ (by with_reducible assumption) ?_ | omega | (simp <;> omega)))
      case rest =>
        obtain ⟨hrx, hqx, hBx⟩ := hcut
        have gy0 := hrx.c0
        have gy1 := hrx.c1
        have gy2 := hrx.c2
        have gy3 := hrx.c3
        have gy4 := hrx.c4
        have gy5 := hrx.c5
        have gyf := hrx.free
        have gz0 := hqx.c0
        have gz1 := hqx.c1
        have gz2 := hqx.c2
        have gz3 := hqx.c3
        have gz4 := hqx.c4
        have gz5 := hqx.c5
        have gzf := hqx.free
        go_wp2_with fail
        exact bodyPost_ret (v := .tuple #[.agg #[.int .i64 (a0), .int .i64 (a1), .int .i64 (a2), .int .i64 (a3), .int .i64 (a4), .int .i64 (a5)], .agg #[.int .i64 (b0), .int .i64 (b1), .int .i64 (b2), .int .i64 (b3), .int .i64 (b4), .int .i64 (b5)]]) (by simp [results, Tryd.results73, go_sem, *]) rfl ⟨_, _, _, _, _, _, _, _, _, _, _, _, rfl, hBx⟩

set_option maxRecDepth 100000 in
set_option maxHeartbeats 1600000 in
theorem DrawLeastPresses_any (cv : Value) (len : Nat) (hlen : len ≤ 1000000) (w : World) (hcode : CodeB w w.heap.size cv len) : Calls Tryd.prog 39 #[cv] w (Two6 w) := by
  go_enter Tryd.func39, Tryd.ntmps39
  go_wp2_with (go_at_call 73; (with_reducible refine (DrawCanToggle_any cv len hlen _ (hcode.moved (by repeat (first | with_reducible exact Below.refl _ _ | with_reducible assumption | with_reducible refine Below.drew ?_ | with_reducible refine below_drewN ?_ _ | with_reducible refine Below.alloc ?_ ?_ _ | with_reducible refine Below.setCell ?_ ?_ _ | with_reducible refine Below.trans ?_ (Below.mono (by assumption) ?_) | omega | (simp <;> omega))))).mono ?_); rintro e w1 ⟨a0, a1, a2, a3, a4, a5, b0, b1, b2, b3, b4, b5, rfl, hb⟩; have hR0 : HoldsA w1 27 w.heap.size 0 0 0 0 0 0 := HoldsA.below (by repeat (first | with_reducible assumption | (with_reducible refine HoldsA.made' ?_; (simp; done)) | with_reducible refine HoldsA.alloc ?_ _ | with_reducible refine HoldsA.drew ?_ | with_reducible refine HoldsA.drewN ?_ _ | (with_reducible refine HoldsA.far ?_ _ _ (by first | (simp; done) | (simp; omega) | omega)))) hb (by first | (simp; done) | (simp; omega) | omega); have hR1 : HoldsA w1 27 (w.heap.size + 1) 0 0 0 0 0 0 := HoldsA.below (by repeat (first | with_reducible assumption | (with_reducible refine HoldsA.made' ?_; (simp; done)) | with_reducible refine HoldsA.alloc ?_ _ | with_reducible refine HoldsA.drew ?_ | with_reducible refine HoldsA.drewN ?_ _ | (with_reducible refine HoldsA.far ?_ _ _ (by first | (simp; done) | (simp; omega) | omega)))) hb (by first | (simp; done) | (simp; omega) | omega); have p0 := hR0.c0; have p1 := hR0.c1; have p2 := hR0.c2; have p3 := hR0.c3; have p4 := hR0.c4; have p5 := hR0.c5; have pf := hR0.free; have q0 := hR1.c0; have q1 := hR1.c1; have q2 := hR1.c2; have q3 := hR1.c3; have q4 := hR1.c4; have q5 := hR1.c5; have qf := hR1.free; have hz := hb.size; simp only [World.size_alloc] at hz)
  exact bodyPost_ret (v := .tuple #[.agg #[.int .i64 a0, .int .i64 a1, .int .i64 a2, .int .i64 a3, .int .i64 a4, .int .i64 a5], .agg #[.int .i64 b0, .int .i64 b1, .int .i64 b2, .int .i64 b3, .int .i64 b4, .int .i64 b5]]) (by simp [results, Tryd.results39, go_sem, *]) rfl ⟨_, _, _, _, _, _, _, _, _, _, _, _, rfl, (by repeat (first | with_reducible exact Below.refl _ _ | with_reducible assumption | with_reducible refine Below.drew ?_ | with_reducible refine below_drewN ?_ _ | with_reducible refine Below.alloc ?_ ?_ _ | with_reducible refine Below.setCell ?_ ?_ _ | with_reducible refine Below.trans ?_ (Below.mono (by assumption) ?_) | omega | (simp <;> omega)))⟩
theorem rBig_any (cv : Value) (len : Nat) (w : World) (hcode : CodeB w w.heap.size cv len) : Calls Tryd.prog 38 #[cv] w fun e w' => e = .returned (.bool (decide ((65536 : Int) < (len : Int)))) ∧ w' = w := by
  rcases hcode with ⟨hE, hL⟩ | ⟨cb, co, cap, hE, _, _⟩
  all_goals
    subst hE
    go_enter Tryd.func38, Tryd.ntmps38
    go_wp2
    go_ret
    exact ⟨by simp [*], rfl⟩
end Go.Proofs.YtgjgefbcfcomcaaDoor
