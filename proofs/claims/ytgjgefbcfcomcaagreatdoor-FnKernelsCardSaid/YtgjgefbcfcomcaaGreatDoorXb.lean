/-
  The reference's draw of a stamp that often has a kernel: what it leaves. No conditions.
-/
import Derived.Test.YtgjgefbcfcomcaaGreatDoorJB
import Derived.Deep.CutRange
import Derived.Deep.RegionHeld3
namespace Go.Proofs.YtgjgefbcfcomcaaGreatDoor
open Go.RowKit
set_option linter.unusedSimpArgs false
set_option linter.unusedVariables false

theorem HoldsA.grownM {w w' : World} {T B C : Nat} {a0 a1 a2 a3 a4 a5 : Int} (h : HoldsA w T B a0 a1 a2 a3 a4 a5) (hg : w.grownBy w' (some C)) (hne : B ≠ C) : HoldsA w' T B a0 a1 a2 a3 a4 a5 :=
  (hg.block B h.lt (fun e => by injection e with e; exact hne e)).trans h
def KsL (w : World) (L : Nat) : Prop := ∀ j, j < 4 → ∃ z : Int, w.cell? ⟨L, j, none⟩ = some (.int .i64 z) ∧ z = z
theorem KsL.lt {w : World} {L : Nat} (h : KsL w L) : L < w.heap.size := by
  obtain ⟨z, hz, _⟩ := h 0 (by omega)
  exact World.block_lt_of_cell? w _ hz
theorem KsL.made {w : World} {L T : Nat} (h : L = w.heap.size) : KsL (w.alloc (.cells #[.int .i64 0, .int .i64 1, .int .i64 2, .int .i64 3] T)) L := by
  subst h
  intro j hj
  match j, hj with
  | 0, _ => exact ⟨0, by simp, rfl⟩
  | 1, _ => exact ⟨1, by simp, rfl⟩
  | 2, _ => exact ⟨2, by simp, rfl⟩
  | 3, _ => exact ⟨3, by simp, rfl⟩
theorem KsL.drew {w : World} {L : Nat} (h : KsL w L) : KsL w.drew L := h
theorem KsL.drewN {w : World} {L : Nat} (h : KsL w L) (n : Nat) : KsL (w.drewN n) L := h
theorem KsL.grown {w w' : World} {L C : Nat} (h : KsL w L) (hg : w.grownBy w' (some C)) (hne : L ≠ C) : KsL w' L := by
  have hl := h.lt
  intro j hj
  obtain ⟨z, hz, e⟩ := h j hj
  exact ⟨z, (World.cell?_of_block (hg.block L hl (fun e => by injection e with e; exact hne e))).trans hz, e⟩
theorem among_ks {C len n : Nat} {cv : Value} {L : Nat} {w : World} (hcur : Cur w C cv len n) (hn : n ≤ 1000000) (hlen : len ≤ 1000000) (hCL : C < L) (h : KsL w L) : Calls Tryz.prog 43 #[.pointer (some ⟨C, 0, none⟩), .slice (some ⟨L, 0, none⟩) 4 4] w (AmongEnd C cv len n (fun z => z = z) w) :=
  among_any C len n cv (fun z => z = z) L 4 4 (by omega) hn hlen w hcur hCL h
theorem am_ks (C len n : Nat) (cv : Value) (hn : n ≤ 1000000) (hlen : len ≤ 1000000) (W : World) (hcur : Cur W C cv len n) (L : Nat) (hL : L = W.heap.size) (T : Nat) :
    Calls Tryz.prog 43 #[.pointer (some ⟨C, 0, none⟩), .slice (some ⟨L, 0, none⟩) 4 4] (W.alloc (.cells #[.int .i64 0, .int .i64 1, .int .i64 2, .int .i64 3] T)) (AmongEnd C cv len n (fun z => z = z) (W.alloc (.cells #[.int .i64 0, .int .i64 1, .int .i64 2, .int .i64 3] T))) :=
  among_lit C len n cv _ [0, 1, 2, 3] (by decide) hn hlen W hcur (by decide) L hL _ rfl T 4 rfl
theorem am_c_ks {C len n : Nat} {cv : Value} {W : World} (hcur : Cur W C cv len n) (hn : n ≤ 1000000) (hlen : len ≤ 1000000) (L : Nat) (hL : L = W.heap.size) (T : Nat) :
    Calls Tryz.prog 43 #[.pointer (some ⟨C, 0, none⟩), .slice (some ⟨L, 0, none⟩) 4 4] (W.alloc (.cells #[.int .i64 0, .int .i64 1, .int .i64 2, .int .i64 3] T)) (AmongEnd C cv len n (fun z => z = z) (W.alloc (.cells #[.int .i64 0, .int .i64 1, .int .i64 2, .int .i64 3] T))) := am_ks C len n cv hn hlen W hcur L hL T

set_option maxRecDepth 100000 in
set_option maxHeartbeats 6400000 in
theorem kernelStamp_draw {C len n : Nat} {cv : Value} {w : World} (hcur : Cur w C cv len n) (hn : n ≤ 700000) (hlen : len ≤ 1000000) : Calls Tryz.prog 30 #[.pointer (some ⟨C, 0, none⟩)] w (SheetEnd C cv len (n + 70) w) := by
  have hCl := hcur.lt
  go_enter Tryz.func30, Tryz.ntmps30
  go_upto_region 2 with (go_at_call 57; (with_reducible refine (stamp_draw (by first | assumption | exact Cur.alloc (by assumption) _ | exact Cur.alloc (Cur.alloc (by assumption) _) _) (by omega) hlen).mono ?_); rintro e w1 ⟨a0, a1, a2, a3, a4, a5, rfl, hcu, hg⟩)
  have hR : HoldsA w1 26 w.heap.size 0 0 0 0 0 0 := HoldsA.grown (by repeat (first | with_reducible assumption | (with_reducible refine HoldsA.made' ?_; (simp; done)) | with_reducible refine HoldsA.alloc ?_ _ | with_reducible refine HoldsA.drew ?_ | with_reducible refine HoldsA.drewN ?_ _ | (with_reducible refine HoldsA.far ?_ _ _ (by first | (simp; done) | (simp; omega) | omega)))) hg hCl
  have hg1 : w.grownBy w1 (some C) := (by repeat (first | with_reducible assumption | with_reducible exact World.grownBy.refl _ _ | with_reducible refine Lib.grownBy_allocR ?_ _ | with_reducible refine grown_drew ?_ | with_reducible refine grown_drewN ?_ _ | with_reducible refine grown_new ?_ ?_ _ _ | with_reducible refine Lib.grownBy_trans ?_ (by with_reducible assumption) | with_reducible refine grown_below' ?_ (by with_reducible assumption) ?_ | omega | (simp <;> omega)))
  have hk1 := hR.lt
  have hC1 : C < w1.heap.size := by omega
  have j2 := hR.alloc (.cells #[.int .i64 a0, .int .i64 a1, .int .i64 a2, .int .i64 a3, .int .i64 a4, .int .i64 a5] 26)
  have j3 : HoldsA (w1.alloc (.cells #[.int .i64 a0, .int .i64 a1, .int .i64 a2, .int .i64 a3, .int .i64 a4, .int .i64 a5] 26)) 26 w1.heap.size a0 a1 a2 a3 a4 a5 := HoldsA.made _ _ _ _ _ _ _ _
  have hcu2 := hcu.alloc (.cells #[.int .i64 a0, .int .i64 a1, .int .i64 a2, .int .i64 a3, .int .i64 a4, .int .i64 a5] 26)
  have hg2 : w.grownBy (w1.alloc (.cells #[.int .i64 a0, .int .i64 a1, .int .i64 a2, .int .i64 a3, .int .i64 a4, .int .i64 a5] 26)) (some C) := Lib.grownBy_allocR hg1 _
  have hl2 := j2.lt
  have hl3 := j3.lt
  generalize w1.alloc (.cells #[.int .i64 a0, .int .i64 a1, .int .i64 a2, .int .i64 a3, .int .i64 a4, .int .i64 a5] 26) = wb at *
  generalize w1.heap.size = g3 at *
  clear hR hg hg1 hcu
  by_cases ha : Ok6 a0 a1 a2 a3 a4 a5
  · obtain ⟨X, hX, rfl, rfl, rfl, rfl, rfl, rfl⟩ := set_of_rows a0 a1 a2 a3 a4 a5 ha.1 ha.2.1 ha.2.2.1 ha.2.2.2.1 ha.2.2.2.2.1 ha.2.2.2.2.2
    clear ha
    have hx0 := j3.c0
    have hx1 := j3.c1
    have hx2 := j3.c2
    have hx3 := j3.c3
    have hx4 := j3.c4
    have hx5 := j3.c5
    have hxf := j3.free
    go_upto_if 13 with (first | (go_at_call 36; (with_reducible refine (l2Sheet_ok X _).mono ?_); rintro e w2 ⟨rfl, hb2⟩; have j2b := j2.below hb2 hl2; have j3b := j3.below hb2 hl3; have l2b := j2b.lt; have l3b := j3b.lt; have hcu3 := hcu2.below' hb2 (Nat.le_refl _); have hg3 := grown_below' hg2 hb2 hg2.size; have p0 := j2b.c0; have p1 := j2b.c1; have p2 := j2b.c2; have p3 := j2b.c3; have p4 := j2b.c4; have p5 := j2b.c5; have pf := j2b.free; have q0 := j3b.c0; have q1 := j3b.c1; have q2 := j3b.c2; have q3 := j3b.c3; have q4 := j3b.c4; have q5 := j3b.c5; have qf := j3b.free) | (go_at_call 45; (with_reducible refine (one_c hcu3 2 ⟨by omega, by omega⟩ (by omega) hlen).mono ?_); rintro e w3 ⟨b, rfl, hcu4, hg4⟩; have j2c := j2b.grown hg4 (by omega); have j3c := j3b.grown hg4 (by omega); have l2c := j2c.lt; have l3c := j3c.lt; have hg5 := Lib.grownBy_trans hg3 hg4; have r0 := j2c.c0; have r1 := j2c.c1; have r2 := j2c.c2; have r3 := j2c.c3; have r4 := j2c.c4; have r5 := j2c.c5; have rf := j2c.free; have s0 := j3c.c0; have s1 := j3c.c1; have s2 := j3c.c2; have s3 := j3c.c3; have s4 := j3c.c4; have s5 := j3c.c5; have sf := j3c.free))
    cases b with
    | false =>
      go_wp2
      exact bodyPost_ret (v := (.agg #[.int .i64 (row X 0), .int .i64 (row X 1), .int .i64 (row X 2), .int .i64 (row X 3), .int .i64 (row X 4), .int .i64 (row X 5)])) (by simp [results, Tryz.results30, go_sem, *]) rfl ⟨_, _, _, _, _, _, rfl, Cur.mono (n := n + 60 + 1) (by repeat (first | with_reducible assumption | with_reducible refine Cur.drew ?_ | with_reducible refine Cur.alloc ?_ _ | with_reducible refine Cur.new ?_ ?_ | with_reducible refine Cur.drewN ?_ _ | omega)) (by omega), (by repeat (first | with_reducible assumption | with_reducible exact World.grownBy.refl _ _ | with_reducible refine Lib.grownBy_allocR ?_ _ | with_reducible refine grown_drew ?_ | with_reducible refine grown_drewN ?_ _ | with_reducible refine grown_new ?_ ?_ _ _ | with_reducible refine Lib.grownBy_trans ?_ (by with_reducible assumption) | with_reducible refine grown_below' ?_ (by with_reducible assumption) ?_ | omega | (simp <;> omega)))⟩
    | true =>
      go_upto_region 4 with fail
      go_cut [] from 15 to 23 (fun wx => ∃ Z : Nat, HoldsA wx 26 w.heap.size (row Z 0) (row Z 1) (row Z 2) (row Z 3) (row Z 4) (row Z 5) ∧ Cur wx C cv len (n + 60 + 1 + 1 + 1) ∧ w.grownBy wx (some C))
      case first =>
        have hne1 : ¬ g3 = w.heap.size := by omega
        have hne2 : ¬ w.heap.size = g3 := by omega
        go_region_held3 (fun w' => w'.cell? ⟨g3, 0, none⟩ = some (.int .i64 (row X 0)) ∧ w'.cell? ⟨g3, 1, none⟩ = some (.int .i64 (row X 1)) ∧ w'.cell? ⟨g3, 2, none⟩ = some (.int .i64 (row X 2)) ∧ w'.cell? ⟨g3, 3, none⟩ = some (.int .i64 (row X 3)) ∧ w'.cell? ⟨g3, 4, none⟩ = some (.int .i64 (row X 4)) ∧ w'.cell? ⟨g3, 5, none⟩ = some (.int .i64 (row X 5))) (simp [*, World.cell?_alloc_some, World.cell?_setCell_far, Nat.ne_of_gt]) (first | (go_at_call 47; (try simp only [List.getElem?_cons_succ, List.getElem?_cons_zero, Option.getD_some]); (with_reducible refine (pick_c (n := n + 60 + 1) (cv := cv) (len := len) (by repeat (first | with_reducible assumption | with_reducible refine Cur.drew ?_ | with_reducible refine Cur.alloc ?_ _ | with_reducible refine Cur.new ?_ ?_ | with_reducible refine Cur.drewN ?_ _ | omega)) 6 (by constructor <;> omega) (by omega) hlen).mono ?_); rintro e wp ⟨x, rfl, ⟨x0, x1⟩, hcuP, hgP⟩; have j2P : HoldsA wp 26 w.heap.size 0 0 0 0 0 0 := HoldsA.grownM (by repeat (first | with_reducible assumption | (with_reducible refine HoldsA.made' ?_; (simp; done)) | with_reducible refine HoldsA.alloc ?_ _ | with_reducible refine HoldsA.drew ?_ | with_reducible refine HoldsA.drewN ?_ _ | (with_reducible refine HoldsA.far ?_ _ _ (by first | (simp; done) | (simp; omega) | omega)))) hgP (by omega); have j3P : HoldsA wp 26 g3 (row X 0) (row X 1) (row X 2) (row X 3) (row X 4) (row X 5) := HoldsA.grownM (by repeat (first | with_reducible assumption | (with_reducible refine HoldsA.made' ?_; (simp; done)) | with_reducible refine HoldsA.alloc ?_ _ | with_reducible refine HoldsA.drew ?_ | with_reducible refine HoldsA.drewN ?_ _ | (with_reducible refine HoldsA.far ?_ _ _ (by first | (simp; done) | (simp; omega) | omega)))) hgP (by omega); (try have hKL : KsL wp w3.heap.size := KsL.grown (KsL.made (w := w3.drew) rfl) hgP (by omega)); have hg6 : w.grownBy wp (some C) := (by repeat (first | with_reducible assumption | with_reducible exact World.grownBy.refl _ _ | with_reducible refine Lib.grownBy_allocR ?_ _ | with_reducible refine grown_drew ?_ | with_reducible refine grown_drewN ?_ _ | with_reducible refine grown_new ?_ ?_ _ _ | with_reducible refine Lib.grownBy_trans ?_ (by with_reducible assumption) | with_reducible refine grown_below' ?_ (by with_reducible assumption) ?_ | omega | (simp <;> omega))); have lp2 := j2P.lt; have lp3 := j3P.lt; have t0 := j2P.c0; have t1 := j2P.c1; have t2 := j2P.c2; have t3 := j2P.c3; have t4 := j2P.c4; have t5 := j2P.c5; have tf := j2P.free; have u0 := j3P.c0; have u1 := j3P.c1; have u2 := j3P.c2; have u3 := j3P.c3; have u4 := j3P.c4; have u5 := j3P.c5; have uf := j3P.free) | (go_at_call 43; (try simp only [List.getElem?_cons_succ, List.getElem?_cons_zero, Option.getD_some]); (with_reducible refine (among_ks (n := n + 60 + 1 + 1) (cv := cv) (len := len) (by repeat (first | with_reducible assumption | with_reducible refine Cur.drew ?_ | with_reducible refine Cur.alloc ?_ _ | with_reducible refine Cur.new ?_ ?_ | with_reducible refine Cur.drewN ?_ _ | omega)) (by omega) hlen (by omega) (by first | with_reducible assumption | exact KsL.made rfl)).mono ?_); rintro e wa ⟨z, rfl, hPz, hcuA, hgA⟩; clear hPz; have j2A : HoldsA wa 26 w.heap.size 0 0 0 0 0 0 := HoldsA.grownM (by repeat (first | with_reducible assumption | (with_reducible refine HoldsA.made' ?_; (simp; done)) | with_reducible refine HoldsA.alloc ?_ _ | with_reducible refine HoldsA.drew ?_ | with_reducible refine HoldsA.drewN ?_ _ | (with_reducible refine HoldsA.far ?_ _ _ (by first | (simp; done) | (simp; omega) | omega)))) hgA (by omega); have j3A : HoldsA wa 26 g3 (row X 0) (row X 1) (row X 2) (row X 3) (row X 4) (row X 5) := HoldsA.grownM (by repeat (first | with_reducible assumption | (with_reducible refine HoldsA.made' ?_; (simp; done)) | with_reducible refine HoldsA.alloc ?_ _ | with_reducible refine HoldsA.drew ?_ | with_reducible refine HoldsA.drewN ?_ _ | (with_reducible refine HoldsA.far ?_ _ _ (by first | (simp; done) | (simp; omega) | omega)))) hgA (by omega); have hg7 : w.grownBy wa (some C) := (by repeat (first | with_reducible assumption | with_reducible exact World.grownBy.refl _ _ | with_reducible refine Lib.grownBy_allocR ?_ _ | with_reducible refine grown_drew ?_ | with_reducible refine grown_drewN ?_ _ | with_reducible refine grown_new ?_ ?_ _ _ | with_reducible refine Lib.grownBy_trans ?_ (by with_reducible assumption) | with_reducible refine grown_below' ?_ (by with_reducible assumption) ?_ | omega | (simp <;> omega))); have la2 := j2A.lt; have la3 := j3A.lt; have m0 := j2A.c0; have m1 := j2A.c1; have m2 := j2A.c2; have m3 := j2A.c3; have m4 := j2A.c4; have m5 := j2A.c5; have mf := j2A.free; have k0 := j3A.c0; have k1 := j3A.c1; have k2 := j3A.c2; have k3 := j3A.c3; have k4 := j3A.c4; have k5 := j3A.c5; have kf := j3A.free) | (go_at_call 58; (try simp only [List.getElem?_cons_succ, List.getElem?_cons_zero, Option.getD_some]); (with_reducible refine (l2Shift_any X x z _).mono ?_); rintro e ws ⟨rfl, hbS⟩; have j2S := j2A.below hbS la2; have j3S := j3A.below hbS la3; have ls2 := j2S.lt; have ls3 := j3S.lt; have hcuS := hcuA.below' hbS (Nat.le_refl _); have hg8 := grown_below' hg7 hbS hg7.size; have d0 := j2S.c0; have d1 := j2S.c1; have d2 := j2S.c2; have d3 := j2S.c3; have d4 := j2S.c4; have d5 := j2S.c5; have df := j2S.free; have e0 := j3S.c0; have e1 := j3S.c1; have e2 := j3S.c2; have e3 := j3S.c3; have e4 := j3S.c4; have e5 := j3S.c5; have ef := j3S.free) | (go_at_call 46; (try simp only [List.getElem?_cons_succ, List.getElem?_cons_zero, Option.getD_some]); (with_reducible refine (l2Xor_any X (shiftN X (x % 6).toNat (z % 6).toNat) _).mono ?_); rintro e wx ⟨rfl, hbX⟩; have j2X := j2S.below hbX ls2; have lx2 := j2X.lt; have hcuX := hcuS.below' hbX (Nat.le_refl _); have hg9 := grown_below' hg8 hbX hg8.size; have j3X := j3S.below hbX ls3; have f0 := j2X.c0; have f1 := j2X.c1; have f2 := j2X.c2; have f3 := j2X.c3; have f4 := j2X.c4; have f5 := j2X.c5; have ff := j2X.free; have fy0 := j3X.c0; have fy1 := j3X.c1; have fy2 := j3X.c2; have fy3 := j3X.c3; have fy4 := j3X.c4; have fy5 := j3X.c5; have fyf := j3X.free))
        all_goals
          go_wp2_with fail
          go_meet
          exact ⟨X ^^^ shiftN X (x % 6).toNat (z % 6).toNat, j2X.store _ _ _ _ _ _, (by repeat (first | with_reducible assumption | with_reducible refine Cur.drew ?_ | with_reducible refine Cur.alloc ?_ _ | with_reducible refine Cur.new ?_ ?_ | with_reducible refine Cur.drewN ?_ _ | omega)), (by repeat (first | with_reducible assumption | with_reducible exact World.grownBy.refl _ _ | with_reducible refine Lib.grownBy_allocR ?_ _ | with_reducible refine grown_drew ?_ | with_reducible refine grown_drewN ?_ _ | with_reducible refine grown_new ?_ ?_ _ _ | with_reducible refine Lib.grownBy_trans ?_ (by with_reducible assumption) | with_reducible refine grown_below' ?_ (by with_reducible assumption) ?_ | omega | (simp <;> omega)))⟩
      case rest =>
        obtain ⟨Z, hZ, hcuZ, hgZ⟩ := hcut
        clear j2 j3 j2b j3b j2c j3c
        have hz0 := hZ.c0
        have hz1 := hZ.c1
        have hz2 := hZ.c2
        have hz3 := hZ.c3
        have hz4 := hZ.c4
        have hz5 := hZ.c5
        have hzf := hZ.free
        go_wp2_with fail
        exact bodyPost_ret (v := (.agg #[.int .i64 (row Z 0), .int .i64 (row Z 1), .int .i64 (row Z 2), .int .i64 (row Z 3), .int .i64 (row Z 4), .int .i64 (row Z 5)])) (by simp [results, Tryz.results30, go_sem, *]) rfl ⟨_, _, _, _, _, _, rfl, Cur.mono hcuZ (by omega), hgZ⟩
  · have hx0 := j3.c0
    have hx1 := j3.c1
    have hx2 := j3.c2
    have hx3 := j3.c3
    have hx4 := j3.c4
    have hx5 := j3.c5
    go_wp2_with (go_at_call 36; (with_reducible refine (l2Sheet_no _ _ _ _ _ _ (by assumption) _).mono ?_); rintro e w2 ⟨rfl, hb2⟩; have j2b := j2.below hb2 hl2; have j3b := j3.below hb2 hl3; have l2b := j2b.lt; have l3b := j3b.lt; have hcu3 := hcu2.below' hb2 (Nat.le_refl _); have hg3 := grown_below' hg2 hb2 hg2.size; have p0 := j2b.c0; have p1 := j2b.c1; have p2 := j2b.c2; have p3 := j2b.c3; have p4 := j2b.c4; have p5 := j2b.c5; have pf := j2b.free; have q0 := j3b.c0; have q1 := j3b.c1; have q2 := j3b.c2; have q3 := j3b.c3; have q4 := j3b.c4; have q5 := j3b.c5; have qf := j3b.free)
    exact bodyPost_ret (v := (.agg #[.int .i64 a0, .int .i64 a1, .int .i64 a2, .int .i64 a3, .int .i64 a4, .int .i64 a5])) (by simp [results, Tryz.results30, go_sem, *]) rfl ⟨a0, a1, a2, a3, a4, a5, rfl, Cur.mono (n := n + 60) (by repeat (first | with_reducible assumption | with_reducible refine Cur.drew ?_ | with_reducible refine Cur.alloc ?_ _ | with_reducible refine Cur.new ?_ ?_ | with_reducible refine Cur.drewN ?_ _ | omega)) (by omega), (by repeat (first | with_reducible assumption | with_reducible exact World.grownBy.refl _ _ | with_reducible refine Lib.grownBy_allocR ?_ _ | with_reducible refine grown_drew ?_ | with_reducible refine grown_drewN ?_ _ | with_reducible refine grown_new ?_ ?_ _ _ | with_reducible refine Lib.grownBy_trans ?_ (by with_reducible assumption) | with_reducible refine grown_below' ?_ (by with_reducible assumption) ?_ | omega | (simp <;> omega)))⟩
end Go.Proofs.YtgjgefbcfcomcaaGreatDoor
