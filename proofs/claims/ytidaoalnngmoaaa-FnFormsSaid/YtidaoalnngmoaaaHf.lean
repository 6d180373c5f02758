/-
  The reference's draws of sheets that are kept by motions, and of pairs of them: they leave any sheets, and old memory as it was. No conditions.
-/
import Derived.Test.YtidaoalnngmoaaaYc
import Derived.Test.YtidaoalnngmoaaaDk
namespace Go.Proofs.Ytidaoalnngmoaaa
open Go.RowKit
set_option linter.unusedSimpArgs false
set_option linter.unusedVariables false

def KpRel (C : Nat) (cv : Value) (len n S M : Nat) (m0 m1 m2 : Int) (w : World) (i : Value) (wr : World) : Prop :=
  ∃ k : Nat, k ≤ 5 ∧ i = .int .i64 (k : Int) ∧ ∃ Y : Nat, Vs Y ∧ HoldsA wr 33 S (row Y 0) (row Y 1) (row Y 2) (row Y 3) (row Y 4) (row Y 5) ∧ HoldsA wr 33 w.heap.size 0 0 0 0 0 0 ∧ Holds3 wr 39 M m0 m1 m2 ∧ Cur wr C cv len n ∧ w.grownBy wr (some C)
set_option maxRecDepth 100000 in
set_option maxHeartbeats 6400000 in
theorem kept3_draw {C len n : Nat} {cv : Value} {w : World} (hcur : Cur w C cv len n) (hn : n ≤ 700000) (hlen : len ≤ 1000000) : Calls Try.prog 106 #[.pointer (some ⟨C, 0, none⟩)] w (SheetEnd C cv len (n + 60) w) := by
  have hCl := hcur.lt
  go_enter Try.func106, Try.ntmps106
  go_upto_region 2 with (go_at_call 99; (with_reducible refine (sheet_c (by first | assumption | exact Cur.alloc (by assumption) _ | exact Cur.alloc (Cur.alloc (by assumption) _) _) (by omega) hlen).mono ?_); rintro e w1 ⟨a0, a1, a2, a3, a4, a5, rfl, hcu, hg⟩)
  have hg0 := hg.size
  simp only [World.size_alloc] at hg0
  have hR : HoldsA (w1.alloc (.cells #[.int .i64 a0, .int .i64 a1, .int .i64 a2, .int .i64 a3, .int .i64 a4, .int .i64 a5] 33)) 33 w.heap.size 0 0 0 0 0 0 := (HoldsA.grown (by repeat (first | with_reducible assumption | (with_reducible refine HoldsA.made' ?_; (simp; done)) | with_reducible refine HoldsA.alloc ?_ _ | with_reducible refine HoldsA.drew ?_ | with_reducible refine HoldsA.drewN ?_ _ | (with_reducible refine HoldsA.far ?_ _ _ (by first | (simp; done) | (simp; omega) | omega)))) hg hCl).alloc _
  have hS : HoldsA (w1.alloc (.cells #[.int .i64 a0, .int .i64 a1, .int .i64 a2, .int .i64 a3, .int .i64 a4, .int .i64 a5] 33)) 33 w1.heap.size a0 a1 a2 a3 a4 a5 := HoldsA.made' rfl
  have hcuX := hcu.alloc (.cells #[.int .i64 a0, .int .i64 a1, .int .i64 a2, .int .i64 a3, .int .i64 a4, .int .i64 a5] 33)
  have hgX : w.grownBy (w1.alloc (.cells #[.int .i64 a0, .int .i64 a1, .int .i64 a2, .int .i64 a3, .int .i64 a4, .int .i64 a5] 33)) (some C) := (by repeat (first | with_reducible assumption | with_reducible exact World.grownBy.refl _ _ | with_reducible refine Lib.grownBy_allocR ?_ _ | with_reducible refine grown_drew ?_ | with_reducible refine grown_drewN ?_ _ | with_reducible refine grown_new ?_ ?_ _ _ | with_reducible refine Lib.grownBy_trans ?_ (by with_reducible assumption) | with_reducible refine grown_below' ?_ (by with_reducible assumption) ?_ | omega | (simp <;> omega)))
  clear hg hcu
  generalize hE : (w1.alloc (.cells #[.int .i64 a0, .int .i64 a1, .int .i64 a2, .int .i64 a3, .int .i64 a4, .int .i64 a5] 33)) = X1 at *
  clear hE
  generalize w1.heap.size = gS at *
  have lS := hS.lt
  have lR := hR.lt
  have hCS : C < gS := by omega
  have s0 := hS.c0
  have s1 := hS.c1
  have s2 := hS.c2
  have s3 := hS.c3
  have s4 := hS.c4
  have s5 := hS.c5
  have sf := hS.free
  have r0 := hR.c0
  have r1 := hR.c1
  have r2 := hR.c2
  have r3 := hR.c3
  have r4 := hR.c4
  have r5 := hR.c5
  have rf := hR.free

  by_cases hok : Ok6 a0 a1 a2 a3 a4 a5
  rotate_left
  · have HN := Lib.hid (l2Sheet_no _ _ _ _ _ _ hok)
    go_wp2_with (go_at_call 77; (with_reducible refine (HN.out _).mono ?_); rintro e w2 ⟨rfl, hb⟩; have kR := hR.below hb lR; have kC := hcuX.below hb; have kG := Lib.grownBy_below hgX hb; have kS := hS.below hb lS; have t0 := kS.c0; have t1 := kS.c1; have t2 := kS.c2; have t3 := kS.c3; have t4 := kS.c4; have t5 := kS.c5; have tf := kS.free; have q0 := kR.c0; have q1 := kR.c1; have q2 := kR.c2; have q3 := kR.c3; have q4 := kR.c4; have q5 := kR.c5; have qf := kR.free; have hl0 := kR.lt; have hl1 := kS.lt)
    exact bodyPost_ret (v := (.agg #[.int .i64 a0, .int .i64 a1, .int .i64 a2, .int .i64 a3, .int .i64 a4, .int .i64 a5])) (by simp [results, Try.results106, go_sem, *]) rfl ⟨a0, a1, a2, a3, a4, a5, rfl, Cur.mono (n := n + 50) (by repeat (first | with_reducible assumption | with_reducible refine Cur.drew ?_ | (with_reducible refine Cur.new ?_ ?_) | with_reducible refine Cur.alloc ?_ _ | with_reducible refine Cur.drewN ?_ _ | omega)) (by omega), (by repeat (first | with_reducible assumption | with_reducible exact World.grownBy.refl _ _ | with_reducible refine Lib.grownBy_allocR ?_ _ | with_reducible refine grown_drew ?_ | with_reducible refine grown_drewN ?_ _ | with_reducible refine grown_new ?_ ?_ _ _ | with_reducible refine Lib.grownBy_trans ?_ (by with_reducible assumption) | with_reducible refine grown_below' ?_ (by with_reducible assumption) ?_ | omega | (simp <;> omega)))⟩
  have hok' := hok
  obtain ⟨X, hX, rfl, rfl, rfl, rfl, rfl, rfl⟩ := set_of_rows a0 a1 a2 a3 a4 a5 hok.1 hok.2.1 hok.2.2.1 hok.2.2.2.1 hok.2.2.2.2.1 hok.2.2.2.2.2
  clear hok hok'
  go_upto_region 4 with (first | (go_at_call 77; (with_reducible refine (l2Sheet_ok X _).mono ?_); rintro e w2 ⟨rfl, hb⟩; have kR := hR.below hb lR; have kC := hcuX.below hb; have kG := Lib.grownBy_below hgX hb; have kS := hS.below hb lS; have t0 := kS.c0; have t1 := kS.c1; have t2 := kS.c2; have t3 := kS.c3; have t4 := kS.c4; have t5 := kS.c5; have tf := kS.free; have q0 := kR.c0; have q1 := kR.c1; have q2 := kR.c2; have q3 := kR.c3; have q4 := kR.c4; have q5 := kR.c5; have qf := kR.free; have hl0 := kR.lt; have hl1 := kS.lt) | (go_at_call 107; (with_reducible refine (one_c (by with_reducible assumption) 3 ⟨by omega, by omega⟩ (by omega) hlen).mono ?_); rintro e w3 ⟨b, rfl, hcu, hg⟩; have jR := kR.grown hg hCl; have jS := kS.grown hg hCS; have jG := Lib.grownBy_trans kG hg; have t0 := jS.c0; have t1 := jS.c1; have t2 := jS.c2; have t3 := jS.c3; have t4 := jS.c4; have t5 := jS.c5; have tf := jS.free; have q0 := jR.c0; have q1 := jR.c1; have q2 := jR.c2; have q3 := jR.c3; have q4 := jR.c4; have q5 := jR.c5; have qf := jR.free; have hl0 := jR.lt; have hl1 := jS.lt))
  · exact bodyPost_ret (v := (.agg #[.int .i64 (row X 0), .int .i64 (row X 1), .int .i64 (row X 2), .int .i64 (row X 3), .int .i64 (row X 4), .int .i64 (row X 5)])) (by simp [results, Try.results106, go_sem, *]) rfl ⟨row X 0, row X 1, row X 2, row X 3, row X 4, row X 5, rfl, Cur.mono (n := n + 50 + 1) (by repeat (first | with_reducible assumption | with_reducible refine Cur.drew ?_ | (with_reducible refine Cur.new ?_ ?_) | with_reducible refine Cur.alloc ?_ _ | with_reducible refine Cur.drewN ?_ _ | omega)) (by omega), (by repeat (first | with_reducible assumption | with_reducible exact World.grownBy.refl _ _ | with_reducible refine Lib.grownBy_allocR ?_ _ | with_reducible refine grown_drew ?_ | with_reducible refine grown_drewN ?_ _ | with_reducible refine grown_new ?_ ?_ _ _ | with_reducible refine Lib.grownBy_trans ?_ (by with_reducible assumption) | with_reducible refine grown_below' ?_ (by with_reducible assumption) ?_ | omega | (simp <;> omega)))⟩
  clear hR hS hcuX hgX kR kC kG kS
  have lS := jS.lt
  have lR := jR.lt
  go_upto_region 5 with (go_at_call 100; (with_reducible refine (motion3_draw (by with_reducible assumption) (by omega) hlen).mono ?_); rintro e w4 ⟨m0, m1, m2, rfl, hcu4, hg4⟩)
  have hR : HoldsA (w4.alloc (.cells #[.int .i64 m0, .int .i64 m1, .int .i64 m2] 39)) 33 w.heap.size 0 0 0 0 0 0 := (jR.grown hg4 hCl).alloc _
  have hS : HoldsA (w4.alloc (.cells #[.int .i64 m0, .int .i64 m1, .int .i64 m2] 39)) 33 gS (row X 0) (row X 1) (row X 2) (row X 3) (row X 4) (row X 5) := (jS.grown hg4 hCS).alloc _
  have hM : Holds3 (w4.alloc (.cells #[.int .i64 m0, .int .i64 m1, .int .i64 m2] 39)) 39 w4.heap.size m0 m1 m2 := Holds3.made' rfl
  have hcuX := hcu4.alloc (.cells #[.int .i64 m0, .int .i64 m1, .int .i64 m2] 39)
  have hgX : w.grownBy (w4.alloc (.cells #[.int .i64 m0, .int .i64 m1, .int .i64 m2] 39)) (some C) := Lib.grownBy_allocR (Lib.grownBy_trans jG hg4) _
  have hg40 := hg4.size
  clear hg hcu hg4 hcu4 jR jS jG s0 s1 s2 s3 s4 s5 sf r0 r1 r2 r3 r4 r5 rf t0 t1 t2 t3 t4 t5 tf q0 q1 q2 q3 q4 q5 qf hl0 hl1
  generalize hE : (w4.alloc (.cells #[.int .i64 m0, .int .i64 m1, .int .i64 m2] 39)) = X4 at *
  clear hE
  generalize w4.heap.size = gM at *
  have hSM : gS < gM := by omega
  have hRS : w.heap.size < gS := by omega
  clear hg40 lS lR
  by_cases hm : Mot m0 m1 m2
  rotate_left
  · have hmd := decide_eq_false hm
    have HMN := Lib.hid hmd
    clear hmd
    go_wp2_with fail
    go_loopw [5] (fun i wr => i = .int .i64 0 ∧ wr = X4) (fun i _ => 0)
    case atStart => exact ⟨rfl, rfl⟩
    case round =>
      obtain ⟨rfl, rfl⟩ := hrel
      have c0 := hM.c0
      have c1 := hM.c1
      have c2 := hM.c2
      have cf := hM.free
      have s0 := hS.c0
      have s1 := hS.c1
      have s2 := hS.c2
      have s3 := hS.c3
      have s4 := hS.c4
      have s5 := hS.c5
      have sf := hS.free
      have lS := hS.lt
      have lR := hR.lt
      go_wp2_with (go_at_call 65; (with_reducible refine (l3Motion_any _ _ _ _).mono ?_); rintro e w5 ⟨rfl, hb⟩; have kR := hR.below hb lR; have kS := hS.below hb lS; have kC := hcuX.below hb; have kG := Lib.grownBy_below hgX hb; have t0 := kS.c0; have t1 := kS.c1; have t2 := kS.c2; have t3 := kS.c3; have t4 := kS.c4; have t5 := kS.c5; have tf := kS.free; have q0 := kR.c0; have q1 := kR.c1; have q2 := kR.c2; have q3 := kR.c3; have q4 := kR.c4; have q5 := kR.c5; have qf := kR.free; have hl0 := kR.lt; have hl1 := kS.lt; have hmd := HMN.out; (try rw [hmd]))
      exact bodyPost_ret (v := (.agg #[.int .i64 (row X 0), .int .i64 (row X 1), .int .i64 (row X 2), .int .i64 (row X 3), .int .i64 (row X 4), .int .i64 (row X 5)])) (by simp [results, Try.results106, go_sem, *]) rfl ⟨row X 0, row X 1, row X 2, row X 3, row X 4, row X 5, rfl, Cur.mono (n := n + 50 + 1 + 4) (by repeat (first | with_reducible assumption | with_reducible refine Cur.drew ?_ | (with_reducible refine Cur.new ?_ ?_) | with_reducible refine Cur.alloc ?_ _ | with_reducible refine Cur.drewN ?_ _ | omega)) (by omega), (by repeat (first | with_reducible assumption | with_reducible exact World.grownBy.refl _ _ | with_reducible refine Lib.grownBy_allocR ?_ _ | with_reducible refine grown_drew ?_ | with_reducible refine grown_drewN ?_ _ | with_reducible refine grown_new ?_ ?_ _ _ | with_reducible refine Lib.grownBy_trans ?_ (by with_reducible assumption) | with_reducible refine grown_below' ?_ (by with_reducible assumption) ?_ | omega | (simp <;> omega)))⟩
  obtain ⟨t, rfl⟩ := Int.eq_ofNat_of_zero_le hm.1.1
  obtain ⟨x, rfl⟩ := Int.eq_ofNat_of_zero_le hm.2.1.1
  obtain ⟨y, rfl⟩ := Int.eq_ofNat_of_zero_le hm.2.2.1
  have ht : t < 8 := by have := hm.1.2; omega
  have hx : x < 6 := by have := hm.2.1.2; omega
  have hy : y < 6 := by have := hm.2.2.2; omega
  have HMY := Lib.hid (decide_eq_true hm)
  clear hm
  go_wp2_with fail
  go_loopw [5] (KpRel C cv len (n + 50 + 1 + 4) gS gM (t : Int) (x : Int) (y : Int) w) (fun i _ => 5 - (intOf i).toNat)
  case atStart => exact ⟨0, by omega, rfl, X, hX, hS, hR, hM, hcuX, hgX⟩
  case round =>
    clear hS hR hM hcuX hgX
    obtain ⟨k, hk, rfl, Y, hY, hS, hR, hM, hcuX, hgX⟩ := hrel
    have c0 := hM.c0
    have c1 := hM.c1
    have c2 := hM.c2
    have cf := hM.free
    have s0 := hS.c0
    have s1 := hS.c1
    have s2 := hS.c2
    have s3 := hS.c3
    have s4 := hS.c4
    have s5 := hS.c5
    have sf := hS.free
    have r0 := hR.c0
    have r1 := hR.c1
    have r2 := hR.c2
    have r3 := hR.c3
    have r4 := hR.c4
    have r5 := hR.c5
    have rf := hR.free
    have lS := hS.lt
    have lR := hR.lt
    have lM := hM.lt
    have lC := hcuX.lt
    by_cases hlt : k < 5
    rotate_left
    · have e : k = 5 := by omega
      subst e
      go_wp2_with fail
      exact bodyPost_ret (v := (.agg #[.int .i64 (row Y 0), .int .i64 (row Y 1), .int .i64 (row Y 2), .int .i64 (row Y 3), .int .i64 (row Y 4), .int .i64 (row Y 5)])) (by simp [results, Try.results106, go_sem, *]) rfl ⟨row Y 0, row Y 1, row Y 2, row Y 3, row Y 4, row Y 5, rfl, Cur.mono (n := n + 50 + 1 + 4) (by repeat (first | with_reducible assumption | with_reducible refine Cur.drew ?_ | (with_reducible refine Cur.new ?_ ?_) | with_reducible refine Cur.alloc ?_ _ | with_reducible refine Cur.drewN ?_ _ | omega)) (by omega), (by repeat (first | with_reducible assumption | with_reducible exact World.grownBy.refl _ _ | with_reducible refine Lib.grownBy_allocR ?_ _ | with_reducible refine grown_drew ?_ | with_reducible refine grown_drewN ?_ _ | with_reducible refine grown_new ?_ ?_ _ _ | with_reducible refine Lib.grownBy_trans ?_ (by with_reducible assumption) | with_reducible refine grown_below' ?_ (by with_reducible assumption) ?_ | omega | (simp <;> omega)))⟩
    have hlt' : (k : Int) < 5 := by omega
    go_upto_region 8 with (go_at_call 65; (with_reducible refine (l3Motion_any _ _ _ _).mono ?_); rintro e w5 ⟨rfl, hb⟩; have kR := hR.below hb lR; have kS := hS.below hb lS; have kM := hM.below hb lM; have kC := hcuX.below hb; have kG := Lib.grownBy_below hgX hb; have hmd := HMY.out; (try rw [hmd]))
    clear hS hR hM hcuX hgX c0 c1 c2 cf s0 s1 s2 s3 s4 s5 sf r0 r1 r2 r3 r4 r5 rf lS lR lM lC
    have c0 := kM.c0
    have c1 := kM.c1
    have c2 := kM.c2
    have cf := kM.free
    have s0 := kS.c0
    have s1 := kS.c1
    have s2 := kS.c2
    have s3 := kS.c3
    have s4 := kS.c4
    have s5 := kS.c5
    have sf := kS.free
    have lS := kS.lt
    have lR := kR.lt
    have lM := kM.lt
    have lC := kC.lt
    go_region_with (first | (go_at_call 87; (with_reducible refine (l3Move_any Y t x y hY ht hx hy _).mono ?_); rintro e v ⟨rfl, hb⟩; (have pS : HoldsA v 33 gS (row Y 0) (row Y 1) (row Y 2) (row Y 3) (row Y 4) (row Y 5) := HoldsA.below (by repeat (first | with_reducible assumption | (with_reducible refine HoldsA.made' ?_; (simp; done)) | with_reducible refine HoldsA.alloc ?_ _ | with_reducible refine HoldsA.drew ?_ | with_reducible refine HoldsA.drewN ?_ _ | (with_reducible refine HoldsA.far ?_ _ _ (by first | (simp; done) | (simp; omega) | omega)))) hb (by first | (simp; done) | (simp; omega) | omega)); (have pM : Holds3 v 39 gM (t : Int) (x : Int) (y : Int) := Holds3.below (by repeat (first | with_reducible assumption | (with_reducible refine Holds3.made' ?_; (simp; done)) | with_reducible refine Holds3.alloc ?_ _ | with_reducible refine Holds3.drew ?_ | with_reducible refine Holds3.drewN ?_ _ | (with_reducible refine Holds3.far ?_ _ _ (by first | (simp; done) | (simp; omega) | omega)))) hb (by first | (simp; done) | (simp; omega) | omega)); (have pR : HoldsA v 33 w.heap.size 0 0 0 0 0 0 := HoldsA.below (by repeat (first | with_reducible assumption | (with_reducible refine HoldsA.made' ?_; (simp; done)) | with_reducible refine HoldsA.alloc ?_ _ | with_reducible refine HoldsA.drew ?_ | with_reducible refine HoldsA.drewN ?_ _ | (with_reducible refine HoldsA.far ?_ _ _ (by first | (simp; done) | (simp; omega) | omega)))) hb (by first | (simp; done) | (simp; omega) | omega)); (have pC : Cur v C cv len (n + 50 + 1 + 4) := Cur.below (by repeat (first | with_reducible assumption | with_reducible refine Cur.drew ?_ | (with_reducible refine Cur.new ?_ ?_) | with_reducible refine Cur.alloc ?_ _ | with_reducible refine Cur.drewN ?_ _ | omega)) hb); (have pG : w.grownBy v (some C) := Lib.grownBy_below (by repeat (first | with_reducible assumption | with_reducible exact World.grownBy.refl _ _ | with_reducible refine Lib.grownBy_allocR ?_ _ | with_reducible refine grown_drew ?_ | with_reducible refine grown_drewN ?_ _ | with_reducible refine grown_new ?_ ?_ _ _ | with_reducible refine Lib.grownBy_trans ?_ (by with_reducible assumption) | with_reducible refine grown_below' ?_ (by with_reducible assumption) ?_ | omega | (simp <;> omega))) hb); have ps0 := pS.c0; have ps1 := pS.c1; have ps2 := pS.c2; have ps3 := pS.c3; have ps4 := pS.c4; have ps5 := pS.c5; have pm0 := pM.c0; have pm1 := pM.c1; have pm2 := pM.c2; have pf := pS.free; have pl := pS.lt; have pll := pM.lt; have plr := pR.lt) | (go_at_call 124; (with_reducible refine (l2Or_any Y (moveS t x y Y) _).mono ?_); rintro e v ⟨rfl, hb⟩; (have oS : HoldsA v 33 gS (row Y 0) (row Y 1) (row Y 2) (row Y 3) (row Y 4) (row Y 5) := HoldsA.below (by repeat (first | with_reducible assumption | (with_reducible refine HoldsA.made' ?_; (simp; done)) | with_reducible refine HoldsA.alloc ?_ _ | with_reducible refine HoldsA.drew ?_ | with_reducible refine HoldsA.drewN ?_ _ | (with_reducible refine HoldsA.far ?_ _ _ (by first | (simp; done) | (simp; omega) | omega)))) hb (by first | (simp; done) | (simp; omega) | omega)); (have oM : Holds3 v 39 gM (t : Int) (x : Int) (y : Int) := Holds3.below (by repeat (first | with_reducible assumption | (with_reducible refine Holds3.made' ?_; (simp; done)) | with_reducible refine Holds3.alloc ?_ _ | with_reducible refine Holds3.drew ?_ | with_reducible refine Holds3.drewN ?_ _ | (with_reducible refine Holds3.far ?_ _ _ (by first | (simp; done) | (simp; omega) | omega)))) hb (by first | (simp; done) | (simp; omega) | omega)); (have oR : HoldsA v 33 w.heap.size 0 0 0 0 0 0 := HoldsA.below (by repeat (first | with_reducible assumption | (with_reducible refine HoldsA.made' ?_; (simp; done)) | with_reducible refine HoldsA.alloc ?_ _ | with_reducible refine HoldsA.drew ?_ | with_reducible refine HoldsA.drewN ?_ _ | (with_reducible refine HoldsA.far ?_ _ _ (by first | (simp; done) | (simp; omega) | omega)))) hb (by first | (simp; done) | (simp; omega) | omega)); (have oC : Cur v C cv len (n + 50 + 1 + 4) := Cur.below (by repeat (first | with_reducible assumption | with_reducible refine Cur.drew ?_ | (with_reducible refine Cur.new ?_ ?_) | with_reducible refine Cur.alloc ?_ _ | with_reducible refine Cur.drewN ?_ _ | omega)) hb); (have oG : w.grownBy v (some C) := Lib.grownBy_below (by repeat (first | with_reducible assumption | with_reducible exact World.grownBy.refl _ _ | with_reducible refine Lib.grownBy_allocR ?_ _ | with_reducible refine grown_drew ?_ | with_reducible refine grown_drewN ?_ _ | with_reducible refine grown_new ?_ ?_ _ _ | with_reducible refine Lib.grownBy_trans ?_ (by with_reducible assumption) | with_reducible refine grown_below' ?_ (by with_reducible assumption) ?_ | omega | (simp <;> omega))) hb); have os0 := oS.c0; have os1 := oS.c1; have os2 := oS.c2; have os3 := oS.c3; have os4 := oS.c4; have os5 := oS.c5; have om0 := oM.c0; have om1 := oM.c1; have om2 := oM.c2; have of := oS.free; have ol := oS.lt; have oll := oM.lt; have olr := oR.lt))
    all_goals
      go_wp2_with fail
      go_roundw
      case rel => exact ⟨k + 1, by omega, by go_num, Y ||| moveS t x y Y, hY.or (moveS_vs _ _ _ _), by first | with_reducible exact oS.store _ _ _ _ _ _ | with_reducible exact (HoldsA.drew oS).store _ _ _ _ _ _, (by repeat (first | with_reducible assumption | (with_reducible refine HoldsA.made' ?_; (simp; done)) | with_reducible refine HoldsA.alloc ?_ _ | with_reducible refine HoldsA.drew ?_ | with_reducible refine HoldsA.drewN ?_ _ | (with_reducible refine HoldsA.far ?_ _ _ (by first | (simp; done) | (simp; omega) | omega)))), (by repeat (first | with_reducible assumption | (with_reducible refine Holds3.made' ?_; (simp; done)) | with_reducible refine Holds3.alloc ?_ _ | with_reducible refine Holds3.drew ?_ | with_reducible refine Holds3.drewN ?_ _ | (with_reducible refine Holds3.far ?_ _ _ (by first | (simp; done) | (simp; omega) | omega)))), (by repeat (first | with_reducible assumption | with_reducible refine Cur.drew ?_ | (with_reducible refine Cur.new ?_ ?_) | with_reducible refine Cur.alloc ?_ _ | with_reducible refine Cur.drewN ?_ _ | omega)), (by repeat (first | with_reducible assumption | with_reducible exact World.grownBy.refl _ _ | with_reducible refine Lib.grownBy_allocR ?_ _ | with_reducible refine grown_drew ?_ | with_reducible refine grown_drewN ?_ _ | with_reducible refine grown_new ?_ ?_ _ _ | with_reducible refine Lib.grownBy_trans ?_ (by with_reducible assumption) | with_reducible refine grown_below' ?_ (by with_reducible assumption) ?_ | omega | (simp <;> omega)))⟩
      case measure => simp [intOf]; omega

def SheetOut (w : World) (e : Ending) (w' : World) : Prop := ∃ a0 a1 a2 a3 a4 a5 : Int, e = .returned (.agg #[.int .i64 a0, .int .i64 a1, .int .i64 a2, .int .i64 a3, .int .i64 a4, .int .i64 a5]) ∧ Below w.heap.size w w'
set_option maxRecDepth 100000 in
set_option maxHeartbeats 1600000 in
theorem DrawFirstPlace_any (cv : Value) (len : Nat) (hlen : len ≤ 1000000) (w : World) (hcode : CodeB w w.heap.size cv len) : Calls Try.prog 105 #[cv] w (SheetOut w) := by
  have hc2 := hcode
  rcases hc2 with ⟨hE, hL⟩ | ⟨cb, co, cap, hE, _, _⟩
  all_goals
    subst hE
    go_enter Try.func105, Try.ntmps105
    go_wp2_with (go_at_call 106; (with_reducible refine (kept3_draw (by exact Cur.boxed' hcode (by repeat (first | with_reducible exact Below.refl _ _ | with_reducible assumption | with_reducible refine Below.drew ?_ | with_reducible refine below_drewN ?_ _ | with_reducible refine Below.alloc ?_ ?_ _ | with_reducible refine Below.setCell ?_ ?_ _ | with_reducible refine Below.trans ?_ (Below.mono (by assumption) ?_) | omega | (simp <;> omega))) (by simp)) (by omega) hlen).mono ?_); rintro e w1 ⟨a0, a1, a2, a3, a4, a5, rfl, hcu, hg⟩; (have hR0 : HoldsA w1 33 (w.heap.size) 0 0 0 0 0 0 := HoldsA.grownN (by repeat (first | with_reducible assumption | (with_reducible refine HoldsA.made' ?_; (simp; done)) | with_reducible refine HoldsA.alloc ?_ _ | with_reducible refine HoldsA.drew ?_ | with_reducible refine HoldsA.drewN ?_ _ | (with_reducible refine HoldsA.far ?_ _ _ (by first | (simp; done) | (simp; omega) | omega)))) hg (by omega)); have hv0 := hR0.c0; have hv1 := hR0.c1; have hv2 := hR0.c2; have hv3 := hR0.c3; have hv4 := hR0.c4; have hv5 := hR0.c5; have hvf := hR0.free)
    exact bodyPost_ret (v := (.agg #[.int .i64 a0, .int .i64 a1, .int .i64 a2, .int .i64 a3, .int .i64 a4, .int .i64 a5])) (by simp [results, Try.results105, go_sem, *]) rfl ⟨a0, a1, a2, a3, a4, a5, rfl, (by repeat (first | with_reducible exact Below.refl _ _ | with_reducible assumption | with_reducible refine Below.drew ?_ | with_reducible refine below_drewN ?_ _ | with_reducible refine Below.alloc ?_ ?_ _ | with_reducible refine Below.setCell ?_ ?_ _ | with_reducible refine below_grown ?_ (by with_reducible assumption) ?_ | omega | (simp <;> omega)))⟩
set_option maxRecDepth 100000 in
set_option maxHeartbeats 1600000 in
theorem DrawFirstForm_any (cv : Value) (len : Nat) (hlen : len ≤ 1000000) (w : World) (hcode : CodeB w w.heap.size cv len) : Calls Try.prog 60 #[cv] w (SheetOut w) := by
  go_enter Try.func60, Try.ntmps60
  go_wp2_with (go_at_call 105; (with_reducible refine (DrawFirstPlace_any cv len hlen _ (hcode.moved (by repeat (first | with_reducible exact Below.refl _ _ | with_reducible assumption | with_reducible refine Below.drew ?_ | with_reducible refine below_drewN ?_ _ | with_reducible refine Below.alloc ?_ ?_ _ | with_reducible refine Below.setCell ?_ ?_ _ | with_reducible refine Below.trans ?_ (Below.mono (by assumption) ?_) | omega | (simp <;> omega))))).mono ?_); rintro e w1 ⟨a0, a1, a2, a3, a4, a5, rfl, hb⟩; (have hR0 : HoldsA w1 33 (w.heap.size) 0 0 0 0 0 0 := HoldsA.below (by repeat (first | with_reducible assumption | (with_reducible refine HoldsA.made' ?_; (simp; done)) | with_reducible refine HoldsA.alloc ?_ _ | with_reducible refine HoldsA.drew ?_ | with_reducible refine HoldsA.drewN ?_ _ | (with_reducible refine HoldsA.far ?_ _ _ (by first | (simp; done) | (simp; omega) | omega)))) hb (by simp)); have hbs := hb.size; (try simp only [World.size_alloc] at hbs); have hv0 := hR0.c0; have hv1 := hR0.c1; have hv2 := hR0.c2; have hv3 := hR0.c3; have hv4 := hR0.c4; have hv5 := hR0.c5; have hvf := hR0.free)
  exact bodyPost_ret (v := (.agg #[.int .i64 a0, .int .i64 a1, .int .i64 a2, .int .i64 a3, .int .i64 a4, .int .i64 a5])) (by simp [results, Try.results60, go_sem, *]) rfl ⟨a0, a1, a2, a3, a4, a5, rfl, (by repeat (first | with_reducible exact Below.refl _ _ | with_reducible assumption | with_reducible refine Below.drew ?_ | with_reducible refine below_drewN ?_ _ | with_reducible refine Below.alloc ?_ ?_ _ | with_reducible refine Below.setCell ?_ ?_ _ | with_reducible refine Below.trans ?_ (Below.mono (by assumption) ?_) | omega | (simp <;> omega)))⟩
end Go.Proofs.Ytidaoalnngmoaaa
