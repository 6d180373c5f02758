/-
  The reference's draws of arguments: they leave any sheets, motions and turns, and old memory as it was. No conditions.
-/
import Derived.Test.YtidaoalnngmoaaaHd
namespace Go.Proofs.Ytidaoalnngmoaaa
open Go.RowKit
set_option linter.unusedSimpArgs false
set_option linter.unusedVariables false

theorem CodeB.below {w W : World} {C len : Nat} {cv : Value} (h : CodeB w w.heap.size cv len) (hb : Below w.heap.size w W) (hC : w.heap.size ≤ C) : CodeB W C cv len := by
  rcases h with h | ⟨cb, co, cap, h1, h2, h3⟩
  · exact .inl h
  · refine .inr ⟨cb, co, cap, h1, by omega, fun j hj => ?_⟩
    obtain ⟨z, hz⟩ := h3 j hj
    exact ⟨z, by rw [hb.cell (p := ⟨cb, co + j, none⟩) h2]; exact hz⟩
theorem Cur.boxed' {w W : World} {C len T : Nat} {cv : Value} (h : CodeB w w.heap.size cv len) (hb : Below w.heap.size w W) (hC : C = W.heap.size) (hT : T = 113 := by rfl) : Cur (W.alloc (.cells #[cv, .int .i64 0, .int .u64 0] T)) C cv len 0 := by
  subst hC hT
  exact ⟨0, 0, heap_alloc_new W _, Nat.le_refl _, h.below (hb.alloc hb.size _) hb.size⟩
theorem HoldsA.grownN {w w' : World} {T B C : Nat} {a0 a1 a2 a3 a4 a5 : Int} (h : HoldsA w T B a0 a1 a2 a3 a4 a5) (hg : w.grownBy w' (some C)) (hne : B ≠ C) : HoldsA w' T B a0 a1 a2 a3 a4 a5 :=
  (hg.block B h.lt (fun e => by injection e with e; exact hne e)).trans h
theorem Holds3.grownN {w w' : World} {T B C : Nat} {a0 a1 a2 : Int} (h : Holds3 w T B a0 a1 a2) (hg : w.grownBy w' (some C)) (hne : B ≠ C) : Holds3 w' T B a0 a1 a2 :=
  (hg.block B h.lt (fun e => by injection e with e; exact hne e)).trans h
theorem below_grown {w W w' : World} {C : Nat} (hb : Below w.heap.size w W) (hg : W.grownBy w' (some C)) (hC : w.heap.size ≤ C) : Below w.heap.size w w' :=
  hb.grown hg hb.size (fun k hk => by injection hk with hk; omega)

def DrawMoveSheetEnd (w : World) (e : Ending) (w' : World) : Prop := ∃ a0 a1 a2 a3 a4 a5 m0 m1 m2 : Int, e = .returned (.tuple #[.agg #[.int .i64 a0, .int .i64 a1, .int .i64 a2, .int .i64 a3, .int .i64 a4, .int .i64 a5], .agg #[.int .i64 m0, .int .i64 m1, .int .i64 m2]]) ∧ Below w.heap.size w w'
set_option maxRecDepth 100000 in
set_option maxHeartbeats 1600000 in
theorem DrawMoveSheet_any (cv : Value) (len : Nat) (hlen : len ≤ 1000000) (w : World) (hcode : CodeB w w.heap.size cv len) : Calls Try.prog 52 #[cv] w (DrawMoveSheetEnd w) := by
  have hc2 := hcode
  rcases hc2 with ⟨hE, hL⟩ | ⟨cb, co, cap, hE, _, _⟩
  all_goals
    subst hE
    go_enter Try.func52, Try.ntmps52
    go_wp2_with (first | (go_at_call 99; (with_reducible refine (sheet_c (by exact Cur.boxed' hcode (by repeat (first | with_reducible exact Below.refl _ _ | with_reducible assumption | with_reducible refine Below.drew ?_ | with_reducible refine below_drewN ?_ _ | with_reducible refine Below.alloc ?_ ?_ _ | with_reducible refine Below.setCell ?_ ?_ _ | with_reducible refine Below.trans ?_ (Below.mono (by assumption) ?_) | omega | (simp <;> omega))) (by simp)) (by omega) hlen).mono ?_); rintro e w1 ⟨a0, a1, a2, a3, a4, a5, rfl, hcu, hg⟩; (have hR0 : HoldsA w1 33 (w.heap.size) 0 0 0 0 0 0 := HoldsA.grownN (by repeat (first | with_reducible assumption | (with_reducible refine HoldsA.made' ?_; (simp; done)) | with_reducible refine HoldsA.alloc ?_ _)) hg (by omega)); have hv00 := hR0.c0; have hv01 := hR0.c1; have hv02 := hR0.c2; have hv03 := hR0.c3; have hv04 := hR0.c4; have hv05 := hR0.c5; have hvf0 := hR0.free; (have hR1 : Holds3 w1 39 (w.heap.size + 1) 0 0 0 := Holds3.grownN (by repeat (first | with_reducible assumption | (with_reducible refine Holds3.made' ?_; (simp; done)) | with_reducible refine Holds3.alloc ?_ _)) hg (by omega)); have hv10 := hR1.c0; have hv11 := hR1.c1; have hv12 := hR1.c2; have hvf1 := hR1.free) | (go_at_call 100; (with_reducible refine (motion3_draw (by assumption) (by omega) hlen).mono ?_); rintro e w1 ⟨m0, m1, m2, rfl, hcu, hg⟩; (have hR0 : HoldsA w1 33 (w.heap.size) 0 0 0 0 0 0 := HoldsA.grownN (by repeat (first | with_reducible assumption | (with_reducible refine HoldsA.made' ?_; (simp; done)) | with_reducible refine HoldsA.alloc ?_ _)) hg (by omega)); have hv00 := hR0.c0; have hv01 := hR0.c1; have hv02 := hR0.c2; have hv03 := hR0.c3; have hv04 := hR0.c4; have hv05 := hR0.c5; have hvf0 := hR0.free; (have hR1 : Holds3 w1 39 (w.heap.size + 1) 0 0 0 := Holds3.grownN (by repeat (first | with_reducible assumption | (with_reducible refine Holds3.made' ?_; (simp; done)) | with_reducible refine Holds3.alloc ?_ _)) hg (by omega)); have hv10 := hR1.c0; have hv11 := hR1.c1; have hv12 := hR1.c2; have hvf1 := hR1.free))
    exact bodyPost_ret (v := .tuple #[.agg #[.int .i64 a0, .int .i64 a1, .int .i64 a2, .int .i64 a3, .int .i64 a4, .int .i64 a5], .agg #[.int .i64 m0, .int .i64 m1, .int .i64 m2]]) (by simp [results, Try.results52, go_sem, *]) rfl ⟨a0, a1, a2, a3, a4, a5, m0, m1, m2, rfl, (by repeat (first | with_reducible exact Below.refl _ _ | with_reducible assumption | with_reducible refine Below.drew ?_ | with_reducible refine below_drewN ?_ _ | with_reducible refine Below.alloc ?_ ?_ _ | with_reducible refine Below.setCell ?_ ?_ _ | with_reducible refine below_grown ?_ (by with_reducible assumption) ?_ | omega | (simp <;> omega)))⟩

def DrawMotionBehindEnd (w : World) (e : Ending) (w' : World) : Prop := ∃ m0 m1 m2 n0 n1 n2 : Int, e = .returned (.tuple #[.agg #[.int .i64 m0, .int .i64 m1, .int .i64 m2], .agg #[.int .i64 n0, .int .i64 n1, .int .i64 n2]]) ∧ Below w.heap.size w w'
set_option maxRecDepth 100000 in
set_option maxHeartbeats 1600000 in
theorem DrawMotionBehind_any (cv : Value) (len : Nat) (hlen : len ≤ 1000000) (w : World) (hcode : CodeB w w.heap.size cv len) : Calls Try.prog 53 #[cv] w (DrawMotionBehindEnd w) := by
  have hc2 := hcode
  rcases hc2 with ⟨hE, hL⟩ | ⟨cb, co, cap, hE, _, _⟩
  all_goals
    subst hE
    go_enter Try.func53, Try.ntmps53
    go_wp2_with (first | (go_at_call 100; (with_reducible refine (motion3_draw (by exact Cur.boxed' hcode (by repeat (first | with_reducible exact Below.refl _ _ | with_reducible assumption | with_reducible refine Below.drew ?_ | with_reducible refine below_drewN ?_ _ | with_reducible refine Below.alloc ?_ ?_ _ | with_reducible refine Below.setCell ?_ ?_ _ | with_reducible refine Below.trans ?_ (Below.mono (by assumption) ?_) | omega | (simp <;> omega))) (by simp)) (by omega) hlen).mono ?_); rintro e w1 ⟨m0, m1, m2, rfl, hcu, hg⟩; (have hR0 : Holds3 w1 39 (w.heap.size) 0 0 0 := Holds3.grownN (by repeat (first | with_reducible assumption | (with_reducible refine Holds3.made' ?_; (simp; done)) | with_reducible refine Holds3.alloc ?_ _)) hg (by omega)); have hv00 := hR0.c0; have hv01 := hR0.c1; have hv02 := hR0.c2; have hvf0 := hR0.free; (have hR1 : Holds3 w1 39 (w.heap.size + 1) 0 0 0 := Holds3.grownN (by repeat (first | with_reducible assumption | (with_reducible refine Holds3.made' ?_; (simp; done)) | with_reducible refine Holds3.alloc ?_ _)) hg (by omega)); have hv10 := hR1.c0; have hv11 := hR1.c1; have hv12 := hR1.c2; have hvf1 := hR1.free) | (go_at_call 100; (with_reducible refine (motion3_draw (by assumption) (by omega) hlen).mono ?_); rintro e w1 ⟨n0, n1, n2, rfl, hcu, hg⟩; (have hR0 : Holds3 w1 39 (w.heap.size) 0 0 0 := Holds3.grownN (by repeat (first | with_reducible assumption | (with_reducible refine Holds3.made' ?_; (simp; done)) | with_reducible refine Holds3.alloc ?_ _)) hg (by omega)); have hv00 := hR0.c0; have hv01 := hR0.c1; have hv02 := hR0.c2; have hvf0 := hR0.free; (have hR1 : Holds3 w1 39 (w.heap.size + 1) 0 0 0 := Holds3.grownN (by repeat (first | with_reducible assumption | (with_reducible refine Holds3.made' ?_; (simp; done)) | with_reducible refine Holds3.alloc ?_ _)) hg (by omega)); have hv10 := hR1.c0; have hv11 := hR1.c1; have hv12 := hR1.c2; have hvf1 := hR1.free))
    exact bodyPost_ret (v := .tuple #[.agg #[.int .i64 m0, .int .i64 m1, .int .i64 m2], .agg #[.int .i64 n0, .int .i64 n1, .int .i64 n2]]) (by simp [results, Try.results53, go_sem, *]) rfl ⟨m0, m1, m2, n0, n1, n2, rfl, (by repeat (first | with_reducible exact Below.refl _ _ | with_reducible assumption | with_reducible refine Below.drew ?_ | with_reducible refine below_drewN ?_ _ | with_reducible refine Below.alloc ?_ ?_ _ | with_reducible refine Below.setCell ?_ ?_ _ | with_reducible refine below_grown ?_ (by with_reducible assumption) ?_ | omega | (simp <;> omega)))⟩

def DrawTurnBehindEnd (w : World) (e : Ending) (w' : World) : Prop := ∃ k m : Int, e = .returned (.tuple #[.int .i64 k, .int .i64 m]) ∧ Below w.heap.size w w'
set_option maxRecDepth 100000 in
set_option maxHeartbeats 1600000 in
theorem DrawTurnBehind_any (cv : Value) (len : Nat) (hlen : len ≤ 1000000) (w : World) (hcode : CodeB w w.heap.size cv len) : Calls Try.prog 55 #[cv] w (DrawTurnBehindEnd w) := by
  have hc2 := hcode
  rcases hc2 with ⟨hE, hL⟩ | ⟨cb, co, cap, hE, _, _⟩
  all_goals
    subst hE
    go_enter Try.func55, Try.ntmps55
    go_wp2_with (first | (go_at_call 101; (with_reducible refine (turn3_draw (by exact Cur.boxed' hcode (by repeat (first | with_reducible exact Below.refl _ _ | with_reducible assumption | with_reducible refine Below.drew ?_ | with_reducible refine below_drewN ?_ _ | with_reducible refine Below.alloc ?_ ?_ _ | with_reducible refine Below.setCell ?_ ?_ _ | with_reducible refine Below.trans ?_ (Below.mono (by assumption) ?_) | omega | (simp <;> omega))) (by simp)) (by omega) hlen).mono ?_); rintro e w1 ⟨k, rfl, hcu, hg⟩) | (go_at_call 101; (with_reducible refine (turn3_draw (by assumption) (by omega) hlen).mono ?_); rintro e w1 ⟨m, rfl, hcu, hg⟩))
    go_ret2
    exact ⟨k, m, rfl, (by repeat (first | with_reducible exact Below.refl _ _ | with_reducible assumption | with_reducible refine Below.drew ?_ | with_reducible refine below_drewN ?_ _ | with_reducible refine Below.alloc ?_ ?_ _ | with_reducible refine Below.setCell ?_ ?_ _ | with_reducible refine below_grown ?_ (by with_reducible assumption) ?_ | omega | (simp <;> omega)))⟩

def DrawTurnSheetEnd (w : World) (e : Ending) (w' : World) : Prop := ∃ a0 a1 a2 a3 a4 a5 k : Int, e = .returned (.tuple #[.agg #[.int .i64 a0, .int .i64 a1, .int .i64 a2, .int .i64 a3, .int .i64 a4, .int .i64 a5], .int .i64 k]) ∧ Below w.heap.size w w'
set_option maxRecDepth 100000 in
set_option maxHeartbeats 1600000 in
theorem DrawTurnSheet_any (cv : Value) (len : Nat) (hlen : len ≤ 1000000) (w : World) (hcode : CodeB w w.heap.size cv len) : Calls Try.prog 57 #[cv] w (DrawTurnSheetEnd w) := by
  have hc2 := hcode
  rcases hc2 with ⟨hE, hL⟩ | ⟨cb, co, cap, hE, _, _⟩
  all_goals
    subst hE
    go_enter Try.func57, Try.ntmps57
    go_wp2_with (first | (go_at_call 102; (with_reducible refine (stamp_draw (by exact Cur.boxed' hcode (by repeat (first | with_reducible exact Below.refl _ _ | with_reducible assumption | with_reducible refine Below.drew ?_ | with_reducible refine below_drewN ?_ _ | with_reducible refine Below.alloc ?_ ?_ _ | with_reducible refine Below.setCell ?_ ?_ _ | with_reducible refine Below.trans ?_ (Below.mono (by assumption) ?_) | omega | (simp <;> omega))) (by simp)) (by omega) hlen).mono ?_); rintro e w1 ⟨a0, a1, a2, a3, a4, a5, rfl, hcu, hg⟩; (have hR0 : HoldsA w1 33 (w.heap.size) 0 0 0 0 0 0 := HoldsA.grownN (by repeat (first | with_reducible assumption | (with_reducible refine HoldsA.made' ?_; (simp; done)) | with_reducible refine HoldsA.alloc ?_ _)) hg (by omega)); have hv00 := hR0.c0; have hv01 := hR0.c1; have hv02 := hR0.c2; have hv03 := hR0.c3; have hv04 := hR0.c4; have hv05 := hR0.c5; have hvf0 := hR0.free) | (go_at_call 101; (with_reducible refine (turn3_draw (by assumption) (by omega) hlen).mono ?_); rintro e w1 ⟨k, rfl, hcu, hg⟩; (have hR0 : HoldsA w1 33 (w.heap.size) 0 0 0 0 0 0 := HoldsA.grownN (by repeat (first | with_reducible assumption | (with_reducible refine HoldsA.made' ?_; (simp; done)) | with_reducible refine HoldsA.alloc ?_ _)) hg (by omega)); have hv00 := hR0.c0; have hv01 := hR0.c1; have hv02 := hR0.c2; have hv03 := hR0.c3; have hv04 := hR0.c4; have hv05 := hR0.c5; have hvf0 := hR0.free))
    exact bodyPost_ret (v := .tuple #[.agg #[.int .i64 a0, .int .i64 a1, .int .i64 a2, .int .i64 a3, .int .i64 a4, .int .i64 a5], .int .i64 k]) (by simp [results, Try.results57, go_sem, *]) rfl ⟨a0, a1, a2, a3, a4, a5, k, rfl, (by repeat (first | with_reducible exact Below.refl _ _ | with_reducible assumption | with_reducible refine Below.drew ?_ | with_reducible refine below_drewN ?_ _ | with_reducible refine Below.alloc ?_ ?_ _ | with_reducible refine Below.setCell ?_ ?_ _ | with_reducible refine below_grown ?_ (by with_reducible assumption) ?_ | omega | (simp <;> omega)))⟩
end Go.Proofs.Ytidaoalnngmoaaa
