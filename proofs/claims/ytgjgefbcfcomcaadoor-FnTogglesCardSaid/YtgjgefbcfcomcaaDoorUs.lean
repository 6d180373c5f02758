/-
  The reference's LeastPresses: contract. No conditions.
-/
import Derived.Test.YtgjgefbcfcomcaaDoorUp
import Derived.Test.YtgjgefbcfcomcaaDoorUe
namespace Go.Proofs.YtgjgefbcfcomcaaDoor
open Go.RowKit
set_option linter.unusedSimpArgs false
set_option linter.unusedVariables false

set_option maxRecDepth 100000 in
set_option maxHeartbeats 4000000 in
theorem specLeast_ok (X t : Nat) (hX : Vs X) (ht : Vs t) (hc : CanT X t) (w : World) :
    Calls Tryd.prog 32 #[(.agg #[.int .i64 (row X 0), .int .i64 (row X 1), .int .i64 (row X 2), .int .i64 (row X 3), .int .i64 (row X 4), .int .i64 (row X 5)]), (.agg #[.int .i64 (row t 0), .int .i64 (row t 1), .int .i64 (row t 2), .int .i64 (row t 3), .int .i64 (row t 4), .int .i64 (row t 5)])] w fun e w' => ∃ z, e = .returned (.tuple #[(.agg #[.int .i64 (row z 0), .int .i64 (row z 1), .int .i64 (row z 2), .int .i64 (row z 3), .int .i64 (row z 4), .int .i64 (row z 5)]), .bool true]) ∧ Lst X t z ∧ Below w.heap.size w w' := by
  have HX := Lib.hid hX
  have HC := Lib.hid hc
  have hSo := Lib.hid (l4Solve_any X t hX ht)
  clear hc
  go_enter Tryd.func32, Tryd.ntmps32
  go_upto_region 4 with (first | (go_at_call 46; (with_reducible refine (l2Sheet_ok _ _).mono ?_); rintro e w1 ⟨rfl, hb⟩; obtain ⟨hc, hf, hT, hz⟩ := bfacts hb; (try simp only [World.size_alloc, World.size_setCell, World.size_drew, size_drewN] at hc hf hT hz); (try (have hzA := Nat.lt_of_succ_le hz)); (try (have hl0 : w.heap.size ≤ w1.heap.size := by omega)); (try (have hz0 : w.heap.size < w1.heap.size := by omega)); (try (have hz1 : w.heap.size + 1 < w1.heap.size := by omega)); (try (have hz2 : w.heap.size + 1 + 1 < w1.heap.size := by omega)); (try (have hz3 : w.heap.size + 1 + 1 + 1 < w1.heap.size := by omega)); (try (have hz4 : w.heap.size + 1 + 1 + 1 + 1 < w1.heap.size := by omega))) | (go_at_call 47; (with_reducible refine (hSo.out _).mono ?_); rintro e w1 ⟨q, p, rfl, hq1, hq2, hq3, hq4, hb⟩; obtain ⟨hc, hf, hT, hz⟩ := bfacts hb; (try simp only [World.size_alloc, World.size_setCell, World.size_drew, size_drewN] at hc hf hT hz); (try (have hzA := Nat.lt_of_succ_le hz)); (try (have hl0 : w.heap.size ≤ w1.heap.size := by omega)); (try (have hz0 : w.heap.size < w1.heap.size := by omega)); (try (have hz1 : w.heap.size + 1 < w1.heap.size := by omega)); (try (have hz2 : w.heap.size + 1 + 1 < w1.heap.size := by omega)); (try (have hz3 : w.heap.size + 1 + 1 + 1 < w1.heap.size := by omega)); (try (have hz4 : w.heap.size + 1 + 1 + 1 + 1 < w1.heap.size := by omega))))
  have hp0 : p = 0 := hq4.2 HC.out
  subst hp0
  rw [Nat.zero_xor] at hq3
  have k4 : HoldsA w1 27 (w.heap.size + 1 + 1) 0 0 0 0 0 0 := by
    (repeat (first | with_reducible assumption | (with_reducible refine HoldsA.made' ?_; (simp; done)) | with_reducible refine HoldsA.alloc ?_ _ | with_reducible refine HoldsA.drew ?_ | with_reducible refine HoldsA.drewN ?_ _ | (with_reducible refine HoldsA.far ?_ _ _ (by first | (simp; done) | (simp; omega))) | (with_reducible refine HoldsA.below ?_ (by with_reducible assumption) (by first | (simp; done) | (simp; omega) | omega))))
  have k2 : HoldsA w1 27 (w.heap.size) (row X 0) (row X 1) (row X 2) (row X 3) (row X 4) (row X 5) := by
    (repeat (first | with_reducible assumption | (with_reducible refine HoldsA.made' ?_; (simp; done)) | with_reducible refine HoldsA.alloc ?_ _ | with_reducible refine HoldsA.drew ?_ | with_reducible refine HoldsA.drewN ?_ _ | (with_reducible refine HoldsA.far ?_ _ _ (by first | (simp; done) | (simp; omega))) | (with_reducible refine HoldsA.below ?_ (by with_reducible assumption) (by first | (simp; done) | (simp; omega) | omega))))
  have hBa : Below w.heap.size w w1 := (by repeat (first | with_reducible exact Below.refl _ _ | with_reducible assumption | with_reducible refine Below.drew ?_ | with_reducible refine below_drewN ?_ _ | with_reducible refine Below.alloc ?_ ?_ _ | with_reducible refine Below.setCell ?_ ?_ _ | with_reducible refine Below.trans ?_ (Below.mono (by assumption) ?_) | omega | (simp <;> omega)))
  obtain ⟨wa, rfl⟩ : ∃ wa : World, wa = w1 := ⟨_, rfl⟩
  have hl0a : w.heap.size + 1 + 1 < wa.heap.size := k4.lt
  clear hc hf hT hb
  go_wp2
  have j2 := k2.alloc (.cells #[.int .i64 (row q 0), .int .i64 (row q 1), .int .i64 (row q 2), .int .i64 (row q 3), .int .i64 (row q 4), .int .i64 (row q 5)] 27)
  have j4 := k4.alloc (.cells #[.int .i64 (row q 0), .int .i64 (row q 1), .int .i64 (row q 2), .int .i64 (row q 3), .int .i64 (row q 4), .int .i64 (row q 5)] 27)
  have j6 : HoldsA (wa.alloc (.cells #[.int .i64 (row q 0), .int .i64 (row q 1), .int .i64 (row q 2), .int .i64 (row q 3), .int .i64 (row q 4), .int .i64 (row q 5)] 27)) 27 (wa.heap.size) (row q 0) (row q 1) (row q 2) (row q 3) (row q 4) (row q 5) := by
    (repeat (first | with_reducible assumption | (with_reducible refine HoldsA.made' ?_; (simp; done)) | with_reducible refine HoldsA.alloc ?_ _ | with_reducible refine HoldsA.drew ?_ | with_reducible refine HoldsA.drewN ?_ _ | (with_reducible refine HoldsA.far ?_ _ _ (by first | (simp; done) | (simp; omega))) | (with_reducible refine HoldsA.below ?_ (by with_reducible assumption) (by first | (simp; done) | (simp; omega) | omega))))
  have hBb := hBa.alloc (by omega) (.cells #[.int .i64 (row q 0), .int .i64 (row q 1), .int .i64 (row q 2), .int .i64 (row q 3), .int .i64 (row q 4), .int .i64 (row q 5)] 27)
  have hl6 := j6.lt
  have hl2 := j2.lt
  have hl4 := j4.lt
  generalize wa.alloc (.cells #[.int .i64 (row q 0), .int .i64 (row q 1), .int .i64 (row q 2), .int .i64 (row q 3), .int .i64 (row q 4), .int .i64 (row q 5)] 27) = wb at *
  generalize wa.heap.size = g6 at *
  have hp0 := j4.c0
  have hp1 := j4.c1
  have hp2 := j4.c2
  have hp3 := j4.c3
  have hp4 := j4.c4
  have hp5 := j4.c5
  have hpf := j4.free
  have hx0 := j2.c0
  have hx1 := j2.c1
  have hx2 := j2.c2
  have hx3 := j2.c3
  have hx4 := j2.c4
  have hx5 := j2.c5
  have hxf := j2.free
  have hy0 := j6.c0
  have hy1 := j6.c1
  have hy2 := j6.c2
  have hy3 := j6.c3
  have hy4 := j6.c4
  have hy5 := j6.c5
  have hyf := j6.free
  clear k2 k4 hBa
  go_region_with (first | (go_at_call 56; (try simp only [List.getElem?_cons_succ, List.getElem?_cons_zero, Option.getD_some]); (with_reducible refine (l4Kernel_any X HX.out _).mono ?_); rintro e w2 ⟨vo, O, rfl, B, hO, ⟨R, L, hSR, hBS⟩, hb2⟩; obtain ⟨g, cap, rfl, hgB, hgl⟩ := hO.form; have hOR := hO.reads; have hAW := fun W h => l4Away_any (.slice (some ⟨g, 0, none⟩) O.length cap) O q (fun o ho => (hBS.lead o ho).2) (by have := hSR.lens; have := hBS.len (hSR.tabl.ind (sgl_ind 36)); omega) W h; have hLz : Lst X t (awL O q) := Lst.of_away hSR hBS hq1 hq3.out.symm; generalize awL O q = z at hAW hLz; have HAW := Lib.hid hAW; have HLZ := Lib.hid hLz; have HOR := Lib.hid hOR; clear hAW hLz hSR hBS hO hOR; have hBB := (Below.refl wb.heap.size wb).drew.trans hb2; have m6 := j6.below hBB hl6; have m4 := j4.below hBB hl4; have ml4 := m4.lt; have my0 := m6.c0; have mp0 := m4.c0; have my1 := m6.c1; have mp1 := m4.c1; have my2 := m6.c2; have mp2 := m4.c2; have my3 := m6.c3; have mp3 := m4.c3; have my4 := m6.c4; have mp4 := m4.c4; have my5 := m6.c5; have mp5 := m4.c5; have mpf := m4.free; clear hx1 hx2 hx3 hx4 hx5 hy0 hy1 hy2 hy3 hy4 hy5 hp0 hp1 hp2 hp3 hp4 hp5 hpf hxf hyf) | (go_at_call 69; (try simp only [List.getElem?_cons_succ, List.getElem?_cons_zero, Option.getD_some]); (with_reducible refine (HAW.out _ (by exact HOR.out)).mono ?_); rintro e w3 ⟨rfl, hb3⟩; have hBC := hb3; have n4 := m4.below hBC ml4; have np0 := n4.c0; have np1 := n4.c1; have np2 := n4.c2; have np3 := n4.c3; have np4 := n4.c4; have np5 := n4.c5; have npf := n4.free; have npl := n4.lt; have hBF : Below w.heap.size w w3 := (hBb.trans (hBB.mono (by omega))).trans (hBC.mono (by have := hBB.size; omega)); clear my0 my1 my2 my3 my4 my5 mp0 mp1 mp2 mp3 mp4 mp5 mpf m6 m4 ml4 n4 hBB hBC hb2 hb3 HOR HAW hq1 hq2 hq3 hq4 HC HX hSo j2 j4 j6))
  all_goals
    go_wp2
    exact bodyPost_ret (v := .tuple #[(.agg #[.int .i64 (row z 0), .int .i64 (row z 1), .int .i64 (row z 2), .int .i64 (row z 3), .int .i64 (row z 4), .int .i64 (row z 5)]), .bool true]) (by simp [results, Tryd.results32, go_sem, *]) rfl ⟨z, rfl, HLZ.out, (by repeat (first | with_reducible exact Below.refl _ _ | with_reducible assumption | with_reducible refine Below.drew ?_ | with_reducible refine below_drewN ?_ _ | with_reducible refine Below.alloc ?_ ?_ _ | with_reducible refine Below.setCell ?_ ?_ _ | with_reducible refine Below.trans ?_ (Below.mono (by assumption) ?_) | omega | (simp <;> omega)))⟩
set_option maxRecDepth 100000 in
theorem specLeast_cant (X t : Nat) (hX : Vs X) (ht : Vs t) (hc : ¬ CanT X t) (w : World) :
    Calls Tryd.prog 32 #[(.agg #[.int .i64 (row X 0), .int .i64 (row X 1), .int .i64 (row X 2), .int .i64 (row X 3), .int .i64 (row X 4), .int .i64 (row X 5)]), (.agg #[.int .i64 (row t 0), .int .i64 (row t 1), .int .i64 (row t 2), .int .i64 (row t 3), .int .i64 (row t 4), .int .i64 (row t 5)])] w fun e w' => e = .returned (.tuple #[.agg #[.int .i64 0, .int .i64 0, .int .i64 0, .int .i64 0, .int .i64 0, .int .i64 0], .bool false]) ∧ Below w.heap.size w w' := by
  have HC := Lib.hid hc
  have hSo := Lib.hid (l4Solve_any X t hX ht)
  clear hc
  go_enter Tryd.func32, Tryd.ntmps32
  go_upto_region 4 with (first | (go_at_call 46; (with_reducible refine (l2Sheet_ok _ _).mono ?_); rintro e w1 ⟨rfl, hb⟩; obtain ⟨hc, hf, hT, hz⟩ := bfacts hb; (try simp only [World.size_alloc, World.size_setCell, World.size_drew, size_drewN] at hc hf hT hz); (try (have hzA := Nat.lt_of_succ_le hz)); (try (have hl0 : w.heap.size ≤ w1.heap.size := by omega)); (try (have hz0 : w.heap.size < w1.heap.size := by omega)); (try (have hz1 : w.heap.size + 1 < w1.heap.size := by omega)); (try (have hz2 : w.heap.size + 1 + 1 < w1.heap.size := by omega)); (try (have hz3 : w.heap.size + 1 + 1 + 1 < w1.heap.size := by omega)); (try (have hz4 : w.heap.size + 1 + 1 + 1 + 1 < w1.heap.size := by omega))) | (go_at_call 47; (with_reducible refine (hSo.out _).mono ?_); rintro e w1 ⟨q, p, rfl, hq1, hq2, hq3, hq4, hb⟩; obtain ⟨hc, hf, hT, hz⟩ := bfacts hb; (try simp only [World.size_alloc, World.size_setCell, World.size_drew, size_drewN] at hc hf hT hz); (try (have hzA := Nat.lt_of_succ_le hz)); (try (have hl0 : w.heap.size ≤ w1.heap.size := by omega)); (try (have hz0 : w.heap.size < w1.heap.size := by omega)); (try (have hz1 : w.heap.size + 1 < w1.heap.size := by omega)); (try (have hz2 : w.heap.size + 1 + 1 < w1.heap.size := by omega)); (try (have hz3 : w.heap.size + 1 + 1 + 1 < w1.heap.size := by omega)); (try (have hz4 : w.heap.size + 1 + 1 + 1 + 1 < w1.heap.size := by omega))))
  have hp0 : decide (p = 0) = false := decide_eq_false fun h => HC.out (hq4.1 h)
  rw [hp0]
  clear hq4 hq3
  go_wp2
  exact bodyPost_ret (v := .tuple #[.agg #[.int .i64 0, .int .i64 0, .int .i64 0, .int .i64 0, .int .i64 0, .int .i64 0], .bool false]) (by simp [results, Tryd.results32, go_sem, *]) rfl ⟨rfl, (by repeat (first | with_reducible exact Below.refl _ _ | with_reducible assumption | with_reducible refine Below.drew ?_ | with_reducible refine below_drewN ?_ _ | with_reducible refine Below.alloc ?_ ?_ _ | with_reducible refine Below.setCell ?_ ?_ _ | with_reducible refine Below.trans ?_ (Below.mono (by assumption) ?_) | omega | (simp <;> omega)))⟩
theorem specLeast_no (a0 a1 a2 a3 a4 a5 b0 b1 b2 b3 b4 b5 : Int) (hn : ¬ (Ok6 a0 a1 a2 a3 a4 a5 ∧ Ok6 b0 b1 b2 b3 b4 b5)) (w : World) :
    Calls Tryd.prog 32 #[(.agg #[.int .i64 a0, .int .i64 a1, .int .i64 a2, .int .i64 a3, .int .i64 a4, .int .i64 a5]), (.agg #[.int .i64 b0, .int .i64 b1, .int .i64 b2, .int .i64 b3, .int .i64 b4, .int .i64 b5])] w fun e w' => e = .returned (.tuple #[.agg #[.int .i64 0, .int .i64 0, .int .i64 0, .int .i64 0, .int .i64 0, .int .i64 0], .bool false]) ∧ Below w.heap.size w w' := by
  by_cases ha : Ok6 a0 a1 a2 a3 a4 a5
  · have hb : ¬ Ok6 b0 b1 b2 b3 b4 b5 := fun h => hn ⟨ha, h⟩
    clear hn
    obtain ⟨X, hX, rfl, rfl, rfl, rfl, rfl, rfl⟩ := set_of_rows a0 a1 a2 a3 a4 a5 ha.1 ha.2.1 ha.2.2.1 ha.2.2.2.1 ha.2.2.2.2.1 ha.2.2.2.2.2
    clear ha
    go_enter Tryd.func32, Tryd.ntmps32
    go_wp2_with (go_at_call 46; (first | (with_reducible refine (l2Sheet_ok _ _).mono ?_) | (with_reducible refine (l2Sheet_no _ _ _ _ _ _ (by assumption) _).mono ?_)); rintro e w1 ⟨rfl, hb⟩; obtain ⟨hc, hf, hT, hz⟩ := bfacts hb; (try simp only [World.size_alloc, World.size_setCell, World.size_drew, size_drewN] at hc hf hT hz); (try (have hzA := Nat.lt_of_succ_le hz)); (try (have hl0 : w.heap.size ≤ w1.heap.size := by omega)); (try (have hz0 : w.heap.size < w1.heap.size := by omega)); (try (have hz1 : w.heap.size + 1 < w1.heap.size := by omega)); (try (have hz2 : w.heap.size + 1 + 1 < w1.heap.size := by omega)); (try (have hz3 : w.heap.size + 1 + 1 + 1 < w1.heap.size := by omega)); (try (have hz4 : w.heap.size + 1 + 1 + 1 + 1 < w1.heap.size := by omega)))
    exact bodyPost_ret (v := .tuple #[.agg #[.int .i64 0, .int .i64 0, .int .i64 0, .int .i64 0, .int .i64 0, .int .i64 0], .bool false]) (by simp [results, Tryd.results32, go_sem, *]) rfl ⟨rfl, (by repeat (first | with_reducible exact Below.refl _ _ | with_reducible assumption | with_reducible refine Below.drew ?_ | with_reducible refine below_drewN ?_ _ | with_reducible refine Below.alloc ?_ ?_ _ | with_reducible refine Below.setCell ?_ ?_ _ | with_reducible refine Below.trans ?_ (Below.mono (by assumption) ?_) | omega | (simp <;> omega)))⟩
  · clear hn
    go_enter Tryd.func32, Tryd.ntmps32
    go_wp2_with (go_at_call 46; (with_reducible refine (l2Sheet_no _ _ _ _ _ _ (by assumption) _).mono ?_); rintro e w1 ⟨rfl, hb⟩; obtain ⟨hc, hf, hT, hz⟩ := bfacts hb; (try simp only [World.size_alloc, World.size_setCell, World.size_drew, size_drewN] at hc hf hT hz); (try (have hzA := Nat.lt_of_succ_le hz)); (try (have hl0 : w.heap.size ≤ w1.heap.size := by omega)); (try (have hz0 : w.heap.size < w1.heap.size := by omega)); (try (have hz1 : w.heap.size + 1 < w1.heap.size := by omega)); (try (have hz2 : w.heap.size + 1 + 1 < w1.heap.size := by omega)); (try (have hz3 : w.heap.size + 1 + 1 + 1 < w1.heap.size := by omega)); (try (have hz4 : w.heap.size + 1 + 1 + 1 + 1 < w1.heap.size := by omega)))
    exact bodyPost_ret (v := .tuple #[.agg #[.int .i64 0, .int .i64 0, .int .i64 0, .int .i64 0, .int .i64 0, .int .i64 0], .bool false]) (by simp [results, Tryd.results32, go_sem, *]) rfl ⟨rfl, (by repeat (first | with_reducible exact Below.refl _ _ | with_reducible assumption | with_reducible refine Below.drew ?_ | with_reducible refine below_drewN ?_ _ | with_reducible refine Below.alloc ?_ ?_ _ | with_reducible refine Below.setCell ?_ ?_ _ | with_reducible refine Below.trans ?_ (Below.mono (by assumption) ?_) | omega | (simp <;> omega)))⟩
end Go.Proofs.YtgjgefbcfcomcaaDoor
