/-
  The walk of the law FnExactKernelOf: whatever the arguments, it returns true. Under: the library's own table of the lowest bits lies as its initialiser lays it.
-/
import Derived.Test.YtgjgefbcfcomcaaDoorVf
namespace Go.Proofs.YtgjgefbcfcomcaaDoor
open Go.RowKit
set_option linter.unusedSimpArgs false
set_option linter.unusedVariables false
set_option maxRecDepth 100000 in
set_option maxHeartbeats 8000000 in
theorem lawKernelOf (a0 a1 a2 a3 a4 a5 : Int) (w : World) (hz0 : TabZ w) : Calls Tryd.prog 11 #[(.agg #[.int .i64 a0, .int .i64 a1, .int .i64 a2, .int .i64 a3, .int .i64 a4, .int .i64 a5])] w fun e w' => e = .returned (.bool true) ∧ Below w.heap.size w w' := by
  have hzl := hz0.lt
  have HZ := Lib.hid hz0
  clear hz0
  by_cases ha : Ok6 a0 a1 a2 a3 a4 a5
  · obtain ⟨X, hX, rfl, rfl, rfl, rfl, rfl, rfl⟩ := set_of_rows a0 a1 a2 a3 a4 a5 ha.1 ha.2.1 ha.2.2.1 ha.2.2.2.1 ha.2.2.2.2.1 ha.2.2.2.2.2
    clear ha
    go_enter Tryd.func11, Tryd.ntmps11
    go_upto_region 2 with (first | (go_at_call 14; (with_reducible refine (toSheet_any _ _ _ _ _ _ _).mono ?_); rintro e w1 ⟨rfl, hb1⟩; have zhb1 := hb1.size) | (go_at_call 34; (with_reducible refine (specKernel_ok X hX _).mono ?_); rintro e w2 ⟨v3, O, B3, rfl, hO3, hK3, hb2⟩; have zb2 := hb2.size))
    have k0 : HoldsA (w.alloc (.cells #[.int .i64 (row X 0), .int .i64 (row X 1), .int .i64 (row X 2), .int .i64 (row X 3), .int .i64 (row X 4), .int .i64 (row X 5)] 24)) 24 w.heap.size (row X 0) (row X 1) (row X 2) (row X 3) (row X 4) (row X 5) := HoldsA.made _ _ _ _ _ _ _ _
    have k1 := k0.below hb1 (by simp)
    have k2 := k1.below hb2 k1.lt
    have hB1 : Below w.heap.size w w1 := ((Below.refl w.heap.size w).alloc (Nat.le_refl _) _).trans (hb1.mono (by simp))
    have hB2 : Below w.heap.size w w2 := hB1.trans (hb2.mono hB1.size)
    obtain ⟨g3, cap3, rfl, hg3a, hg3⟩ := hO3.form
    have l2 := k2.lt
    clear k0 k1 hb1 hb2 hB1 zhb1
    have hx0 := k2.c0
    have hx1 := k2.c1
    have hx2 := k2.c2
    have hx3 := k2.c3
    have hx4 := k2.c4
    have hx5 := k2.c5
    go_upto_region 3 with (first | (go_at_call 14; (with_reducible refine (toSheet_any _ _ _ _ _ _ _).mono ?_); rintro e w3 ⟨rfl, hb3⟩; have zhb3 := hb3.size) | (go_at_call 35; (with_reducible refine (implKernel_ok X hX _ (HZ.out.below (hB2.trans (hb3.mono hB2.size)) hzl)).mono ?_); rintro e w4 ⟨v5, O5, rfl, hO5, hK5, hb4⟩; have zb4 := hb4.size))
    have hOO := hK5.uniq hK3
    subst hOO
    have k4 := (k2.below hb3 l2).below hb4 (k2.below hb3 l2).lt
    have hB4 : Below w.heap.size w w4 := (hB2.trans (hb3.mono hB2.size)).trans (hb4.mono (by omega))
    obtain ⟨g5, cap5, rfl, hg5a, hg5⟩ := hO5.form
    have hO34 := (hO3.below hb3).below hb4
    have hlen := hK5.2
    clear hO3 hb3 hb4 k2
    go_upto_region 6 with (go_at_call 26; (with_reducible refine (eqSheetS_any O5 _ _ hlen _ hO5.reads hO34.reads).mono ?_); rintro e w5 ⟨rfl, hb5⟩; have zb5 := hb5.size)
    have hM0 := mrk_start (hO5.below hb5) rfl
    have hR3 := (hO34.below hb5).reads
    have k5 := k4.below hb5 k4.lt
    have hB5 : Below w.heap.size w w5 := hB4.trans (hb5.mono hB4.size)
    have hg55 : g5 < w5.heap.size := by omega
    have hneg : ¬ ((O5.length : Int) * 6 + 1 < 0) := by omega
    clear hO34 hb5 hO5 k4
    go_upto_region 8 with (go_at_call 36; (with_reducible refine (mark_any g5 O5.length cap5 hlen _ hM0 hg55).mono ?_); rintro e w6 ⟨rfl, hM6, hg6, hb6⟩; have zb6 := hb6.size)
    have hR6 := readsS_below hR3 hb6 (fun g hg => by have : g3 = g := by simpa [Value.ownBlock] using hg
                                                     omega)
    have k6 := k5.below hb6 (by omega)
    have hB6 : Below w.heap.size w w6 := hB5.trans (hb6.mono (by omega))
    have l6 := k6.lt
    clear hR3 hM0 k5 hb6
    clear hx0 hx1 hx2 hx3 hx4 hx5
    have hy0 := k6.c0
    have hy1 := k6.c1
    have hy2 := k6.c2
    have hy3 := k6.c3
    have hy4 := k6.c4
    have hy5 := k6.c5
    go_upto_region 14 with (first | (go_at_call 37; (with_reducible refine (held_any g5 O5.length cap5 hlen _ hM6 hg6).mono ?_); rintro e w7 ⟨rfl, rfl⟩) | (go_at_call 14; (with_reducible refine (toSheet_any _ _ _ _ _ _ _).mono ?_); rintro e w8 ⟨rfl, hb8⟩; have zhb8 := hb8.size) | (go_at_call 35; (with_reducible refine (implKernel_ok X hX _ (HZ.out.below (hB6.trans (hb8.mono hB6.size)) hzl)).mono ?_); rintro e w9 ⟨v9, O9, rfl, hO9, hK9, hb9⟩; have zb9 := hb9.size))
    have hOO := hK9.uniq hK5
    subst hOO
    have hR9 := readsS_below (readsS_below hR6 hb8 (fun g hg => by have : g3 = g := by simpa [Value.ownBlock] using hg
                                                                   omega)) hb9 (fun g hg => by have : g3 = g := by simpa [Value.ownBlock] using hg
                                                                                               omega)
    have hM9 := (hM6.below hb8 hg6).below hb9 (by omega)
    have hB9 : Below w.heap.size w w9 := (hB6.trans (hb8.mono hB6.size)).trans (hb9.mono (by omega))
    have hg9 : g5 < w9.heap.size := by omega
    obtain ⟨a9, c9, rfl⟩ := readsS_form hO9.reads
    clear hR6 hM6 hb8 hb9 k6
    go_upto_region 17 with (go_at_call 26; (with_reducible refine (eqSheetS_any O9 _ _ hlen _ hO9.reads hR9).mono ?_); rintro e w10 ⟨rfl, hb10⟩; have zb10 := hb10.size)
    have hM10 := hM9.below hb10 hg9
    have hB10 : Below w.heap.size w w10 := hB9.trans (hb10.mono hB9.size)
    have hg10 : g5 < w10.heap.size := by omega
    clear hR9 hM9 hb10 hO9
    go_wp2_with (go_at_call 37; (with_reducible refine (held_any g5 O9.length cap5 hlen _ hM10 hg10).mono ?_); rintro e w11 ⟨rfl, rfl⟩)
    go_ret
    exact ⟨rfl, hB10⟩
  · have hn := ha
    clear ha
    go_enter Tryd.func11, Tryd.ntmps11
    go_upto_region 2 with (first | (go_at_call 14; (with_reducible refine (toSheet_any _ _ _ _ _ _ _).mono ?_); rintro e w1 ⟨rfl, hb1⟩; have zhb1 := hb1.size) | (go_at_call 34; (with_reducible refine (specKernel_no _ _ _ _ _ _ (by assumption) _).mono ?_); rintro e w2 ⟨v3, B3, rfl, hO3, hb2⟩; have zb2 := hb2.size))
    have k0 : HoldsA (w.alloc (.cells #[.int .i64 (a0), .int .i64 (a1), .int .i64 (a2), .int .i64 (a3), .int .i64 (a4), .int .i64 (a5)] 24)) 24 w.heap.size a0 a1 a2 a3 a4 a5 := HoldsA.made _ _ _ _ _ _ _ _
    have k1 := k0.below hb1 (by simp)
    have k2 := k1.below hb2 k1.lt
    have hB1 : Below w.heap.size w w1 := ((Below.refl w.heap.size w).alloc (Nat.le_refl _) _).trans (hb1.mono (by simp))
    have hB2 : Below w.heap.size w w2 := hB1.trans (hb2.mono hB1.size)
    obtain ⟨g3, cap3, rfl, hg3a, hg3⟩ := hO3.form
    have l2 := k2.lt
    have hR := fun (W : World) (h : g3 < W.heap.size) => (show ReadsS W (.slice (some ⟨g3, 0, none⟩) 0 cap3) [] from .inr ⟨g3, cap3, rfl, h, fun j hj => absurd hj (Nat.not_lt_zero _)⟩)
    have hR0 := fun (W : World) => (show ReadsS W (.slice none 0 0) [] from .inl ⟨rfl, rfl⟩)
    clear k0 k1 hb1 hb2 hB1 zhb1 hO3
    have hx0 := k2.c0
    have hx1 := k2.c1
    have hx2 := k2.c2
    have hx3 := k2.c3
    have hx4 := k2.c4
    have hx5 := k2.c5
    go_upto_region 3 with (first | (go_at_call 14; (with_reducible refine (toSheet_any _ _ _ _ _ _ _).mono ?_); rintro e w3 ⟨rfl, hb3⟩; have zhb3 := hb3.size) | (go_at_call 35; (with_reducible refine (implKernel_no _ _ _ _ _ _ (by assumption) _).mono ?_); rintro e w4 ⟨rfl, hb4⟩; have zb4 := hb4.size))
    have k4 := (k2.below hb3 l2).below hb4 (k2.below hb3 l2).lt
    have hB4 : Below w.heap.size w w4 := (hB2.trans (hb3.mono hB2.size)).trans (hb4.mono (by omega))
    have hg4 : g3 < w4.heap.size := by omega
    clear hb3 hb4 k2
    go_upto_region 6 with (go_at_call 26; (with_reducible refine (eqSheetS_any [] _ _ (by simp) _ (hR0 _) (hR _ hg4)).mono ?_); rintro e w5 ⟨rfl, hb5⟩; have zb5 := hb5.size)
    have k5 := k4.below hb5 k4.lt
    have hB5 : Below w.heap.size w w5 := hB4.trans (hb5.mono hB4.size)
    have l5 := k5.lt
    clear k4 hb5
    clear hx0 hx1 hx2 hx3 hx4 hx5
    have hy0 := k5.c0
    have hy1 := k5.c1
    have hy2 := k5.c2
    have hy3 := k5.c3
    have hy4 := k5.c4
    have hy5 := k5.c5
    go_upto_region 14 with (first | (go_at_call 36; (with_reducible refine (mark_nil _).mono ?_); rintro e w6 ⟨rfl, rfl⟩) | (go_at_call 37; (with_reducible refine (held_nil _).mono ?_); rintro e w7 ⟨rfl, rfl⟩) | (go_at_call 14; (with_reducible refine (toSheet_any _ _ _ _ _ _ _).mono ?_); rintro e w8 ⟨rfl, hb8⟩; have zhb8 := hb8.size) | (go_at_call 35; (with_reducible refine (implKernel_no _ _ _ _ _ _ (by assumption) _).mono ?_); rintro e w9 ⟨rfl, hb9⟩; have zb9 := hb9.size))
    have hB9 : Below w.heap.size w w9 := (hB5.trans (hb8.mono hB5.size)).trans (hb9.mono (by omega))
    have hg9 : g3 < w9.heap.size := by omega
    clear hb8 hb9
    go_upto_region 17 with (go_at_call 26; (with_reducible refine (eqSheetS_any [] _ _ (by simp) _ (hR0 _) (hR _ hg9)).mono ?_); rintro e w10 ⟨rfl, hb10⟩; have zb10 := hb10.size)
    have hB10 : Below w.heap.size w w10 := hB9.trans (hb10.mono hB9.size)
    go_wp2_with (go_at_call 37; (with_reducible refine (held_nil _).mono ?_); rintro e w11 ⟨rfl, rfl⟩)
    go_ret
    exact ⟨rfl, hB10⟩
end Go.Proofs.YtgjgefbcfcomcaaDoor
