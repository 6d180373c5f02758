/-
  The walk of the law FnExactQuietStamps: whatever the list, it returns true. Under: the library's own table of the lowest bits lies as its initialiser lays it.
-/
import Derived.Test.YtgjgefbcfcomcaaDoorWc
import Derived.Test.YtgjgefbcfcomcaaDoorWd
namespace Go.Proofs.YtgjgefbcfcomcaaDoor
open Go.RowKit
set_option linter.unusedSimpArgs false
set_option linter.unusedVariables false

theorem both_quiet (n : Nat) (Z : List Int) : ∃ (m : Int) (b : Bool),
    (∀ v W, ReadsZ W v n Z → Calls Tryd.prog 23 #[v] W fun e w' => e = .returned (.tuple #[.int .i64 m, .bool b]) ∧ Below W.heap.size W w') ∧
    (∀ v W, ReadsZ W v n Z → TabZ W → Calls Tryd.prog 25 #[v] W fun e w' => e = .returned (.tuple #[.int .i64 m, .bool b]) ∧ Below W.heap.size W w') := by
  by_cases h6 : 6 < n
  · refine ⟨0, false, fun v W h => ?_, fun v W h _ => ?_⟩
    · obtain ⟨a, c, rfl⟩ := readsZ_form h
      exact specQuiet_long a n c h6 W
    · obtain ⟨a, c, rfl⟩ := readsZ_form h
      exact implQuiet_long a n c h6 W
  · obtain ⟨k0, Xs, h1, h2, h3, h4⟩ := pre_ex Z n
    obtain ⟨L0, hL0⟩ := QD.run (Z := Z) k0 Xs h2
    by_cases e : k0 = n
    · exact ⟨(L0.length : Int), true, fun v W h => specQuiet_run n k0 L0.length Z Xs L0 (by omega) h1 h2 h3 h4 hL0 rfl _ (fun _ => rfl) (fun g => absurd e g) v W h,
        fun v W h hz => implQuiet_run n k0 L0.length Z Xs L0 (by omega) h1 h2 h3 h4 hL0 rfl _ (fun _ => rfl) (fun g => absurd e g) v W h hz⟩
    · exact ⟨0, false, fun v W h => specQuiet_run n k0 L0.length Z Xs L0 (by omega) h1 h2 h3 h4 hL0 rfl _ (fun g => absurd g e) (fun _ => rfl) v W h,
        fun v W h hz => implQuiet_run n k0 L0.length Z Xs L0 (by omega) h1 h2 h3 h4 hL0 rfl _ (fun g => absurd g e) (fun _ => rfl) v W h hz⟩
set_option maxRecDepth 100000 in
set_option maxHeartbeats 8000000 in
theorem lawQuietStamps (a : Option Addr) (n c : Nat) (Z : List Int) (hn : n ≤ maxLen) (w : World) (hr : ReadsA w a n Z) (hz0 : TabZ w) : Calls Tryd.prog 7 #[.slice a n c] w fun e w' => e = .returned (.bool true) ∧ Below w.heap.size w w' := by
  have hzl := hz0.lt
  have HZ := Lib.hid hz0
  clear hz0
  by_cases hbig : (1048576 : Int) < (n : Int)
  · have hsz := sz_any a n c hn w
    rw [if_pos hbig] at hsz
    go_enter Tryd.func7, Tryd.ntmps7
    go_wp2_with (go_at_call 22; (with_reducible refine hsz.mono ?_); rintro e w1 ⟨rfl, rfl⟩)
    go_ret
    exact ⟨rfl, Below.refl _ _⟩
  · have hsz := sz_any a n c hn w
    rw [if_neg hbig] at hsz
    have hn20 : n ≤ 1048576 := by omega
    have hneg : ¬ ((1048576 : Int) - (n : Int) < 0) := by omega
    obtain ⟨m, b, hSp, hIm⟩ := both_quiet n Z
    have HSP := Lib.hid hSp
    have HIM := Lib.hid hIm
    have HSZ := Lib.hid hsz
    clear hSp hIm hsz
    go_enter Tryd.func7, Tryd.ntmps7
    go_upto_region 6 with (first | (go_at_call 22; (with_reducible refine HSZ.out.mono ?_); rintro e w0 ⟨rfl, rfl⟩) | (go_at_call 24; (with_reducible refine (toSheetS_any a n c Z hn20 _ hr).mono ?_); rintro e w1 ⟨rfl, hr1, hb1⟩) | (go_at_call 23; (with_reducible refine (HSP.out _ _ hr1).mono ?_); rintro e w2 ⟨rfl, hb2⟩))
    have hB2 : Below w.heap.size w w2 := hb1.trans (hb2.mono hb1.size)
    have hrA := hr.below hB2
    clear hr1 hb1 hb2
    go_upto_region 8 with (first | (go_at_call 24; (with_reducible refine (toSheetS_any a n c Z hn20 _ hrA).mono ?_); rintro e w3 ⟨rfl, hr3, hb3⟩) | (go_at_call 25; (with_reducible refine (HIM.out _ _ hr3 (HZ.out.below (hB2.trans (hb3.mono hB2.size)) hzl)).mono ?_); rintro e w4 ⟨rfl, hb4⟩))
    have hB3 := hB2.trans (hb3.mono hB2.size)
    have hB4 : Below w.heap.size w w4 := hB3.trans (hb4.mono hB3.size)
    have hrB := hr.below hB4
    have hr4 := readsZ_mv hr3 hb4
    clear hrA hr3 hb3 hb4 hB2 hB3
    go_wp2_with (first | (go_at_call 24; (with_reducible refine (toSheetS_any a n c Z hn20 _ hrB).mono ?_); rintro e w5 ⟨rfl, hr5, hb5⟩) | (go_at_call 26; (with_reducible refine (eqSheetZ_any n Z _ _ hn20 _ (readsZ_mv hr4 hb5) hr5).mono ?_); rintro e w6 ⟨rfl, hb6⟩))
    have hB5 := hB4.trans (hb5.mono hB4.size)
    have hB6 := hB5.trans (hb6.mono hB5.size)
    go_ret
    exact ⟨rfl, hB6⟩
end Go.Proofs.YtgjgefbcfcomcaaDoor
