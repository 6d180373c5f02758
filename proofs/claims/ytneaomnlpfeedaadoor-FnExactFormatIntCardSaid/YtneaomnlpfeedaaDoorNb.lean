/-
  FormatInt: the law answers true. No conditions.
-/
import Derived.Test.YtneaomnlpfeedaaDoorNa
namespace Go.Proofs.YtneaomnlpfeedaaDoor.Pure
open Go.RowKit Go.Proofs.YtneaomnlpfeedaaDoor.PFnExactFormatInt Go.Proofs.YtneaomnlpfeedaaDoorW.PrintWords Go.Proofs.YtneaomnlpfeedaaDoorW.PrintLast

theorem FnExactFormatInt (n : Int) (h0 : -9223372036854775808 ≤ n) (h1 : n ≤ 9223372036854775807) : laws_FnExactFormatInt.f 30 n = some true := by
  have both : ∃ a, spec_FormatInt.f 30 n = some a ∧ impl_FormatInt.f n = some a := by
    unfold spec_FormatInt.f impl_FormatInt.f spec_l1In.f
    by_cases a : n < -999999
    · exact ⟨(⟨#[]⟩, false), by rw [if_neg (by omega)]; rfl, by rw [if_pos a]⟩
    · rw [if_pos (by omega), if_neg a]
      simp only [Option.bind_some]
      by_cases b : n > 999999
      · exact ⟨(⟨#[]⟩, false), by rw [if_neg (by simpa using b)], by rw [if_pos b]⟩
      · refine ⟨(⟨(Lib.itoa n).toArray⟩, true), ?_, ?_⟩
        · rw [if_pos (by simpa using b), num_f n (by omega) (by omega) 30 (by omega)]
          rfl
        · rw [if_neg b]
          unfold strconv_Itoa_23.f
          rw [if_pos ⟨h0, h1⟩]
          rfl
  obtain ⟨a, e1, e2⟩ := both
  unfold laws_FnExactFormatInt.f
  rw [e1, e2]
  simp only [Option.bind_some, if_true, bne_self_eq_false, Bool.false_eq_true, if_false]
end Go.Proofs.YtneaomnlpfeedaaDoor.Pure
