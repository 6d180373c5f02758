/-
  The library's Index of one byte, as a function of the printed form. No conditions.
-/
import Derived.Test.YtneaomnlpfeedaaDoorGv
namespace Go.Proofs
open Go.RowKit Go.Proofs.YtneaomnlpfeedaaDoorW.PrintWords Go.Proofs.YtneaomnlpfeedaaDoorW.PrintLast
set_option linter.unusedVariables false

/-- strings.Index of one byte -/
def stringslite_Index.f (a b : ByteArray) : Option Int := if b.size = 1 then some (Lib.indexByte a.data.toList (b.data.toList.headD 0)) else none
theorem stringslite_Index.calls (a b : ByteArray) (r : Int) (w : World) (h : stringslite_Index.f a b = some r) :
    Calls Tryd.prog 45 #[.string a, .string b] w fun e w' => e = .returned (.int .i64 r) ∧ Drawn0 w w' := by
  unfold stringslite_Index.f at h
  by_cases h1 : b.size = 1
  · rw [if_pos h1] at h
    obtain ⟨c, hc⟩ : ∃ c, b = ⟨#[c]⟩ := by
      obtain ⟨⟨l⟩⟩ := b
      match l, h1 with
      | [c], _ => exact ⟨c, rfl⟩
    subst hc
    injection h with h
    subst h
    refine (Tryd.stringslite_Index_one a c w).mono ?_
    rintro e w' ⟨rfl, rfl⟩
    exact ⟨rfl, Drawn0.refl _⟩
  · rw [if_neg h1] at h
    cases h
end Go.Proofs
