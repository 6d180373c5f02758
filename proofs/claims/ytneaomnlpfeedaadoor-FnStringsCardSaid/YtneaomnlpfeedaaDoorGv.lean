/-
  The library's Contains, Itoa and Cut, as functions of the printed form. Conditions: Itoa's table is laid.
-/
import Derived.Test.YtneaomnlpfeedaaDoorShelf
import Derived.Test.YtneaomnlpfeedaaDoorWWords
import Derived.Test.YtneaomnlpfeedaaDoorWLast
import Derived.Lib.AppendIntMem
import Derived.Below
namespace Go.Proofs
open Go.RowKit Go.Proofs.YtneaomnlpfeedaaDoorW.PrintWords Go.Proofs.YtneaomnlpfeedaaDoorW.PrintLast
set_option linter.unusedVariables false

/-- the table of the powers of ten lies in memory -/
def TabW (w : World) : Prop := Lib.TabIs Tryd.prog w "internal/strconv.uint64pow10" .u64 Lib.pow10Tab
theorem TabW.below {w w' : World} (h : TabW w) (hb : Below w.heap.size w w') : TabW w' := by
  have hg : Tryd.prog.globalNamed "internal/strconv.uint64pow10" = some 3 := by kernel_rfl
  unfold TabW Lib.TabIs World.var? at h ⊢
  rw [hg] at h ⊢
  simp only [Option.bind_some] at h ⊢
  have hlt : 3 < w.heap.size := by
    rcases Nat.lt_or_ge 3 w.heap.size with h' | h'
    · exact h'
    · rw [Array.getElem?_eq_none h'] at h; cases h
  rw [hb.block _ hlt]
  exact h
/-- strings.Contains of one byte -/
def strings_Contains.f (a b : ByteArray) : Option Bool := if b.size = 1 then some (decide (0 ≤ Lib.indexByte a.data.toList (b.data.toList.headD 0))) else none
theorem strings_Contains.calls (a b : ByteArray) (r : Bool) (w : World) (h : strings_Contains.f a b = some r) :
    Calls Tryd.prog 26 #[.string a, .string b] w fun e w' => e = .returned (.bool r) ∧ Drawn0 w w' := by
  unfold strings_Contains.f at h
  by_cases h1 : b.size = 1
  · rw [if_pos h1] at h
    obtain ⟨c, hc⟩ : ∃ c, b = ⟨#[c]⟩ := by
      obtain ⟨⟨l⟩⟩ := b
      match l, h1 with
      | [c], _ => exact ⟨c, rfl⟩
    subst hc
    injection h with h
    subst h
    refine (Tryd.strings_Contains_one a c w).mono ?_
    rintro e w' ⟨rfl, rfl⟩
    exact ⟨rfl, Drawn0.refl _⟩
  · rw [if_neg h1] at h
    cases h
/-- strconv.Itoa -/
def strconv_Itoa_23.f (n : Int) : Option ByteArray := if -9223372036854775808 ≤ n ∧ n ≤ 9223372036854775807 then some ⟨(Lib.itoa n).toArray⟩ else none
theorem strconv_Itoa_23.calls (n : Int) (r : ByteArray) (w : World) (hTB : TabW w) (h : strconv_Itoa_23.f n = some r) :
    Calls Tryd.prog 23 #[.int .i64 n] w fun e w' => e = .returned (.string r) ∧ Below w.heap.size w w' := by
  unfold strconv_Itoa_23.f at h
  by_cases h1 : -9223372036854775808 ≤ n ∧ n ≤ 9223372036854775807
  · rw [if_pos h1] at h
    injection h with h
    subst h
    refine (Tryd.strconv_Itoa n h1.1 h1.2 w hTB).mono ?_
    rintro e w' ⟨rfl, k, os, rfl⟩
    exact ⟨rfl, Lib.below_grow _ w (Nat.le_refl _) k os⟩
  · rw [if_neg h1] at h
    cases h
end Go.Proofs
