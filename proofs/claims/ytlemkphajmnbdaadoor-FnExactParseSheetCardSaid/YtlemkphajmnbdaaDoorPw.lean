/-
  The program's own predicate on a row: it is true where the row is not one of six signs. No conditions.
-/
import Derived.Test.YtlemkphajmnbdaaDoorPs
import Derived.Test.YtlemkphajmnbdaaDoorPv
import Derived.Test.YtlemkphajmnbdaaDoorShelf
import Derived.Shelf.Strings.SlTrimAscii
namespace Go.Proofs.YtlemkphajmnbdaaDoor
open Go.RowKit
set_option linter.unusedSimpArgs false
set_option linter.unusedVariables false

/-- a row that is not six signs -/
def badR (r : ByteArray) : Bool := !(decide (r.data.toList.length = 6) && r.data.toList.all fun b => b == 35 || b == 46)
theorem badR_no (r : ByteArray) : badR r = false ↔ RowOk r.data.toList := by
  unfold badR RowOk
  generalize r.data.toList = l
  simp
theorem size_list (r : ByteArray) : r.data.toList.length = r.size := by rw [Array.length_toList]; rfl
theorem trim_any (r : ByteArray) (hs : r.size ≤ 9223372036854775807) (w : World) : Calls Tryd.prog 11 #[.string r, .string ⟨#[35, 46]⟩] w fun e w' => e = .returned (.string ⟨(Lib.trimS r.data.toList [35, 46]).toArray⟩) ∧ Below w.heap.size w w' :=
  Any.strings_Trim_laid Tryd.lays160 (by kernel_rfl) r ⟨#[35, 46]⟩ w hs (by decide) (ascii_of_all (by decide))
set_option maxRecDepth 100000 in
theorem bad_any (r : ByteArray) (hs : r.size ≤ 9223372036854775807) (w : World) : Calls Tryd.prog 10 #[.string r] w fun e w' => e = .returned (.bool (badR r)) ∧ Below w.heap.size w w' := by
  by_cases h6 : r.size = 6
  · have h6' : (r.size : Int) = 6 := by omega
    by_cases hA : ∀ b ∈ r.data.toList, b = 35 ∨ b = 46
    · have hb : badR r = false := (badR_no r).2 ⟨by rw [size_list, h6], hA⟩
      have ht := fun w => trim_any r hs w
      rw [(trim_nil _).2 hA] at ht
      have HT := Lib.hid ht
      rw [hb]
      clear ht hA hb
      go_enter Tryd.func10, Tryd.ntmps10
      go_wp2_with (go_at_call 11; (with_reducible refine (HT.out _).mono ?_); rintro e w1 ⟨rfl, hb1⟩)
      go_ret
      exact ⟨rfl, (by repeat (first | with_reducible exact Below.refl _ _ | with_reducible assumption | with_reducible refine Below.drew ?_ | with_reducible refine below_drewN ?_ _ | with_reducible refine Below.alloc ?_ ?_ _ | with_reducible refine Below.setCell ?_ ?_ _ | with_reducible refine Below.trans ?_ (Below.mono (by assumption) ?_) | omega | (simp <;> omega)))⟩
    · have hb : badR r = true := by
        cases h : badR r with
        | true => rfl
        | false => exact absurd ((badR_no r).1 h).2 hA
      have ht := fun w => trim_any r hs w
      have hn : Lib.trimS r.data.toList [35, 46] ≠ [] := fun h => hA ((trim_nil _).1 h)
      generalize Lib.trimS r.data.toList [35, 46] = tl at ht hn
      have hz : tl.isEmpty = false := by
        cases tl with
        | nil => exact absurd rfl hn
        | cons _ _ => rfl
      have HT := Lib.hid ht
      rw [hb]
      clear ht hA hb
      go_enter Tryd.func10, Tryd.ntmps10
      go_wp2_with (go_at_call 11; (with_reducible refine (HT.out _).mono ?_); rintro e w1 ⟨rfl, hb1⟩)
      go_ret
      exact ⟨rfl, (by repeat (first | with_reducible exact Below.refl _ _ | with_reducible assumption | with_reducible refine Below.drew ?_ | with_reducible refine below_drewN ?_ _ | with_reducible refine Below.alloc ?_ ?_ _ | with_reducible refine Below.setCell ?_ ?_ _ | with_reducible refine Below.trans ?_ (Below.mono (by assumption) ?_) | omega | (simp <;> omega)))⟩
  · have h6' : ¬ (r.size : Int) = 6 := by omega
    have hb : badR r = true := by
      unfold badR
      rw [size_list, decide_eq_false h6]
      rfl
    rw [hb]
    clear hb
    go_enter Tryd.func10, Tryd.ntmps10
    go_wp2
    go_ret
    exact ⟨rfl, (by repeat (first | with_reducible exact Below.refl _ _ | with_reducible assumption | with_reducible refine Below.drew ?_ | with_reducible refine below_drewN ?_ _ | with_reducible refine Below.alloc ?_ ?_ _ | with_reducible refine Below.setCell ?_ ?_ _ | with_reducible refine Below.trans ?_ (Below.mono (by assumption) ?_) | omega | (simp <;> omega)))⟩
end Go.Proofs.YtlemkphajmnbdaaDoor
