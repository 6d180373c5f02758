/-
  The library's Contains and Join, as functions of the printed form. No conditions.
-/
import Derived.Test.YtneaomnlpfeedaaShelf
import Derived.Test.YtneaomnlpfeedaaWWords
import Derived.Test.YtneaomnlpfeedaaWLast
namespace Go.Proofs
open Go.RowKit Go.Proofs.YtneaomnlpfeedaaW.PrintWords Go.Proofs.YtneaomnlpfeedaaW.PrintLast
set_option linter.unusedVariables false

/-- strings.Contains of one byte -/
def strings_Contains.f (a b : ByteArray) : Option Bool := if b.size = 1 then some (decide (0 ≤ Lib.indexByte a.data.toList (b.data.toList.headD 0))) else none
theorem strings_Contains.calls (a b : ByteArray) (r : Bool) (w : World) (h : strings_Contains.f a b = some r) :
    Calls Try.prog 32 #[.string a, .string b] w fun e w' => e = .returned (.bool r) ∧ Drawn0 w w' := by
  unfold strings_Contains.f at h
  by_cases h1 : b.size = 1
  · rw [if_pos h1] at h
    obtain ⟨c, hc⟩ : ∃ c, b = ⟨#[c]⟩ := by
      obtain ⟨⟨l⟩⟩ := b
      match l, h1 with
      | [c], _ => exact ⟨c, rfl⟩
    subst hc
    injection h with h
    subst h
    refine (Try.strings_Contains_one a c w).mono ?_
    rintro e w' ⟨rfl, rfl⟩
    exact ⟨rfl, Drawn0.refl _⟩
  · rw [if_neg h1] at h
    cases h
/-- strings.Join of at least one string -/
def strings_Join.f (l : List ByteArray) (b : ByteArray) : Option ByteArray :=
  if 0 < l.length ∧ l.length ≤ 140737488355328 ∧ (Lib.join (l.map (·.data.toList)) b.data.toList).length ≤ 140737488355328 then some ⟨(Lib.join (l.map (·.data.toList)) b.data.toList).toArray⟩ else none
theorem strings_Join.calls (A0 : Option Addr) (c0 : Nat) (l0 : List ByteArray) (a1 : ByteArray) (r : ByteArray) (w : World) (hr0 : Kd.C Kd.string w A0 l0.length l0) (hc0 : l0.length ≤ c0) (h : strings_Join.f l0 a1 = some r) :
    Calls Try.prog 33 #[.slice A0 l0.length c0, .string a1] w fun e w' => e = .returned (.string r) ∧ Below w.heap.size w w' := by
  unfold strings_Join.f at h
  by_cases h1 : 0 < l0.length ∧ l0.length ≤ 140737488355328 ∧ (Lib.join (l0.map (·.data.toList)) a1.data.toList).length ≤ 140737488355328
  · rw [if_pos h1] at h
    injection h with h
    subst h
    obtain ⟨h2, h3, h4⟩ := h1
    obtain ⟨_, _, hr⟩ := hr0
    obtain ⟨ad, rfl, hcell⟩ := hr h2
    have hcells : ∀ (j : Nat) x, l0[j]? = some x → w.cell? (ad.add j) = some (.string x) := by
      intro j x hj
      obtain ⟨c, hl, hK, hc⟩ := hcell j x hj
      have e : c = [.string x] := hK
      subst e
      have := hc 0 _ rfl
      rw [show j * Kd.string.sz + 0 = j by show j * 1 + 0 = j; omega] at this
      exact this
    have h0 := hcells 0 _ (List.getElem?_eq_getElem h2)
    have hbk : ad.block < w.heap.size := by
      have := World.block_lt_of_cell? w _ h0
      simpa [Addr.add] using this
    have hsp : ad.spot = none := by
      have e : ad.add 0 = ad := by simp [Addr.add]
      rw [e] at h0
      cases hs : ad.spot with
      | none => rfl
      | some z =>
        exfalso
        unfold World.cell? at h0
        split at h0
        · rw [hs] at h0
          simp at h0
        · cases h0
    obtain ⟨bk, o, sp⟩ := ad
    simp only at hsp hbk
    subst hsp
    refine (Try.strings_Join bk o c0 l0 a1 w (fun j x hj => ?_) hbk h3 hc0 h4).mono ?_
    · have := hcells j x hj
      have e : (⟨bk, o, none⟩ : Addr).add j = ⟨bk, o + j, none⟩ := by
        unfold Addr.add
        split <;> simp_all
      rw [e] at this
      exact this
    · rintro e w' ⟨rfl, hb⟩
      exact ⟨rfl, hb⟩
  · rw [if_neg h1] at h
    cases h
end Go.Proofs
