/-
  slices.IndexFunc and slices.ContainsFunc over a list of strings and a predicate that leaves old memory as it was. No conditions.
-/
import Derived.Test.YtlemkphajmnbdaaDoorBase
import Derived.Deep.CutRange
import Derived.Deep.LoopGhost
import Derived.Shelf.Abstract
namespace Go.Proofs.YtlemkphajmnbdaaDoor
open Go.RowKit
set_option linter.unusedSimpArgs false
set_option linter.unusedVariables false

/-- what is asked of a predicate on strings -/
def PredS (g : Nat) (p : ByteArray → Bool) (zs : List ByteArray) : Prop := ∀ r ∈ zs, ∀ W : World, Calls Tryd.prog g #[.string r] W fun e w' => e = .returned (.bool (p r)) ∧ Below W.heap.size W w'
set_option maxRecDepth 100000 in
set_option maxHeartbeats 1600000 in
theorem indexFunc_any (p : ByteArray → Bool) (zs : List ByteArray) (g : Nat) (eg : ∀ args w, (callFunc g args).run Tryd.prog w = .ok (.enter g args) w) (hp : PredS g p zs) (b : Nat) (w : World) (hbig : zs.length ≤ 9223372036854775807) (hb : b < w.heap.size)
    (hc : ∀ (j : Nat) (r : ByteArray), zs[j]? = some r → w.cell? ⟨b, j, none⟩ = some (.string r)) :
    Calls Tryd.prog 16 #[.slice (some ⟨b, 0, none⟩) zs.length zs.length, .func (.func g) #[] #[]] w fun e w' => (∃ i : Int, e = .returned (.int .i64 i) ∧ decide (0 ≤ i) = zs.any p) ∧ Below w.heap.size w w' := by
  go_enter Tryd.func16, Tryd.ntmps16
  go_wp2
  go_loopg [5, 8] zs.length (fun gg _ s8 wr => ∃ kk : Nat, kk ≤ zs.length ∧ zs.length - kk ≤ gg ∧ s8 = .int .i64 kk ∧ Aside (Below w.heap.size w wr) ∧ Aside (∀ (j : Nat) r, zs[j]? = some r → j < kk → p r = false))
  case atStart => exact ⟨0, Nat.zero_le _, by omega, rfl, Below.refl _ w, fun j r _ hj => absurd hj (Nat.not_lt_zero _)⟩
  case round =>
    obtain ⟨kk, hkk, hg, rfl, BW, A⟩ := hrel
    by_cases hlt : kk < zs.length
    · have hltz : (kk : Int) < (zs.length : Int) := by omega
      obtain ⟨r, hr⟩ : ∃ r, zs[kk]? = some r := ⟨_, List.getElem?_eq_getElem hlt⟩
      have l2 : wr.cell? ⟨b, kk, none⟩ = some (.string r) := by rw [BW.out.cell (p := ⟨b, kk, none⟩) hb]; exact hc kk r hr
      have hcall := hp r (List.mem_of_getElem? hr) wr
      have HR := Lib.hid hr
      clear hp hc hr
      cases hq : p r with
      | true =>
        rw [hq] at hcall
        go_wp2_with (go_at_fn g; refine hcall.mono ?_; rintro e w1 ⟨rfl, hb1⟩)
        go_ret
        refine ⟨⟨kk, rfl, ?_⟩, ?_⟩
        · rw [List.any_eq_true.2 ⟨r, List.mem_of_getElem? HR.out, hq⟩]
          simp
        · exact BW.out.trans (hb1.mono BW.out.size)
      | false =>
        rw [hq] at hcall
        go_wp2_with (go_at_fn g; refine hcall.mono ?_; rintro e w1 ⟨rfl, hb1⟩)
        go_roundg (zs.length - (kk + 1))
        case measure => omega
        case rel =>
          refine ⟨kk + 1, hlt, by omega, by go_num, BW.out.trans (hb1.mono BW.out.size), fun j x hx hj => ?_⟩
          by_cases e : j = kk
          · subst e
            have := HR.out
            rw [hx] at this
            injection this with this
            rw [this]; exact hq
          · exact A.out j x hx (by omega)
    · have e : kk = zs.length := by omega
      subst e
      go_wp2
      go_ret
      refine ⟨⟨-1, rfl, ?_⟩, BW.out⟩
      have hn : zs.any p = false := by
        rw [List.any_eq_false]
        intro x hx
        obtain ⟨j, hj, rfl⟩ := List.mem_iff_getElem.1 hx
        rw [A.out j _ (List.getElem?_eq_getElem hj) hj]
        simp
      rw [hn]
      simp
set_option maxRecDepth 100000 in
theorem containsFunc_any (p : ByteArray → Bool) (zs : List ByteArray) (g : Nat) (eg : ∀ args w, (callFunc g args).run Tryd.prog w = .ok (.enter g args) w) (hp : PredS g p zs) (b : Nat) (w : World) (hbig : zs.length ≤ 9223372036854775807) (hb : b < w.heap.size)
    (hc : ∀ (j : Nat) (r : ByteArray), zs[j]? = some r → w.cell? ⟨b, j, none⟩ = some (.string r)) :
    Calls Tryd.prog 9 #[.slice (some ⟨b, 0, none⟩) zs.length zs.length, .func (.func g) #[] #[]] w fun e w' => e = .returned (.bool (zs.any p)) ∧ Below w.heap.size w w' := by
  have H := indexFunc_any p zs g eg hp b w hbig hb hc
  clear hp hc
  go_enter Tryd.func9, Tryd.ntmps9
  go_wp2_with (go_at_call 16; (with_reducible refine H.mono ?_); rintro e w1 ⟨⟨i, rfl, hi⟩, hb1⟩)
  go_ret
  exact ⟨by rw [← hi]; rfl, hb1⟩
end Go.Proofs.YtlemkphajmnbdaaDoor
