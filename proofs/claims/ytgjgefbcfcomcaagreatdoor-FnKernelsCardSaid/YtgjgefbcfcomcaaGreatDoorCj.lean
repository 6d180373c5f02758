/-
  The contract of the program's list: the black cells as a slice of the call's own. No conditions.
-/
import Derived.Test.YtgjgefbcfcomcaaGreatDoorCf
import Derived.OwnWalk
import Derived.Lib.SmallJoins
namespace Go.Proofs.YtgjgefbcfcomcaaGreatDoor
open Go.RowKit
set_option linter.unusedSimpArgs false
set_option linter.unusedVariables false

theorem infoInt : (Tryz.prog.info? 3).map (fun i => (i.zero, i.size, i.bytes)) = some (some (.int .i64 0), 1, 8) := by kernel_rfl

/-- the slice value v is no nil slice and holds the whole numbers of L -/
def OwnsInts (w : World) (B : Nat) (v : Value) (L : List Nat) : Prop :=
  w.ownsRow B 3 1 v L.length (L.map fun n : Nat => Value.int .i64 (n : Int)) ∧ v ≠ .slice none 0 0

theorem owns_below {w w1 : World} {base size n : Nat} {e : TypeId} {v : Value} {xs : List Value} (hb : Below w.heap.size w w1) (h : w.ownsRow base e size v n xs) : w1.ownsRow base e size v n xs := by
  obtain ⟨h1, h2⟩ := h
  refine ⟨h1, ?_⟩
  rcases h2 with h2 | ⟨g, cap, cur, hv, hg, hh, r⟩
  · exact .inl h2
  · exact .inr ⟨g, cap, cur, hv, hg, (hb.block g (Array.getElem?_eq_some_iff.1 hh).1).trans hh, r⟩

def ListRel (X : Nat) (w : World) (o i : Value) (wr : World) : Prop :=
  ∃ k : Nat, k ≤ 36 ∧ i = .int .i64 (k : Int) ∧ OwnsInts wr w.heap.size o (cellsN X k) ∧ Below w.heap.size w wr

/-- what list leaves -/
def ListEnd (X : Nat) (w : World) (e : Ending) (w' : World) : Prop :=
  ∃ v, e = .returned v ∧ OwnsInts w' w.heap.size v (cellsL X) ∧ Below w.heap.size w w'

theorem owns_empty (w : World) (B : Nat) (hB : B ≤ w.heap.size) : OwnsInts (w.alloc (.cells #[] 3)) B (.slice (some ⟨w.heap.size, 0, none⟩) 0 0) [] :=
  ⟨World.ownsRow_lit (e := 3) w #[] 0 hB (by unfold maxLen; omega) (by simp), by simp⟩

set_option maxRecDepth 100000 in
theorem list_any (X : Nat) (hX : Vs X) (w : World) : Calls Tryz.prog 66 #[.int .u64 (X : Int)] w (ListEnd X w) := by
  obtain ⟨i0, hi, iz0, iz1, iz2⟩ := info_parts infoInt
  go_enter Tryz.func66, Tryz.ntmps66
  go_wp2
  go_loopw [3, 6] (ListRel X w) (fun _ i _ => 36 - (intOf i).toNat)
  case atStart => exact ⟨0, Nat.zero_le _, rfl, owns_empty w _ (Nat.le_refl _), (by repeat (first | with_reducible exact Below.refl _ _ | with_reducible assumption | with_reducible refine Below.drew ?_ | with_reducible refine below_drewN ?_ _ | with_reducible refine Below.alloc ?_ ?_ _ | with_reducible refine Below.setCell ?_ ?_ _ | with_reducible refine Below.trans ?_ (Below.mono (by assumption) ?_) | omega | (simp <;> omega)))⟩
  case round =>
    obtain ⟨k, hk, rfl, ⟨hown, hnn⟩, hbw⟩ := hrel
    have hle := cellsN_le X k
    by_cases hlt : k < 36
    · have hlt' : (k : Int) < 36 := by omega
      cases hbit : X.testBit k with
      | true =>
        go_wp2_with (first | (go_at_call 81; (with_reducible refine (has_any _ _ (by assumption) (by assumption) _).mono ?_); rintro e w1 ⟨rfl, rfl⟩) | (at_builtin; refine wpList_append_own _ rfl _ _ 73 rfl w.heap.size 3 i0 (.int .i64 0) 1 8 Tryz.underlying73 hi iz0 iz1 iz2 rfl (by decide) _ _ _ rfl (hown.alloc _) ⟨wr.heap.size, 0, none⟩ 1 1 [.int .i64 (k : Int)] rfl rfl ?c1 ?c2 ?c3 ?c4 ?c5 ?_))
        case c1 =>
          intro j u hj
          match j, hj with
          | 0, hj => simp at hj; subst hj; simp [Addr.add]
        case c2 => intro u hu; simp at hu; subst hu; rfl
        case c3 => unfold maxLen; omega
        case c4 => omega
        case c5 => have := hbw.size; simp; omega
        intro v' w1 hown' hgrow hnil
        have hB : Below w.heap.size w w1 := (hbw.alloc hbw.size _).grown hgrow (by have := hbw.size; simp; omega) (fun j hj => (hown.lt j hj).1)
        have hN : v' ≠ .slice none 0 0 := fun h => by first | exact hnil h | exact hnn (hnil.1 h).1
        have hO : OwnsInts w1 w.heap.size v' (cellsN X (k + 1)) := by
          unfold cellsN OwnsInts
          rw [if_pos hbit]
          exact ⟨by simpa using hown', hN⟩
        clear hown' hgrow hnil hown hnn hN
        go_wp2
        go_roundw
        case rel => exact ⟨k + 1, by omega, by go_num, hO, hB⟩
        case measure => simp [intOf]; omega
      | false =>
        go_wp2_with (go_at_call 81; (with_reducible refine (has_any _ _ (by assumption) (by assumption) _).mono ?_); rintro e w1 ⟨rfl, rfl⟩)
        go_roundw
        case rel => exact ⟨k + 1, by omega, by go_num, by unfold cellsN; rw [if_neg (by rw [hbit]; decide)]; exact ⟨hown, hnn⟩, hbw⟩
        case measure => simp [intOf]; omega
    · have e : k = 36 := by omega
      subst e
      go_wp2
      go_ret
      exact ⟨_, rfl, ⟨hown, hnn⟩, hbw⟩
end Go.Proofs.YtgjgefbcfcomcaaGreatDoor
