/-
  The contract of the program's list: the black cells as a slice of the call's own. No conditions.
-/
import Derived.Test.YtlemkphajmnbdaaDoorCf
import Derived.OwnWalk
import Derived.Lib.SmallJoins
namespace Go.Proofs.YtlemkphajmnbdaaDoor
open Go.RowKit
set_option linter.unusedSimpArgs false
set_option linter.unusedVariables false

theorem infoInt : (Tryd.prog.info? 3).map (fun i => (i.zero, i.size, i.bytes)) = some (some (.int .i64 0), 1, 8) := by kernel_rfl

/-- the slice value v is no nil slice and holds the whole numbers of L -/
def OwnsInts (w : World) (B : Nat) (v : Value) (L : List Nat) : Prop :=
  w.ownsRow B 3 1 v L.length (L.map fun n : Nat => Value.int .i64 (n : Int)) ∧ v ≠ .slice none 0 0

theorem owns_below {w w1 : World} {base size n : Nat} {e : TypeId} {v : Value} {xs : List Value} (hb : Below w.heap.size w w1) (h : w.ownsRow base e size v n xs) : w1.ownsRow base e size v n xs := by
  obtain ⟨h1, h2⟩ := h
  refine ⟨h1, ?_⟩
  rcases h2 with h2 | ⟨g, cap, cur, hv, hg, hh, r⟩
  · exact .inl h2
  · exact .inr ⟨g, cap, cur, hv, hg, (hb.block g (Array.getElem?_eq_some_iff.1 hh).1).trans hh, r⟩

def ListRel (X : Nat) (w : World) (o i : Value) (wr : World) : Prop :=
  ∃ k : Nat, k ≤ 36 ∧ i = .int .i64 (k : Int) ∧ OwnsInts wr w.heap.size o (cellsN X k) ∧ Below w.heap.size w wr

/-- what list leaves -/
def ListEnd (X : Nat) (w : World) (e : Ending) (w' : World) : Prop :=
  ∃ v, e = .returned v ∧ OwnsInts w' w.heap.size v (cellsL X) ∧ Below w.heap.size w w'

theorem owns_empty (w : World) (B : Nat) (hB : B ≤ w.heap.size) : OwnsInts (w.alloc (.cells #[] 3)) B (.slice (some ⟨w.heap.size, 0, none⟩) 0 0) [] :=
  ⟨World.ownsRow_lit (e := 3) w #[] 0 hB (by unfold maxLen; omega) (by simp), by simp⟩

end Go.Proofs.YtlemkphajmnbdaaDoor
