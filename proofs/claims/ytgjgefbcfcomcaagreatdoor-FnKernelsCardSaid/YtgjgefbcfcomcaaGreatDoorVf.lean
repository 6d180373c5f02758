/-
  The law's helpers on slices of sheets: alike, marked, held: contracts. No conditions.
-/
import Derived.Test.YtgjgefbcfcomcaaGreatDoorVe
import Derived.Deep.CutRange
namespace Go.Proofs.YtgjgefbcfcomcaaGreatDoor
open Go.RowKit
set_option linter.unusedSimpArgs false
set_option linter.unusedVariables false

theorem readsS_form {w : World} {v : Value} {L : List Nat} (h : ReadsS w v L) : ∃ a c, v = .slice a L.length c := by
  rcases h with ⟨rfl, rfl⟩ | ⟨g, cap, rfl, _, _⟩
  · exact ⟨none, 0, rfl⟩
  · exact ⟨_, cap, rfl⟩
theorem readsS_below {w w' : World} {v : Value} {L : List Nat} (h : ReadsS w v L) {N : Nat} (hb : Below N w w') (hN : ∀ g, v.ownBlock = some g → g < N) : ReadsS w' v L := by
  rcases h with h | ⟨g, cap, rfl, h2, h3⟩
  · exact .inl h
  · have hg := hN g rfl
    refine .inr ⟨g, cap, rfl, Nat.lt_of_lt_of_le h2 hb.size, fun j hj => ?_⟩
    obtain ⟨c0, c1, c2, c3, c4, c5⟩ := h3 j hj
    have hc : ∀ o, w'.cell? ⟨g, o, none⟩ = w.cell? ⟨g, o, none⟩ := fun o => hb.cell (p := ⟨g, o, none⟩) hg
    rw [hc, hc, hc, hc, hc, hc]
    exact ⟨c0, c1, c2, c3, c4, c5⟩
def EqRel (L : List Nat) (w : World) (i : Value) (wr : World) : Prop := ∃ k : Nat, k ≤ L.length ∧ i = .int .i64 (k : Int) ∧ Below w.heap.size w wr
/-- the first m cells of the block g hold 1, 2 ..; n cells are there -/
structure Mrk (w : World) (g n m : Nat) : Prop where
  held : ∀ j, j < m → w.cell? ⟨g, j, none⟩ = some (.int .i64 ((j : Int) + 1))
  some : ∀ j, j < n → ∃ u, w.cell? ⟨g, j, none⟩ = some u
  free : ∀ j, w.frozen? ⟨g, j, none⟩ = false
theorem Mrk.set {w : World} {g n m : Nat} (h : Mrk w g n m) (hm : m < n) : Mrk (w.setCell ⟨g, m, none⟩ (.int .i64 ((m : Int) + 1))) g n (m + 1) := by
  obtain ⟨u, hu⟩ := h.some m hm
  refine ⟨fun j hj => ?_, fun j hj => ?_, fun j => by rw [World.frozen?_setCell]; exact h.free j⟩
  · rw [set_at hu j]
    by_cases e : j = m
    · rw [if_pos e, e]
    · rw [if_neg e]; exact h.held j (by omega)
  · rw [set_at hu j]
    by_cases e : j = m
    · rw [if_pos e]; exact ⟨_, rfl⟩
    · rw [if_neg e]; exact h.some j hj
theorem Mrk.below {w w' : World} {N g n m : Nat} (h : Mrk w g n m) (hb : Below N w w') (hg : g < N) : Mrk w' g n m := by
  have hc : ∀ o, w'.cell? ⟨g, o, none⟩ = w.cell? ⟨g, o, none⟩ := fun o => hb.cell (p := ⟨g, o, none⟩) hg
  exact ⟨fun j hj => by rw [hc]; exact h.held j hj, fun j hj => by rw [hc]; exact h.some j hj, fun j => by rw [hb.frozen (p := ⟨g, j, none⟩) hg]; exact h.free j⟩
theorem mrk_start {w : World} {B g n cap : Nat} {L : List Nat} (h : OwnsS w B (.slice (some ⟨g, 0, none⟩) n cap) L) (hn : n = L.length) : Mrk w g (n * 6) 0 := by
  refine ⟨fun j hj => by omega, fun j hj => ?_, fun j => h.free hn j⟩
  subst hn
  obtain ⟨c0, c1, c2, c3, c4, c5⟩ := h.cellsAt (j / 6) (by omega)
  obtain ⟨q, r, hj', hr⟩ : ∃ q r, j = q * 6 + r ∧ r < 6 := ⟨j / 6, j % 6, by omega, by omega⟩
  have hq : j / 6 = q := by omega
  rw [hq] at c0 c1 c2 c3 c4 c5
  subst hj'
  rcases (by omega : r = 0 ∨ r = 1 ∨ r = 2 ∨ r = 3 ∨ r = 4 ∨ r = 5) with rfl | rfl | rfl | rfl | rfl | rfl
  · exact ⟨_, c0⟩
  · exact ⟨_, c1⟩
  · exact ⟨_, c2⟩
  · exact ⟨_, c3⟩
  · exact ⟨_, c4⟩
  · exact ⟨_, c5⟩
def MkRel (g n : Nat) (w : World) (kv i : Value) (wr : World) : Prop := ∃ k : Nat, k ≤ n ∧ i = .int .i64 (k : Int) ∧ kv = .int .i64 (((k * 6 : Nat) : Int) + 1) ∧ Mrk wr g (n * 6) (k * 6) ∧ g < wr.heap.size ∧ Below g w wr
def MkIn (g n k : Nat) (w : World) (kv j : Value) (wr : World) : Prop := ∃ m : Nat, m ≤ 6 ∧ j = .int .i64 (m : Int) ∧ kv = .int .i64 (((k * 6 + m : Nat) : Int) + 1) ∧ Mrk wr g (n * 6) (k * 6 + m) ∧ g < wr.heap.size ∧ Below g w wr
def HdRel (n : Nat) (kv i : Value) : Prop := ∃ k : Nat, k ≤ n ∧ i = .int .i64 (k : Int) ∧ kv = .int .i64 (((k * 6 : Nat) : Int) + 1)
def HdIn (k : Nat) (kv j : Value) : Prop := ∃ m : Nat, m ≤ 6 ∧ j = .int .i64 (m : Int) ∧ kv = .int .i64 (((k * 6 + m : Nat) : Int) + 1)
end Go.Proofs.YtgjgefbcfcomcaaGreatDoor
