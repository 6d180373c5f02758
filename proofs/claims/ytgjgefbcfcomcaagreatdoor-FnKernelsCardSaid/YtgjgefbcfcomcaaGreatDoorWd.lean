/-
  The law's helpers on a slice of sheets that is an argument: its size, its copy: contracts. No conditions.
-/
import Derived.Test.YtgjgefbcfcomcaaGreatDoorWb
import Derived.Test.YtgjgefbcfcomcaaGreatDoorUc
import Derived.Deep.CutRange
namespace Go.Proofs.YtgjgefbcfcomcaaGreatDoor
open Go.RowKit
set_option linter.unusedSimpArgs false
set_option linter.unusedVariables false

/-- the first m cells of the block g hold the numbers Z; n cells are there -/
structure CpZ (w : World) (g n m : Nat) (Z : List Int) : Prop where
  held : ∀ j, j < m → w.cell? ⟨g, j, none⟩ = some (.int .i64 (Z.getD j 0))
  some : ∀ j, j < n → ∃ u, w.cell? ⟨g, j, none⟩ = some u
  free : ∀ j, w.frozen? ⟨g, j, none⟩ = false
theorem CpZ.set {w : World} {g n m : Nat} {Z : List Int} (h : CpZ w g n m Z) (hm : m < n) {z : Int} (hz : Z.getD m 0 = z) : CpZ (w.setCell ⟨g, m, none⟩ (.int .i64 z)) g n (m + 1) Z := by
  obtain ⟨u, hu⟩ := h.some m hm
  refine ⟨fun j hj => ?_, fun j hj => ?_, fun j => by rw [World.frozen?_setCell]; exact h.free j⟩
  · rw [set_at hu j]
    by_cases e : j = m
    · rw [if_pos e, e, hz]
    · rw [if_neg e]; exact h.held j (by omega)
  · rw [set_at hu j]
    by_cases e : j = m
    · rw [if_pos e]; exact ⟨_, rfl⟩
    · rw [if_neg e]; exact h.some j hj
theorem CpZ.below {w w' : World} {N g n m : Nat} {Z : List Int} (h : CpZ w g n m Z) (hb : Below N w w') (hg : g < N) : CpZ w' g n m Z := by
  have hc : ∀ o, w'.cell? ⟨g, o, none⟩ = w.cell? ⟨g, o, none⟩ := fun o => hb.cell (p := ⟨g, o, none⟩) hg
  exact ⟨fun j hj => by rw [hc]; exact h.held j hj, fun j hj => by rw [hc]; exact h.some j hj, fun j => by rw [hb.frozen (p := ⟨g, j, none⟩) hg]; exact h.free j⟩
theorem cpZ_start {w : World} {B g n cap : Nat} {e : TypeId} {xs : List Value} {Z : List Int} (h : w.ownsRow B e 6 (.slice (some ⟨g, 0, none⟩) n cap) n xs) : CpZ w g (n * 6) 0 Z := by
  refine ⟨fun j hj => by omega, fun j hj => ?_, fun j => World.ownsRow.frozenAt h j⟩
  have hl : j < xs.length := by rw [h.1]; exact hj
  have := h.cells (g := g) rfl j xs[j] (List.getElem?_eq_getElem hl)
  have e1 : (⟨g, 0, none⟩ : Addr).add j = ⟨g, j, none⟩ := by
    unfold Addr.add
    split <;> simp_all
  rw [e1] at this
  exact ⟨_, this⟩
/-- the argument: n sheets, valid or not, whose numbers are Z -/
def ReadsA (w : World) (a : Option Addr) (n : Nat) (Z : List Int) : Prop := 0 < n → ∃ g o : Nat, a = some ⟨g, o, none⟩ ∧ g < w.heap.size ∧ ∀ j, j < n * 6 → w.cell? ⟨g, o + j, none⟩ = some (.int .i64 (Z.getD j 0))
theorem ReadsA.below {w w' : World} {a : Option Addr} {n : Nat} {Z : List Int} (h : ReadsA w a n Z) (hb : Below w.heap.size w w') : ReadsA w' a n Z := fun hn => by
  obtain ⟨g, o, h1, h2, h3⟩ := h hn
  exact ⟨g, o, h1, Nat.lt_of_lt_of_le h2 hb.size, fun j hj => (hb.cell (p := ⟨g, o + j, none⟩) h2).trans (h3 j hj)⟩
theorem readsZ_mv {w w' : World} {v : Value} {n : Nat} {Z : List Int} (h : ReadsZ w v n Z) (hb : Below w.heap.size w w') : ReadsZ w' v n Z := by
  rcases h with h | ⟨g, cap, h1, h2, h3⟩
  · exact .inl h
  · exact .inr ⟨g, cap, h1, Nat.lt_of_lt_of_le h2 hb.size, fun j hj => (hb.cell (p := ⟨g, j, none⟩) h2).trans (h3 j hj)⟩
def ToRel (g n : Nat) (Z : List Int) (w : World) (i : Value) (wr : World) : Prop := ∃ k : Nat, k ≤ n ∧ i = .int .i64 (k : Int) ∧ CpZ wr g (n * 6) (k * 6) Z ∧ g < wr.heap.size ∧ Below w.heap.size w wr
def EzRel (n : Nat) (w : World) (i : Value) (wr : World) : Prop := ∃ k : Nat, k ≤ n ∧ i = .int .i64 (k : Int) ∧ Below w.heap.size w wr
set_option maxRecDepth 100000 in
theorem implQuiet_long (a : Option Addr) (n c : Nat) (hn : 6 < n) (w : World) : Calls Tryz.prog 25 #[.slice a n c] w fun e w' => e = .returned (.tuple #[.int .i64 0, .bool false]) ∧ Below w.heap.size w w' := by
  have h : (6 : Int) < (n : Int) := by omega
  go_enter Tryz.func25, Tryz.ntmps25
  go_wp2
  go_ret2
  exact ⟨rfl, Below.refl _ _⟩
set_option maxRecDepth 100000 in
theorem specQuiet_long (a : Option Addr) (n c : Nat) (hn : 6 < n) (w : World) : Calls Tryz.prog 26 #[.slice a n c] w fun e w' => e = .returned (.tuple #[.int .i64 0, .bool false]) ∧ Below w.heap.size w w' := by
  have h : (6 : Int) < (n : Int) := by omega
  go_enter Tryz.func26, Tryz.ntmps26
  go_wp2
  go_ret2
  exact ⟨rfl, Below.refl _ _⟩
/-- the valid sheets at the head of a row -/
theorem pre_ex (Z : List Int) : ∀ n, ∃ (k0 : Nat) (Xs : List Nat), k0 ≤ n ∧ Xs.length = k0 ∧ (∀ k, k < k0 → OkAt Z k (Xs.getD k 0)) ∧ (k0 < n → ∀ k, k = k0 → ¬ Ok6 (Z.getD (k * 6) 0) (Z.getD (k * 6 + 1) 0) (Z.getD (k * 6 + 2) 0) (Z.getD (k * 6 + 3) 0) (Z.getD (k * 6 + 4) 0) (Z.getD (k * 6 + 5) 0))
  | 0 => ⟨0, [], Nat.le_refl _, rfl, fun k hk => by omega, fun h => by omega⟩
  | n + 1 => by
    obtain ⟨k0, Xs, h1, h2, h3, h4⟩ := pre_ex Z n
    by_cases hlt : k0 < n
    · exact ⟨k0, Xs, by omega, h2, h3, fun _ => h4 hlt⟩
    · have e : k0 = n := by omega
      by_cases hok : ∀ k, k = n → Ok6 (Z.getD (k * 6) 0) (Z.getD (k * 6 + 1) 0) (Z.getD (k * 6 + 2) 0) (Z.getD (k * 6 + 3) 0) (Z.getD (k * 6 + 4) 0) (Z.getD (k * 6 + 5) 0)
      · have ho := hok n rfl
        obtain ⟨X, hX, r⟩ := set_of_rows (Z.getD (n * 6) 0) (Z.getD (n * 6 + 1) 0) (Z.getD (n * 6 + 2) 0) (Z.getD (n * 6 + 3) 0) (Z.getD (n * 6 + 4) 0) (Z.getD (n * 6 + 5) 0) ho.1 ho.2.1 ho.2.2.1 ho.2.2.2.1 ho.2.2.2.2.1 ho.2.2.2.2.2
        refine ⟨n + 1, Xs ++ [X], Nat.le_refl _, by rw [List.length_append, h2, e]; rfl, fun k hk => ?_, fun h => by omega⟩
        by_cases hkn : k < n
        · have := h3 k (by omega)
          rwa [List.getD_eq_getElem?_getD, List.getElem?_append_left (by omega), ← List.getD_eq_getElem?_getD]
        · have hk2 : k = n := by omega
          subst hk2
          rw [List.getD_eq_getElem?_getD, List.getElem?_append_right (by omega), show k - Xs.length = 0 by omega]
          exact ⟨hX, r⟩
      · refine ⟨k0, Xs, by omega, h2, h3, fun _ k hk ho => hok fun k' hk' => ?_⟩
        rw [hk', ← e, ← hk]
        exact ho
end Go.Proofs.YtgjgefbcfcomcaaGreatDoor
