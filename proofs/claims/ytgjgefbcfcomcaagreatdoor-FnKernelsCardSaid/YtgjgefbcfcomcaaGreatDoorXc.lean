/-
  The reference's draws of a stamp and a target, and of a stamp and presses: they leave any two sheets, and old memory as it was. No conditions.
-/
import Derived.Test.YtgjgefbcfcomcaaGreatDoorXb
import Derived.Test.YtgjgefbcfcomcaaGreatDoorGb
namespace Go.Proofs.YtgjgefbcfcomcaaGreatDoor
open Go.RowKit
set_option linter.unusedSimpArgs false
set_option linter.unusedVariables false

theorem CodeB.below {w W : World} {C len : Nat} {cv : Value} (h : CodeB w w.heap.size cv len) (hb : Below w.heap.size w W) (hC : w.heap.size ≤ C) : CodeB W C cv len := by
  rcases h with h | ⟨cb, co, cap, h1, h2, h3⟩
  · exact .inl h
  · refine .inr ⟨cb, co, cap, h1, by omega, fun j hj => ?_⟩
    obtain ⟨z, hz⟩ := h3 j hj
    exact ⟨z, by rw [hb.cell (p := ⟨cb, co + j, none⟩) h2]; exact hz⟩
theorem CodeB.moved {w W : World} {len : Nat} {cv : Value} (h : CodeB w w.heap.size cv len) (hb : Below w.heap.size w W) : CodeB W W.heap.size cv len := by
  rcases h with h | ⟨cb, co, cap, h1, h2, h3⟩
  · exact .inl h
  · refine .inr ⟨cb, co, cap, h1, Nat.lt_of_lt_of_le h2 hb.size, fun j hj => ?_⟩
    obtain ⟨z, hz⟩ := h3 j hj
    exact ⟨z, by rw [hb.cell (p := ⟨cb, co + j, none⟩) h2]; exact hz⟩
theorem Cur.boxed' {w W : World} {C len T : Nat} {cv : Value} (h : CodeB w w.heap.size cv len) (hb : Below w.heap.size w W) (hC : C = W.heap.size) (hT : T = 51 := by rfl) : Cur (W.alloc (.cells #[cv, .int .i64 0, .int .u64 0] T)) C cv len 0 := by
  subst hC hT
  exact ⟨0, 0, heap_alloc_new W _, Nat.le_refl _, h.below (hb.alloc hb.size _) hb.size⟩
theorem below_grown {w W w' : World} {C : Nat} (hb : Below w.heap.size w W) (hg : W.grownBy w' (some C)) (hC : w.heap.size ≤ C) : Below w.heap.size w w' :=
  hb.grown hg hb.size (fun k hk => by injection hk with hk; omega)
theorem HoldsA.far6 {w : World} {T B D : Nat} {a0 a1 a2 a3 a4 a5 : Int} (h : HoldsA w T B a0 a1 a2 a3 a4 a5) (hne : B ≠ D) (b0 b1 b2 b3 b4 b5 : Int) :
    HoldsA ((((((w.setCell ⟨D, 0, none⟩ (.int .i64 b0)).setCell ⟨D, 1, none⟩ (.int .i64 b1)).setCell ⟨D, 2, none⟩ (.int .i64 b2)).setCell ⟨D, 3, none⟩ (.int .i64 b3)).setCell ⟨D, 4, none⟩ (.int .i64 b4)).setCell ⟨D, 5, none⟩ (.int .i64 b5)) T B a0 a1 a2 a3 a4 a5 :=
  (((((h.far _ _ hne).far _ _ hne).far _ _ hne).far _ _ hne).far _ _ hne).far _ _ hne
def Two6 (w : World) (e : Ending) (w' : World) : Prop := ∃ a0 a1 a2 a3 a4 a5 b0 b1 b2 b3 b4 b5 : Int, e = .returned (.tuple #[.agg #[.int .i64 a0, .int .i64 a1, .int .i64 a2, .int .i64 a3, .int .i64 a4, .int .i64 a5], .agg #[.int .i64 b0, .int .i64 b1, .int .i64 b2, .int .i64 b3, .int .i64 b4, .int .i64 b5]]) ∧ Below w.heap.size w w'

theorem rBig_any (cv : Value) (len : Nat) (w : World) (hcode : CodeB w w.heap.size cv len) : Calls Tryz.prog 4 #[cv] w fun e w' => e = .returned (.bool (decide ((65536 : Int) < (len : Int)))) ∧ w' = w := by
  rcases hcode with ⟨hE, hL⟩ | ⟨cb, co, cap, hE, _, _⟩
  all_goals
    subst hE
    go_enter Tryz.func4, Tryz.ntmps4
    go_wp2
    go_ret
    exact ⟨by simp [*], rfl⟩
end Go.Proofs.YtgjgefbcfcomcaaGreatDoor
