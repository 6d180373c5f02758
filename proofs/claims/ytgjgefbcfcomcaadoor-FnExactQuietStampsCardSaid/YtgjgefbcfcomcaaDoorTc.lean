/-
  The program's table of prints: contracts of add. Under: the library's own table of the lowest bits lies as its initialiser lays it.
-/
import Derived.Test.YtgjgefbcfcomcaaDoorTb
namespace Go.Proofs.YtgjgefbcfcomcaaDoor
open Go.RowKit
set_option linter.unusedSimpArgs false
set_option linter.unusedVariables false

theorem grown_cell {W w' : World} {v : Value} (hg : W.grownBy w' v.ownBlock) (T o : Nat) (hT : T < W.heap.size) (hne : ∀ j, v.ownBlock = some j → T + 1 ≤ j) : w'.cell? ⟨T, o, none⟩ = W.cell? ⟨T, o, none⟩ ∧ w'.frozen? ⟨T, o, none⟩ = W.frozen? ⟨T, o, none⟩ := by
  have hb := hg.block T hT (fun h => by have := hne T h.symm; omega)
  constructor
  · unfold World.cell?
    rw [show (⟨T, o, none⟩ : Addr).block = T from rfl, hb]
  · unfold World.frozen?
    rw [show (⟨T, o, none⟩ : Addr).block = T from rfl, hb]
theorem undrew {a w : World} {row : Option Nat} (h : a.drew.grownBy w row) : a.grownBy w row := ⟨h.os, h.tape, h.output, h.size, h.block⟩
theorem owns_slice {w : World} {base size n : Nat} {e : TypeId} {v : Value} {xs : List Value} (h : w.ownsRow base e size v n xs) : ∃ a c, v = .slice a n c := by
  rcases h.2 with ⟨h1, h2⟩ | ⟨g, cap, cur, hv, _⟩
  · subst h2
    exact ⟨none, 0, h1⟩
  · exact ⟨_, _, hv⟩
theorem TblAt.grown {W w' : World} {T : Nat} {P Q : Nat → Nat} {L : List Nat} {v v' : Value} (hp : PrsAt W T P Q) (hfz : ∀ o, W.frozen? ⟨T, o, none⟩ = false) (h72 : W.cell? ⟨T, 72, none⟩ = some v) (hg : W.grownBy w' v.ownBlock) (hne : ∀ j, v.ownBlock = some j → T + 1 ≤ j)
    (ho : w'.ownsRow (T + 1) 57 1 v' L.length (usV L)) : TblAt (w'.setCell ⟨T, 72, none⟩ v') T P Q L := by
  have hT := hp.lt
  have e72 := (grown_cell hg T 72 hT hne).1.trans h72
  refine ⟨PrsAt.quiet (fun j hj => ⟨(grown_cell hg T _ hT hne).1.trans (hp j hj).1, (grown_cell hg T _ hT hne).1.trans (hp j hj).2⟩) e72 v', ⟨v', by rw [set_at e72, if_pos rfl], owns_move ho fun k hk _ => Below.heap_setCell _ _ _ _ (by show k ≠ T; omega)⟩, fun o => by rw [World.frozen?_setCell]; exact (grown_cell hg T o hT hne).2.trans (hfz o)⟩
set_option maxRecDepth 100000 in
theorem add_quiet (T : Nat) (P Q : Nat → Nat) (L : List Nat) (p q : Nat) (hp : Vs p) (hq : Vs q) (hv : ∀ k, k < 36 → Vs (P k) ∧ Vs (Q k)) (hL : L.length ≤ 1000) (w : World) (h : TblAt w T P Q L) (h0 : (rdN P Q p q 36).1 = 0) :
    Calls Tryd.prog 87 #[.pointer (some ⟨T, 0, none⟩), .agg #[.int .u64 (p : Int), .int .u64 (q : Int)]] w
      fun e w' => e = .returned (.tuple #[]) ∧ TblAt w' T P Q (L ++ [(rdN P Q p q 36).2]) ∧ Below T w w' := by
  obtain ⟨i0, hi, iz0, iz1, iz2⟩ := info_parts infoSet
  have hT := h.1.lt
  have HH := Lib.hid h
  have hR := Lib.hid (fun W h => reduced_any T P Q p q hp hq hv W h)
  rw [h0] at hR
  have hA : TblAt (w.alloc (.cells #[.int .u64 (p : Int), .int .u64 (q : Int)] 68)) T P Q L := h.below ((Below.refl _ _).alloc (Nat.le_refl _) _) (Nat.le_refl _)
  have hA1 := hA.1
  have HA := Lib.hid hA
  have hU : HoldsU (w.alloc (.cells #[.int .u64 (p : Int), .int .u64 (q : Int)] 68)) w.heap.size (p : Int) (q : Int) := HoldsU.made' rfl
  have hsA : (w.alloc (.cells #[.int .u64 (p : Int), .int .u64 (q : Int)] 68)).heap.size = w.heap.size + 1 := World.size_alloc _ _
  clear h hp hq hv hA
  go_enter Tryd.func87, Tryd.ntmps87
  go_wp2_with (go_at_call 79; (with_reducible refine (hR.out _ hA1).mono ?_); rintro e w1 ⟨rfl, hb⟩; have hsz1 := hb.size; rw [hsA] at hsz1; have hU1 := hU.below hb (by rw [hsA]; omega); have hu0 := hU1.c0; have hu1 := hU1.c1; have huf := hU1.free)
  have hB2 : Below w.heap.size w ((w1.setCell ⟨w.heap.size, 0, none⟩ (.int .u64 0)).setCell ⟨w.heap.size, 1, none⟩ (.int .u64 ((rdN P Q p q 36).2 : Int))) := (by repeat (first | with_reducible exact Below.refl _ _ | with_reducible assumption | with_reducible refine Below.drew ?_ | with_reducible refine below_drewN ?_ _ | with_reducible refine Below.alloc ?_ ?_ _ | with_reducible refine Below.setCell ?_ ?_ _ | with_reducible refine Below.trans ?_ (Below.mono (by assumption) ?_) | omega | (simp <;> omega)))
  have hU2 := hU1.store 0 ((rdN P Q p q 36).2 : Int)
  have hA2 := HH.out.below hB2 (Nat.le_refl _)
  have hz2 := hB2.size
  generalize (w1.setCell ⟨w.heap.size, 0, none⟩ (.int .u64 0)).setCell ⟨w.heap.size, 1, none⟩ (.int .u64 ((rdN P Q p q 36).2 : Int)) = w2 at *
  obtain ⟨hpr, ⟨v, hv72, hown⟩, hfz⟩ := hA2
  have hc0 := hU2.c0
  have hc1 := hU2.c1
  have hcl := hU2.lt
  have hTl := hpr.lt
  have HP := Lib.hid hpr
  have HB := Lib.hid hB2
  clear hpr hB2 hU2 hU hU1 hu0 hu1 huf hb hsz1 HA hA1 hsA
  go_region_law (refine step_append_own rfl (.tmp 14) (.tmp 17) 70 rfl (T + 1) 57 i0 (.int .u64 0) 1 8 Tryd.underlying70 hi iz0 iz1 iz2 rfl (by decide) v L.length (usV L) (by simp [Act.eval, Act.put]) (World.ownsRow.alloc hown _) ⟨w2.heap.size, 0, none⟩ 1 1 [.int .u64 ((rdN P Q p q 36).2 : Int)] (by simp [Act.eval, Act.put]) rfl (cell_one_new _ _ _) (by simp [Value.oneCell']) (by unfold maxLen; omega) (by omega) (by simp; omega) ?_; intro v' w' hown' hgrow; obtain ⟨av, cv, rfl⟩ := owns_slice hown'; have hT72 := (grown_cell hgrow T 72 (by simp; omega) (fun j hj => (hown.lt j hj).1)).1.trans ((World.cell?_alloc_past _ T 72 (by show T < w2.heap.size; omega)).trans hv72); have hTfz := (grown_cell hgrow T 72 (by simp; omega) (fun j hj => (hown.lt j hj).1)).2.trans ((World.frozen?_alloc_past _ T 72 (by show T < w2.heap.size; omega)).trans (hfz 72)))
  all_goals
    go_wp2
    have hG := undrew hgrow
    have hBT : Below T w (w'.setCell ⟨T, 72, none⟩ (.slice av (L.length + 1) cv)) := (((HB.out.mono (Nat.le_of_lt hT)).alloc (by omega) _).grown hG (by simp; omega) (fun j hj => by have := (hown.lt j hj).1; omega)).setCell (Nat.le_refl _) _
    exact bodyPost_ret (v := .tuple #[]) (by simp [results, Tryd.results87, go_sem, *]) rfl ⟨rfl, TblAt.grown (fun j hj => ⟨(World.cell?_alloc_past _ T _ hTl).trans (HP.out j hj).1, (World.cell?_alloc_past _ T _ hTl).trans (HP.out j hj).2⟩) (fun o => (World.frozen?_alloc_past _ T o hTl).trans (hfz o)) ((World.cell?_alloc_past _ T 72 hTl).trans hv72) hG (fun j hj => (hown.lt j hj).1) (by simpa [usV] using hown'), hBT⟩
theorem TblAt.store {w : World} {T : Nat} {P Q : Nat → Nat} {L : List Nat} (h : TblAt w T P Q L) (k a b : Nat) (hk : k < 36) :
    TblAt ((w.setCell ⟨T, k * 2, none⟩ (.int .u64 (a : Int))).setCell ⟨T, k * 2 + 1, none⟩ (.int .u64 (b : Int))) T (upN P k a) (upN Q k b) L := by
  obtain ⟨c0, c1⟩ := h.1 k hk
  have c1' : (w.setCell ⟨T, k * 2, none⟩ (.int .u64 (a : Int))).cell? ⟨T, k * 2 + 1, none⟩ = some (.int .u64 (Q k : Int)) := by rw [set_at c0, if_neg (by omega)]; exact c1
  obtain ⟨h1, ⟨v, h2, h3⟩, h4⟩ := h
  refine ⟨h1.store k a b hk, ⟨v, ?_, owns_move h3 fun j hj _ => ?_⟩, fun o => ?_⟩
  · rw [set_at c1', set_at c0, if_neg (by omega), if_neg (by omega)]
    exact h2
  · rw [Below.heap_setCell _ _ _ _ (by show j ≠ T; omega), Below.heap_setCell _ _ _ _ (by show j ≠ T; omega)]
  · rw [World.frozen?_setCell, World.frozen?_setCell]
    exact h4 o
set_option maxRecDepth 100000 in
theorem add_pair (T : Nat) (P Q : Nat → Nat) (L : List Nat) (p q : Nat) (hp : Vs p) (hq : Vs q) (hv : ∀ k, k < 36 → Vs (P k) ∧ Vs (Q k)) (w : World) (h : TblAt w T P Q L) (hz : TabZ w) (h0 : (rdN P Q p q 36).1 ≠ 0) :
    Calls Tryd.prog 87 #[.pointer (some ⟨T, 0, none⟩), .agg #[.int .u64 (p : Int), .int .u64 (q : Int)]] w
      fun e w' => e = .returned (.tuple #[]) ∧ TblAt w' T (upN P (Lib.ctz 64 (rdN P Q p q 36).1) (rdN P Q p q 36).1) (upN Q (Lib.ctz 64 (rdN P Q p q 36).1) (rdN P Q p q 36).2) L ∧ Below T w w' := by
  have hT := h.1.lt
  have HH := Lib.hid h
  have hR := Lib.hid (fun W h => reduced_any T P Q p q hp hq hv W h)
  obtain ⟨v1, _⟩ := rdN_vs hp hq hv 36 (Nat.le_refl _)
  obtain ⟨hk36, _, _⟩ := ctz_low _ v1 h0
  have hTZ := tz_any _ v1 h0
  have hzl := hz.lt
  have hZ := Lib.hid hz
  clear hz v1
  generalize Lib.ctz 64 (rdN P Q p q 36).1 = k at *
  generalize (rdN P Q p q 36).1 = a at *
  generalize (rdN P Q p q 36).2 = b at *
  have hTZ' := Lib.hid hTZ
  have hkI : ((k : Nat) : Int) < 36 := by omega
  have h0I : ¬ (((a : Nat) : Int) = 0) := by omega
  have h0b : (((a : Nat) : Int) == 0) = false := by rw [beq_eq_false_iff_ne]; exact h0I
  have hA : TblAt (w.alloc (.cells #[.int .u64 (p : Int), .int .u64 (q : Int)] 68)) T P Q L := h.below ((Below.refl _ _).alloc (Nat.le_refl _) _) (Nat.le_refl _)
  have hA1 := hA.1
  have hU : HoldsU (w.alloc (.cells #[.int .u64 (p : Int), .int .u64 (q : Int)] 68)) w.heap.size (p : Int) (q : Int) := HoldsU.made' rfl
  have hsA : (w.alloc (.cells #[.int .u64 (p : Int), .int .u64 (q : Int)] 68)).heap.size = w.heap.size + 1 := World.size_alloc _ _
  clear h hp hq hv hA hTZ
  go_enter Tryd.func87, Tryd.ntmps87
  go_wp2_with (go_at_call 79; (with_reducible refine (hR.out _ hA1).mono ?_); rintro e w1 ⟨rfl, hb⟩; have hsz1 := hb.size; rw [hsA] at hsz1; have hU1 := hU.below hb (by rw [hsA]; omega); have hu0 := hU1.c0; have hu1 := hU1.c1; have huf := hU1.free)
  have hB2 : Below w.heap.size w ((w1.setCell ⟨w.heap.size, 0, none⟩ (.int .u64 (a : Int))).setCell ⟨w.heap.size, 1, none⟩ (.int .u64 (b : Int))) := (by repeat (first | with_reducible exact Below.refl _ _ | with_reducible assumption | with_reducible refine Below.drew ?_ | with_reducible refine below_drewN ?_ _ | with_reducible refine Below.alloc ?_ ?_ _ | with_reducible refine Below.setCell ?_ ?_ _ | with_reducible refine Below.trans ?_ (Below.mono (by assumption) ?_) | omega | (simp <;> omega)))
  have hU2 := hU1.store (a : Int) (b : Int)
  have hA2 := HH.out.below hB2 (Nat.le_refl _)
  have hz2 := hB2.size
  have hTz2 := hZ.out.below hB2 hzl
  generalize (w1.setCell ⟨w.heap.size, 0, none⟩ (.int .u64 (a : Int))).setCell ⟨w.heap.size, 1, none⟩ (.int .u64 (b : Int)) = w2 at *
  have hc0 := hU2.c0
  have hc1 := hU2.c1
  have hcl := hU2.lt
  have hTl := hA2.1.lt
  have hk0 := (hA2.1 k hk36).1
  have hk1 := (hA2.1 k hk36).2
  have hfz := hA2.2.2
  have HA2 := Lib.hid hA2
  have HB := Lib.hid hB2
  have HZ := Lib.hid hTz2
  clear hB2 hU2 hU hU1 hu0 hu1 huf hb hsz1 hA2 hA1 hsA hTz2
  go_region_with (go_at_call 100; refine (hTZ'.out _ (by exact HZ.out)).mono ?_; rintro e w3 ⟨rfl, rfl⟩)
  all_goals
    go_wp2
    go_end0
    exact ⟨rfl, TblAt.store (w := w2.drew) (by exact HA2.out) k a b hk36, (((HB.out.mono (Nat.le_of_lt hT)).drew).setCell (Nat.le_refl _) _).setCell (Nat.le_refl _) _⟩
end Go.Proofs.YtgjgefbcfcomcaaDoor
