/-
  Rows of pairs and of sheets that a call has made: reading, storing, growing. No conditions.
-/
import Derived.Test.YtgjgefbcfcomcaaGreatDoorUm
import Derived.Test.YtgjgefbcfcomcaaGreatDoorJC
namespace Go.Proofs.YtgjgefbcfcomcaaGreatDoor
open Go.RowKit
set_option linter.unusedSimpArgs false
set_option linter.unusedVariables false

theorem infoRow : (Tryz.prog.info? 84).map (fun i => (i.zero, i.size, i.bytes)) = some (some (.agg #[.int .i64 0, .int .i64 0, .int .i64 0, .int .i64 0, .int .i64 0, .int .i64 0, .int .i64 0, .int .i64 0, .int .i64 0, .int .i64 0, .int .i64 0, .int .i64 0]), 12, 96) := by kernel_rfl
theorem infoSheet : (Tryz.prog.info? 26).map (fun i => (i.zero, i.size, i.bytes)) = some (some (.agg #[.int .i64 0, .int .i64 0, .int .i64 0, .int .i64 0, .int .i64 0, .int .i64 0]), 6, 48) := by kernel_rfl
theorem prI_cons (r : Nat × Nat) (R : List (Nat × Nat)) : prI (r :: R) = [row r.1 0, row r.1 1, row r.1 2, row r.1 3, row r.1 4, row r.1 5, row r.2 0, row r.2 1, row r.2 2, row r.2 3, row r.2 4, row r.2 5] ++ prI R := rfl
theorem prI_snoc (R : List (Nat × Nat)) (r : Nat × Nat) : prI (R ++ [r]) = prI R ++ [row r.1 0, row r.1 1, row r.1 2, row r.1 3, row r.1 4, row r.1 5, row r.2 0, row r.2 1, row r.2 2, row r.2 3, row r.2 4, row r.2 5] := by unfold prI; simp
theorem prI_app (R S : List (Nat × Nat)) : prI (R ++ S) = prI R ++ prI S := by unfold prI; simp
theorem prI_len : ∀ R : List (Nat × Nat), (prI R).length = R.length * 12
  | [] => rfl
  | r :: R => by rw [prI_cons, List.length_append, prI_len R]; simp only [List.length_cons, List.length_nil]; omega
def shI (L : List Nat) : List Int := L.flatMap fun X => [row X 0, row X 1, row X 2, row X 3, row X 4, row X 5]
theorem shI_cons (X : Nat) (L : List Nat) : shI (X :: L) = [row X 0, row X 1, row X 2, row X 3, row X 4, row X 5] ++ shI L := rfl
theorem shI_snoc (L : List Nat) (X : Nat) : shI (L ++ [X]) = shI L ++ [row X 0, row X 1, row X 2, row X 3, row X 4, row X 5] := by unfold shI; simp
theorem shI_len : ∀ L : List Nat, (shI L).length = L.length * 6
  | [] => rfl
  | X :: L => by rw [shI_cons, List.length_append, shI_len L]; simp only [List.length_cons, List.length_nil]; omega
/-- the slice v is no nil slice and holds the rows R -/
def OwnsR (w : World) (B : Nat) (v : Value) (R : List (Nat × Nat)) : Prop := w.ownsRow B 84 12 v R.length ((prI R).map (Value.int .i64)) ∧ v ≠ .slice none 0 0
/-- the slice v is no nil slice and holds the sheets L -/
def OwnsS (w : World) (B : Nat) (v : Value) (L : List Nat) : Prop := w.ownsRow B 26 6 v L.length ((shI L).map (Value.int .i64)) ∧ v ≠ .slice none 0 0
theorem ownsR_empty (w : World) (B g : Nat) (hB : B ≤ w.heap.size) (hg : g = w.heap.size) : OwnsR (w.alloc (.cells #[] 84)) B (.slice (some ⟨g, 0, none⟩) 0 0) [] := by
  subst hg
  exact ⟨World.ownsRow_lit (e := 84) w #[] 0 hB (by unfold maxLen; omega) (by simp), by simp⟩
theorem ownsS_empty (w : World) (B g : Nat) (hB : B ≤ w.heap.size) (hg : g = w.heap.size) : OwnsS (w.alloc (.cells #[] 26)) B (.slice (some ⟨g, 0, none⟩) 0 0) [] := by
  subst hg
  exact ⟨World.ownsRow_lit (e := 26) w #[] 0 hB (by unfold maxLen; omega) (by simp), by simp⟩
theorem OwnsR.alloc {w : World} {B : Nat} {v : Value} {R : List (Nat × Nat)} (h : OwnsR w B v R) (o : Obj) : OwnsR (w.alloc o) B v R := ⟨h.1.alloc o, h.2⟩
theorem OwnsS.alloc {w : World} {B : Nat} {v : Value} {L : List Nat} (h : OwnsS w B v L) (o : Obj) : OwnsS (w.alloc o) B v L := ⟨h.1.alloc o, h.2⟩
theorem OwnsR.below {w w1 : World} {B : Nat} {v : Value} {R : List (Nat × Nat)} (h : OwnsR w B v R) (hb : Below w.heap.size w w1) : OwnsR w1 B v R := ⟨owns_move h.1 fun k _ hk => hb.block k hk, h.2⟩
theorem OwnsS.below {w w1 : World} {B : Nat} {v : Value} {L : List Nat} (h : OwnsS w B v L) (hb : Below w.heap.size w w1) : OwnsS w1 B v L := ⟨owns_move h.1 fun k _ hk => hb.block k hk, h.2⟩
/-- rows of different types are different blocks -/
theorem owns_apart {w : World} {B B' n n' s s' : Nat} {e e' : TypeId} {v v' : Value} {xs xs' : List Value} (h : w.ownsRow B e s v n xs) (h' : w.ownsRow B' e' s' v' n' xs') (hv : v ≠ .slice none 0 0) (he : e ≠ e') : v.ownBlock ≠ v'.ownBlock := by
  rcases h.2 with ⟨h1, _⟩ | ⟨g, cap, cur, rfl, _, hh, _⟩
  · exact absurd h1 hv
  rcases h'.2 with ⟨rfl, _⟩ | ⟨g', cap', cur', rfl, _, hh', _⟩
  · simp [Value.ownBlock]
  · intro hg
    have : g = g' := by simpa [Value.ownBlock] using hg
    subst this
    rw [hh] at hh'
    injection hh' with hh'
    injection hh' with _ ht
    exact he ht
theorem OwnsR.form {w : World} {B : Nat} {v : Value} {R : List (Nat × Nat)} (h : OwnsR w B v R) : ∃ g cap, v = .slice (some ⟨g, 0, none⟩) R.length cap ∧ B ≤ g ∧ g < w.heap.size := by
  rcases h.1.2 with ⟨h1, _⟩ | ⟨g, cap, cur, hv, hg, hh, _⟩
  · exact absurd h1 h.2
  · exact ⟨g, cap, hv, hg, (Array.getElem?_eq_some_iff.1 hh).1⟩
theorem prI_shift (r : Nat × Nat) (R : List (Nat × Nat)) (n : Nat) : (prI (r :: R))[12 + n]? = (prI R)[n]? := by
  rw [prI_cons, List.getElem?_append_right (by simp)]
  simp
theorem prI_get : ∀ (R : List (Nat × Nat)) (j : Nat), j < R.length → (prI R)[j * 12]? = some (row (R.getD j (0, 0)).1 0) ∧ (prI R)[j * 12 + 1]? = some (row (R.getD j (0, 0)).1 1) ∧ (prI R)[j * 12 + 2]? = some (row (R.getD j (0, 0)).1 2) ∧ (prI R)[j * 12 + 3]? = some (row (R.getD j (0, 0)).1 3) ∧ (prI R)[j * 12 + 4]? = some (row (R.getD j (0, 0)).1 4) ∧ (prI R)[j * 12 + 5]? = some (row (R.getD j (0, 0)).1 5) ∧ (prI R)[j * 12 + 6]? = some (row (R.getD j (0, 0)).2 0) ∧ (prI R)[j * 12 + 7]? = some (row (R.getD j (0, 0)).2 1) ∧ (prI R)[j * 12 + 8]? = some (row (R.getD j (0, 0)).2 2) ∧ (prI R)[j * 12 + 9]? = some (row (R.getD j (0, 0)).2 3) ∧ (prI R)[j * 12 + 10]? = some (row (R.getD j (0, 0)).2 4) ∧ (prI R)[j * 12 + 11]? = some (row (R.getD j (0, 0)).2 5)
  | [], j, h => absurd h (Nat.not_lt_zero _)
  | r :: R, 0, _ => by simp [prI_cons]
  | r :: R, j + 1, h => by
    have ih := prI_get R j (by rw [List.length_cons] at h; omega)
    have e : ∀ c, (prI (r :: R))[(j + 1) * 12 + c]? = (prI R)[j * 12 + c]? := fun c => by rw [show (j + 1) * 12 + c = 12 + (j * 12 + c) by omega]; exact prI_shift r R _
    have e0 : (prI (r :: R))[(j + 1) * 12]? = (prI R)[j * 12]? := e 0
    rw [e0, e 1, e 2, e 3, e 4, e 5, e 6, e 7, e 8, e 9, e 10, e 11, List.getD_cons_succ]
    exact ih
theorem OwnsR.reads {w : World} {B : Nat} {v : Value} {R : List (Nat × Nat)} (h : OwnsR w B v R) : ReadsP w v R := by
  obtain ⟨g, cap, rfl, hg, hl⟩ := h.form
  have hcell : ∀ j u, (prI R)[j]? = some u → w.cell? ⟨g, j, none⟩ = some (.int .i64 u) := fun j u hu => by
    have := h.1.cells (g := g) rfl j (.int .i64 u) (by rw [List.getElem?_map, hu]; rfl)
    have e : (⟨g, 0, none⟩ : Addr).add j = ⟨g, j, none⟩ := by
      unfold Addr.add
      split <;> simp_all
    rw [e] at this
    exact this
  refine .inr ⟨g, cap, rfl, hl, fun j hj => ?_⟩
  obtain ⟨p0, p1, p2, p3, p4, p5, p6, p7, p8, p9, p10, p11⟩ := prI_get R j hj
  exact ⟨hcell _ _ p0, hcell _ _ p1, hcell _ _ p2, hcell _ _ p3, hcell _ _ p4, hcell _ _ p5, hcell _ _ p6, hcell _ _ p7, hcell _ _ p8, hcell _ _ p9, hcell _ _ p10, hcell _ _ p11⟩
theorem set12 {α : Type} (A B : List α) (x0 x1 x2 x3 x4 x5 x6 x7 x8 x9 x10 x11 y0 y1 y2 y3 y4 y5 y6 y7 y8 y9 y10 y11 : α) (m : Nat) (hm : A.length = m) : (((((((((((((A ++ x0 :: x1 :: x2 :: x3 :: x4 :: x5 :: x6 :: x7 :: x8 :: x9 :: x10 :: x11 :: B).set (m) y0).set (m + 1) y1).set (m + 2) y2).set (m + 3) y3).set (m + 4) y4).set (m + 5) y5).set (m + 6) y6).set (m + 7) y7).set (m + 8) y8).set (m + 9) y9).set (m + 10) y10).set (m + 11) y11) = A ++ y0 :: y1 :: y2 :: y3 :: y4 :: y5 :: y6 :: y7 :: y8 :: y9 :: y10 :: y11 :: B := by
  subst hm
  simp [List.set_append]
theorem prI_set (R : List (Nat × Nat)) (k : Nat) (hk : k < R.length) : ∃ A B, R = A ++ R.getD k (0, 0) :: B ∧ A.length = k ∧ ∀ x, R.set k x = A ++ x :: B := by
  refine ⟨R.take k, R.drop (k + 1), ?_, by rw [List.length_take]; omega, fun x => ?_⟩
  · rw [List.getD_eq_getElem?_getD, List.getElem?_eq_getElem hk]
    simp
  · rw [List.set_eq_take_append_cons_drop, if_pos hk]
theorem OwnsR.set {w : World} {B g cap n : Nat} {R : List (Nat × Nat)} (h : OwnsR w B (.slice (some ⟨g, 0, none⟩) n cap) R) (hn : n = R.length) (k C D : Nat) (hk : k < R.length) :
    OwnsR ((((((((((((w.setCell ⟨g, k * 12, none⟩ (.int .i64 (row C 0))).setCell ⟨g, k * 12 + 1, none⟩ (.int .i64 (row C 1))).setCell ⟨g, k * 12 + 2, none⟩ (.int .i64 (row C 2))).setCell ⟨g, k * 12 + 3, none⟩ (.int .i64 (row C 3))).setCell ⟨g, k * 12 + 4, none⟩ (.int .i64 (row C 4))).setCell ⟨g, k * 12 + 5, none⟩ (.int .i64 (row C 5))).setCell ⟨g, k * 12 + 6, none⟩ (.int .i64 (row D 0))).setCell ⟨g, k * 12 + 7, none⟩ (.int .i64 (row D 1))).setCell ⟨g, k * 12 + 8, none⟩ (.int .i64 (row D 2))).setCell ⟨g, k * 12 + 9, none⟩ (.int .i64 (row D 3))).setCell ⟨g, k * 12 + 10, none⟩ (.int .i64 (row D 4))).setCell ⟨g, k * 12 + 11, none⟩ (.int .i64 (row D 5))) B (.slice (some ⟨g, 0, none⟩) n cap) (R.set k (C, D)) := by
  subst hn
  obtain ⟨h1, h2⟩ := h
  refine ⟨?_, by simp⟩
  rw [List.length_set]
  have h101 := (World.ownsRow.stored h1 (k * 12) (.int .i64 (row C 0))).1
  have g2 := (World.ownsRow.stored h101 (k * 12 + 1) (.int .i64 (row C 1))).1
  have h3 := (World.ownsRow.stored g2 (k * 12 + 2) (.int .i64 (row C 2))).1
  have h4 := (World.ownsRow.stored h3 (k * 12 + 3) (.int .i64 (row C 3))).1
  have h5 := (World.ownsRow.stored h4 (k * 12 + 4) (.int .i64 (row C 4))).1
  have h6 := (World.ownsRow.stored h5 (k * 12 + 5) (.int .i64 (row C 5))).1
  have h7 := (World.ownsRow.stored h6 (k * 12 + 6) (.int .i64 (row D 0))).1
  have h8 := (World.ownsRow.stored h7 (k * 12 + 7) (.int .i64 (row D 1))).1
  have h9 := (World.ownsRow.stored h8 (k * 12 + 8) (.int .i64 (row D 2))).1
  have h10 := (World.ownsRow.stored h9 (k * 12 + 9) (.int .i64 (row D 3))).1
  have h11 := (World.ownsRow.stored h10 (k * 12 + 10) (.int .i64 (row D 4))).1
  have h12 := (World.ownsRow.stored h11 (k * 12 + 11) (.int .i64 (row D 5))).1
  obtain ⟨A, E, e1, e2, e3⟩ := prI_set R k hk
  have e : (prI (R.set k (C, D))).map (Value.int .i64) = (((((((((((((prI R).map (Value.int .i64)).set (k * 12) (.int .i64 (row C 0))).set (k * 12 + 1) (.int .i64 (row C 1))).set (k * 12 + 2) (.int .i64 (row C 2))).set (k * 12 + 3) (.int .i64 (row C 3))).set (k * 12 + 4) (.int .i64 (row C 4))).set (k * 12 + 5) (.int .i64 (row C 5))).set (k * 12 + 6) (.int .i64 (row D 0))).set (k * 12 + 7) (.int .i64 (row D 1))).set (k * 12 + 8) (.int .i64 (row D 2))).set (k * 12 + 9) (.int .i64 (row D 3))).set (k * 12 + 10) (.int .i64 (row D 4))).set (k * 12 + 11) (.int .i64 (row D 5)) := by
    rw [e3]
    conv => rhs; rw [e1]
    rw [prI_app, prI_app, prI_cons, prI_cons, List.map_append, List.map_append, List.map_append, List.map_append]
    simp only [List.map_cons, List.map_nil]
    exact (set12 ((prI A).map (Value.int .i64)) ((prI E).map (Value.int .i64)) _ _ _ _ _ _ _ _ _ _ _ _ _ _ _ _ _ _ _ _ _ _ _ _ (k * 12) (by rw [List.length_map, prI_len, e2])).symm
  rw [e]
  exact h12
end Go.Proofs.YtgjgefbcfcomcaaGreatDoor
