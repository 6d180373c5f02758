/-
  Rows of sheets: reading, storing; the reference's l4Away: contract. No conditions.
-/
import Derived.Test.YtgjgefbcfcomcaaGreatDoorUc
import Derived.Test.YtgjgefbcfcomcaaGreatDoorJD
namespace Go.Proofs.YtgjgefbcfcomcaaGreatDoor
open Go.RowKit
set_option linter.unusedSimpArgs false
set_option linter.unusedVariables false

/-- the slice v holds the sheets L -/
def ReadsS (w : World) (v : Value) (L : List Nat) : Prop :=
  (v = .slice none 0 0 ∧ L = []) ∨ ∃ g cap : Nat, v = .slice (some ⟨g, 0, none⟩) L.length cap ∧ g < w.heap.size ∧ ∀ j, j < L.length → w.cell? ⟨g, j * 6, none⟩ = some (.int .i64 (row (L.getD j 0) 0)) ∧ w.cell? ⟨g, j * 6 + 1, none⟩ = some (.int .i64 (row (L.getD j 0) 1)) ∧ w.cell? ⟨g, j * 6 + 2, none⟩ = some (.int .i64 (row (L.getD j 0) 2)) ∧ w.cell? ⟨g, j * 6 + 3, none⟩ = some (.int .i64 (row (L.getD j 0) 3)) ∧ w.cell? ⟨g, j * 6 + 4, none⟩ = some (.int .i64 (row (L.getD j 0) 4)) ∧ w.cell? ⟨g, j * 6 + 5, none⟩ = some (.int .i64 (row (L.getD j 0) 5))
theorem shI_app (R S : List Nat) : shI (R ++ S) = shI R ++ shI S := by unfold shI; simp
theorem shI_shift (r : Nat) (R : List Nat) (n : Nat) : (shI (r :: R))[6 + n]? = (shI R)[n]? := by
  rw [shI_cons, List.getElem?_append_right (by simp)]
  simp
theorem shI_get : ∀ (L : List Nat) (j : Nat), j < L.length → (shI L)[j * 6]? = some (row (L.getD j 0) 0) ∧ (shI L)[j * 6 + 1]? = some (row (L.getD j 0) 1) ∧ (shI L)[j * 6 + 2]? = some (row (L.getD j 0) 2) ∧ (shI L)[j * 6 + 3]? = some (row (L.getD j 0) 3) ∧ (shI L)[j * 6 + 4]? = some (row (L.getD j 0) 4) ∧ (shI L)[j * 6 + 5]? = some (row (L.getD j 0) 5)
  | [], j, h => absurd h (Nat.not_lt_zero _)
  | r :: R, 0, _ => by simp [shI_cons]
  | r :: R, j + 1, h => by
    have ih := shI_get R j (by rw [List.length_cons] at h; omega)
    have e : ∀ c, (shI (r :: R))[(j + 1) * 6 + c]? = (shI R)[j * 6 + c]? := fun c => by rw [show (j + 1) * 6 + c = 6 + (j * 6 + c) by omega]; exact shI_shift r R _
    have e0 : (shI (r :: R))[(j + 1) * 6]? = (shI R)[j * 6]? := e 0
    rw [e0, e 1, e 2, e 3, e 4, e 5, List.getD_cons_succ]
    exact ih
theorem OwnsS.form {w : World} {B : Nat} {v : Value} {L : List Nat} (h : OwnsS w B v L) : ∃ g cap, v = .slice (some ⟨g, 0, none⟩) L.length cap ∧ B ≤ g ∧ g < w.heap.size := by
  rcases h.1.2 with ⟨h1, _⟩ | ⟨g, cap, cur, hv, hg, hh, _⟩
  · exact absurd h1 h.2
  · exact ⟨g, cap, hv, hg, (Array.getElem?_eq_some_iff.1 hh).1⟩
theorem OwnsS.reads {w : World} {B : Nat} {v : Value} {L : List Nat} (h : OwnsS w B v L) : ReadsS w v L := by
  obtain ⟨g, cap, rfl, hg, hl⟩ := h.form
  have hcell : ∀ j u, (shI L)[j]? = some u → w.cell? ⟨g, j, none⟩ = some (.int .i64 u) := fun j u hu => by
    have := h.1.cells (g := g) rfl j (.int .i64 u) (by rw [List.getElem?_map, hu]; rfl)
    have e : (⟨g, 0, none⟩ : Addr).add j = ⟨g, j, none⟩ := by
      unfold Addr.add
      split <;> simp_all
    rw [e] at this
    exact this
  refine .inr ⟨g, cap, rfl, hl, fun j hj => ?_⟩
  obtain ⟨p0, p1, p2, p3, p4, p5⟩ := shI_get L j hj
  exact ⟨hcell _ _ p0, hcell _ _ p1, hcell _ _ p2, hcell _ _ p3, hcell _ _ p4, hcell _ _ p5⟩
theorem OwnsS.cellsAt {w : World} {B g n cap : Nat} {L : List Nat} (h : OwnsS w B (.slice (some ⟨g, 0, none⟩) n cap) L) (j : Nat) (hj : j < L.length) : w.cell? ⟨g, j * 6, none⟩ = some (.int .i64 (row (L.getD j 0) 0)) ∧ w.cell? ⟨g, j * 6 + 1, none⟩ = some (.int .i64 (row (L.getD j 0) 1)) ∧ w.cell? ⟨g, j * 6 + 2, none⟩ = some (.int .i64 (row (L.getD j 0) 2)) ∧ w.cell? ⟨g, j * 6 + 3, none⟩ = some (.int .i64 (row (L.getD j 0) 3)) ∧ w.cell? ⟨g, j * 6 + 4, none⟩ = some (.int .i64 (row (L.getD j 0) 4)) ∧ w.cell? ⟨g, j * 6 + 5, none⟩ = some (.int .i64 (row (L.getD j 0) 5)) := by
  rcases h.reads with ⟨h1, _⟩ | ⟨g', cap', h1, _, h2⟩
  · simp at h1
  · simp only [Value.slice.injEq, Option.some.injEq, Addr.mk.injEq, and_true, true_and] at h1
    obtain ⟨rfl, _, _⟩ := h1
    exact h2 j hj
theorem OwnsS.free {w : World} {B g n cap : Nat} {L : List Nat} (h : OwnsS w B (.slice (some ⟨g, 0, none⟩) n cap) L) (hn : n = L.length) (o : Nat) : w.frozen? ⟨g, o, none⟩ = false := by
  subst hn
  exact World.ownsRow.frozenAt h.1 o
theorem set6 {α : Type} (A B : List α) (x0 x1 x2 x3 x4 x5 y0 y1 y2 y3 y4 y5 : α) (m : Nat) (hm : A.length = m) : (((((((A ++ x0 :: x1 :: x2 :: x3 :: x4 :: x5 :: B).set (m) y0).set (m + 1) y1).set (m + 2) y2).set (m + 3) y3).set (m + 4) y4).set (m + 5) y5) = A ++ y0 :: y1 :: y2 :: y3 :: y4 :: y5 :: B := by
  subst hm
  simp [List.set_append]
theorem shI_set (R : List Nat) (k : Nat) (hk : k < R.length) : ∃ A B, R = A ++ R.getD k 0 :: B ∧ A.length = k ∧ ∀ x, R.set k x = A ++ x :: B := by
  refine ⟨R.take k, R.drop (k + 1), ?_, by rw [List.length_take]; omega, fun x => ?_⟩
  · rw [List.getD_eq_getElem?_getD, List.getElem?_eq_getElem hk]
    simp
  · rw [List.set_eq_take_append_cons_drop, if_pos hk]
theorem OwnsS.set {w : World} {B g cap n : Nat} {L : List Nat} (h : OwnsS w B (.slice (some ⟨g, 0, none⟩) n cap) L) (hn : n = L.length) (k C : Nat) (hk : k < L.length) :
    OwnsS ((((((w.setCell ⟨g, k * 6, none⟩ (.int .i64 (row C 0))).setCell ⟨g, k * 6 + 1, none⟩ (.int .i64 (row C 1))).setCell ⟨g, k * 6 + 2, none⟩ (.int .i64 (row C 2))).setCell ⟨g, k * 6 + 3, none⟩ (.int .i64 (row C 3))).setCell ⟨g, k * 6 + 4, none⟩ (.int .i64 (row C 4))).setCell ⟨g, k * 6 + 5, none⟩ (.int .i64 (row C 5))) B (.slice (some ⟨g, 0, none⟩) n cap) (L.set k C) := by
  subst hn
  obtain ⟨h1, g2⟩ := h
  refine ⟨?_, by simp⟩
  rw [List.length_set]
  have h101 := (World.ownsRow.stored h1 (k * 6) (.int .i64 (row C 0))).1
  have h2 := (World.ownsRow.stored h101 (k * 6 + 1) (.int .i64 (row C 1))).1
  have h3 := (World.ownsRow.stored h2 (k * 6 + 2) (.int .i64 (row C 2))).1
  have h4 := (World.ownsRow.stored h3 (k * 6 + 3) (.int .i64 (row C 3))).1
  have h5 := (World.ownsRow.stored h4 (k * 6 + 4) (.int .i64 (row C 4))).1
  have h6 := (World.ownsRow.stored h5 (k * 6 + 5) (.int .i64 (row C 5))).1
  obtain ⟨A, E, e1, e2, e3⟩ := shI_set L k hk
  have e : (shI (L.set k C)).map (Value.int .i64) = (((((((shI L).map (Value.int .i64)).set (k * 6) (.int .i64 (row C 0))).set (k * 6 + 1) (.int .i64 (row C 1))).set (k * 6 + 2) (.int .i64 (row C 2))).set (k * 6 + 3) (.int .i64 (row C 3))).set (k * 6 + 4) (.int .i64 (row C 4))).set (k * 6 + 5) (.int .i64 (row C 5)) := by
    rw [e3]
    conv => rhs; rw [e1]
    rw [shI_app, shI_app, shI_cons, shI_cons, List.map_append, List.map_append, List.map_append, List.map_append]
    simp only [List.map_cons, List.map_nil]
    exact (set6 ((shI A).map (Value.int .i64)) ((shI E).map (Value.int .i64)) _ _ _ _ _ _ _ _ _ _ _ _ (k * 6) (by rw [List.length_map, shI_len, e2])).symm
  rw [e]
  exact h6
def AwRel (O : List Nat) (s : Nat) (w : World) (i : Value) (wr : World) : Prop :=
  ∃ k : Nat, k ≤ O.length ∧ i = .int .i64 (k : Int) ∧ HoldsA wr 26 (w.heap.size) (row (awL (O.take k) s) 0) (row (awL (O.take k) s) 1) (row (awL (O.take k) s) 2) (row (awL (O.take k) s) 3) (row (awL (O.take k) s) 4) (row (awL (O.take k) s) 5) ∧ HoldsA wr 26 (w.heap.size + 1) 0 0 0 0 0 0 ∧ Below w.heap.size w wr
set_option maxRecDepth 100000 in
set_option maxHeartbeats 16000000 in
theorem l4Away_any (v : Value) (O : List Nat) (s : Nat) (hO : ∀ o, o ∈ O → ldN o < 36) (hOl : O.length ≤ 36) (w : World) (hr : ReadsS w v O) :
    Calls Tryz.prog 80 #[v, (.agg #[.int .i64 (row s 0), .int .i64 (row s 1), .int .i64 (row s 2), .int .i64 (row s 3), .int .i64 (row s 4), .int .i64 (row s 5)])] w fun e w' => e = .returned (.agg #[.int .i64 (row (awL O s) 0), .int .i64 (row (awL O s) 1), .int .i64 (row (awL O s) 2), .int .i64 (row (awL O s) 3), .int .i64 (row (awL O s) 4), .int .i64 (row (awL O s) 5)]) ∧ Below w.heap.size w w' := by
  have HR := Lib.hid hO
  clear hO
  have hzr : ∀ i, row 0 i = 0 := fun i => by unfold row; simp
  rcases hr with ⟨rfl, rfl⟩ | ⟨g, cap, rfl, hg, hcell⟩
  · go_enter Tryz.func80, Tryz.ntmps80
    go_wp2
    refine wp_loop_rounds 2 ?_
    rw [rounds_succ]
    go_wp2
    exact bodyPost_ret (v := (.agg #[.int .i64 (row (awL [] s) 0), .int .i64 (row (awL [] s) 1), .int .i64 (row (awL [] s) 2), .int .i64 (row (awL [] s) 3), .int .i64 (row (awL [] s) 4), .int .i64 (row (awL [] s) 5)])) (by simp [results, Tryz.results80, go_sem, *, awL]) rfl ⟨rfl, (by repeat (first | with_reducible exact Below.refl _ _ | with_reducible assumption | with_reducible refine Below.drew ?_ | with_reducible refine below_drewN ?_ _ | with_reducible refine Below.alloc ?_ ?_ _ | with_reducible refine Below.setCell ?_ ?_ _ | with_reducible refine Below.trans ?_ (Below.mono (by assumption) ?_) | omega | (simp <;> omega)))⟩
  · go_enter Tryz.func80, Tryz.ntmps80
    go_wp2
    go_loopw [5] (AwRel O s w) (fun i _ => O.length - (intOf i).toNat)
    case atStart =>
      refine ⟨0, Nat.zero_le _, rfl, ?_, ?_, (by repeat (first | with_reducible exact Below.refl _ _ | with_reducible assumption | with_reducible refine Below.drew ?_ | with_reducible refine below_drewN ?_ _ | with_reducible refine Below.alloc ?_ ?_ _ | with_reducible refine Below.setCell ?_ ?_ _ | with_reducible refine Below.trans ?_ (Below.mono (by assumption) ?_) | omega | (simp <;> omega)))⟩
      · rw [List.take_zero]
        show HoldsA _ 26 (w.heap.size) (row s 0) (row s 1) (row s 2) (row s 3) (row s 4) (row s 5)
        (repeat (first | with_reducible assumption | (with_reducible refine HoldsA.made' ?_; (simp; done)) | with_reducible refine HoldsA.alloc ?_ _ | with_reducible refine HoldsA.drew ?_ | with_reducible refine HoldsA.drewN ?_ _ | (with_reducible refine HoldsA.far ?_ _ _ (by first | (simp; done) | (simp; omega))) | (with_reducible refine HoldsA.below ?_ (by with_reducible assumption) (by first | (simp; done) | (simp; omega) | omega))))
      · (repeat (first | with_reducible assumption | (with_reducible refine HoldsA.made' ?_; (simp; done)) | with_reducible refine HoldsA.alloc ?_ _ | with_reducible refine HoldsA.drew ?_ | with_reducible refine HoldsA.drewN ?_ _ | (with_reducible refine HoldsA.far ?_ _ _ (by first | (simp; done) | (simp; omega))) | (with_reducible refine HoldsA.below ?_ (by with_reducible assumption) (by first | (simp; done) | (simp; omega) | omega))))
    case round =>
      obtain ⟨k, hk, rfl, h0, h1, hbw⟩ := hrel
      have hbsz := hbw.size
      have hlw0 := h0.lt
      have hlw1 := h1.lt
      have hgw : g < wr.heap.size := by omega
      by_cases hlt : k < O.length
      · have hlt' : (k : Int) < (O.length : Int) := by omega
        have hts := take_snoc O 0 k hlt
        have hcs := hcell k hlt
        have hrm : O.getD k 0 ∈ O := by rw [List.getD_eq_getElem?_getD, List.getElem?_eq_getElem hlt]; exact List.getElem_mem hlt
        have hl36 := HR.out _ hrm
        generalize O.getD k 0 = r at *
        have hnx : awL (O.take (k + 1)) s = awS (awL (O.take k) s) r := by rw [hts, awL_snoc]
        generalize awL (O.take k) s = q at *
        obtain ⟨rc0, rc1, rc2, rc3, rc4, rc5⟩ := hcs
        have rw0 := (hbw.cell (p := ⟨g, k * 6, none⟩) hg).trans rc0
        have rw1 := (hbw.cell (p := ⟨g, k * 6 + 1, none⟩) hg).trans rc1
        have rw2 := (hbw.cell (p := ⟨g, k * 6 + 2, none⟩) hg).trans rc2
        have rw3 := (hbw.cell (p := ⟨g, k * 6 + 3, none⟩) hg).trans rc3
        have rw4 := (hbw.cell (p := ⟨g, k * 6 + 4, none⟩) hg).trans rc4
        have rw5 := (hbw.cell (p := ⟨g, k * 6 + 5, none⟩) hg).trans rc5
        clear hts hrm rc0 rc1 rc2 rc3 rc4 rc5
        have hp0 := h0.c0
        have hp1 := h0.c1
        have hp2 := h0.c2
        have hp3 := h0.c3
        have hp4 := h0.c4
        have hp5 := h0.c5
        have hpf := h0.free
        have hzf := h1.free
        obtain ⟨l, hl⟩ : ∃ l, l = ldN r := ⟨_, rfl⟩
        have hlead := l4Lead_any r
        rw [← hl] at hlead hl36
        obtain ⟨x, hxn⟩ : ∃ x, x = 5 - l % 6 := ⟨_, rfl⟩
        obtain ⟨y, hyn⟩ : ∃ y, y = l / 6 := ⟨_, rfl⟩
        have hx : (5 - (l : Int) % 6) = (x : Int) := by omega
        have hy : ((l : Int) / 6) = (y : Int) := by omega
        have hg2 := l2Get_any q x y (by omega) (by omega)
        rw [show 6 * y + x = ldc l by unfold ldc; omega] at hg2
        have hLD := Lib.hid hlead
        clear hxn hyn hlead
        by_cases hb : q.testBit (ldc l) = true
        · rw [hb] at hg2
          have hG := Lib.hid hg2
          have hn2 : awL (O.take (k + 1)) s = q ^^^ r := by rw [hnx]; unfold awS; rw [← hl, if_pos hb]
          have hNX := Lib.hid hn2
          clear hg2 hnx hl hb hn2
          go_wp2_with (first | (go_at_call 54; (with_reducible refine (hLD.out _).mono ?_); rintro e w1 ⟨rfl, hb⟩; obtain ⟨hc, hf, hT, hz⟩ := bfacts hb; (try simp only [World.size_alloc, World.size_setCell, World.size_drew, size_drewN] at hc hf hT hz); (try (have hzA := Nat.lt_of_succ_le hz)); (try (have hl0 : w.heap.size ≤ w1.heap.size := by omega)); (try (have hz0 : w.heap.size < w1.heap.size := by omega)); (try (have hz1 : w.heap.size + 1 < w1.heap.size := by omega)); (try (have hz2 : w.heap.size + 1 + 1 < w1.heap.size := by omega)); (try (have hz3 : w.heap.size + 1 + 1 + 1 < w1.heap.size := by omega)); (try (have hz4 : w.heap.size + 1 + 1 + 1 + 1 < w1.heap.size := by omega)); (try (have gxg : g < w1.heap.size := by omega))) | (go_at_call 72; (with_reducible refine (hG.out _).mono ?_); rintro e w1 ⟨rfl, hb⟩; obtain ⟨hc, hf, hT, hz⟩ := bfacts hb; (try simp only [World.size_alloc, World.size_setCell, World.size_drew, size_drewN] at hc hf hT hz); (try (have hzA := Nat.lt_of_succ_le hz)); (try (have hl0 : w.heap.size ≤ w1.heap.size := by omega)); (try (have hz0 : w.heap.size < w1.heap.size := by omega)); (try (have hz1 : w.heap.size + 1 < w1.heap.size := by omega)); (try (have hz2 : w.heap.size + 1 + 1 < w1.heap.size := by omega)); (try (have hz3 : w.heap.size + 1 + 1 + 1 < w1.heap.size := by omega)); (try (have hz4 : w.heap.size + 1 + 1 + 1 + 1 < w1.heap.size := by omega)); (try (have gxg : g < w1.heap.size := by omega))))
          have hBa : Below wr.heap.size wr w1 := (by repeat (first | with_reducible exact Below.refl _ _ | with_reducible assumption | with_reducible refine Below.drew ?_ | with_reducible refine below_drewN ?_ _ | with_reducible refine Below.alloc ?_ ?_ _ | with_reducible refine Below.setCell ?_ ?_ _ | with_reducible refine Below.trans ?_ (Below.mono (by assumption) ?_) | omega | (simp <;> omega)))
          obtain ⟨wa, rfl⟩ : ∃ wa : World, wa = w1 := ⟨_, rfl⟩
          have k0 := h0.below hBa hlw0
          have k1 := h1.below hBa hlw1
          have hza := hBa.size
          have ra0 := (hBa.cell (p := ⟨g, k * 6, none⟩) hgw).trans rw0
          have ra1 := (hBa.cell (p := ⟨g, k * 6 + 1, none⟩) hgw).trans rw1
          have ra2 := (hBa.cell (p := ⟨g, k * 6 + 2, none⟩) hgw).trans rw2
          have ra3 := (hBa.cell (p := ⟨g, k * 6 + 3, none⟩) hgw).trans rw3
          have ra4 := (hBa.cell (p := ⟨g, k * 6 + 4, none⟩) hgw).trans rw4
          have ra5 := (hBa.cell (p := ⟨g, k * 6 + 5, none⟩) hgw).trans rw5
          clear rw0 rw1 rw2 rw3 rw4 rw5 hp0 hp1 hp2 hp3 hp4 hp5 hpf hzf hc hf hT
          have hp0 := k0.c0
          have hp1 := k0.c1
          have hp2 := k0.c2
          have hp3 := k0.c3
          have hp4 := k0.c4
          have hp5 := k0.c5
          have hpf := k0.free
          have hzf := k1.free
          have hlk0 := k0.lt
          have hlk1 := k1.lt
          have hgk : g < wa.heap.size := by omega
          go_region_with (go_at_call 46; (with_reducible refine (l2Xor_any _ _ _).mono ?_); rintro e w1 ⟨rfl, hb⟩; obtain ⟨hc, hf, hT, hz⟩ := bfacts hb; (try simp only [World.size_alloc, World.size_setCell, World.size_drew, size_drewN] at hc hf hT hz); (try (have hzA := Nat.lt_of_succ_le hz)); (try (have hl0 : w.heap.size ≤ w1.heap.size := by omega)); (try (have hz0 : w.heap.size < w1.heap.size := by omega)); (try (have hz1 : w.heap.size + 1 < w1.heap.size := by omega)); (try (have hz2 : w.heap.size + 1 + 1 < w1.heap.size := by omega)); (try (have hz3 : w.heap.size + 1 + 1 + 1 < w1.heap.size := by omega)); (try (have hz4 : w.heap.size + 1 + 1 + 1 + 1 < w1.heap.size := by omega)))
          all_goals
            have hBB : Below wa.heap.size wa w1 := (Below.refl wa.heap.size wa).drew.trans hb
            have e0 := (k0.below hBB hlk0).store (row (q ^^^ r) 0) (row (q ^^^ r) 1) (row (q ^^^ r) 2) (row (q ^^^ r) 3) (row (q ^^^ r) 4) (row (q ^^^ r) 5)
            have e1 := k1.below hBB hlk1
            have hB3 := (hbw.trans (hBa.mono hbw.size)).trans (hBB.mono (by omega))
            have hz3 := hBB.size
            clear hBB hBa hb
            go_wp2
            go_roundw
            case rel =>
              refine ⟨k + 1, by omega, by go_num, by rw [hNX.out]; exact e0, ?_, (by repeat (first | with_reducible exact Below.refl _ _ | with_reducible assumption | with_reducible refine Below.drew ?_ | with_reducible refine below_drewN ?_ _ | with_reducible refine Below.alloc ?_ ?_ _ | with_reducible refine Below.setCell ?_ ?_ _ | with_reducible refine Below.trans ?_ (Below.mono (by assumption) ?_) | omega | (simp <;> omega)))⟩
              (repeat (first | with_reducible assumption | (with_reducible refine HoldsA.made' ?_; (simp; done)) | with_reducible refine HoldsA.alloc ?_ _ | with_reducible refine HoldsA.drew ?_ | with_reducible refine HoldsA.drewN ?_ _ | (with_reducible refine HoldsA.far ?_ _ _ (by first | (simp; done) | (simp; omega))) | (with_reducible refine HoldsA.below ?_ (by with_reducible assumption) (by first | (simp; done) | (simp; omega) | omega))))
            case measure => simp [intOf]; omega
        · rw [Bool.eq_false_iff.2 hb] at hg2
          have hG := Lib.hid hg2
          have hn2 : awL (O.take (k + 1)) s = q := by rw [hnx]; unfold awS; rw [← hl, if_neg hb]
          have hNX := Lib.hid hn2
          clear hg2 hnx hl hb hn2
          go_wp2_with (first | (go_at_call 54; (with_reducible refine (hLD.out _).mono ?_); rintro e w1 ⟨rfl, hb⟩; obtain ⟨hc, hf, hT, hz⟩ := bfacts hb; (try simp only [World.size_alloc, World.size_setCell, World.size_drew, size_drewN] at hc hf hT hz); (try (have hzA := Nat.lt_of_succ_le hz)); (try (have hl0 : w.heap.size ≤ w1.heap.size := by omega)); (try (have hz0 : w.heap.size < w1.heap.size := by omega)); (try (have hz1 : w.heap.size + 1 < w1.heap.size := by omega)); (try (have hz2 : w.heap.size + 1 + 1 < w1.heap.size := by omega)); (try (have hz3 : w.heap.size + 1 + 1 + 1 < w1.heap.size := by omega)); (try (have hz4 : w.heap.size + 1 + 1 + 1 + 1 < w1.heap.size := by omega)); (try (have gxg : g < w1.heap.size := by omega))) | (go_at_call 72; (with_reducible refine (hG.out _).mono ?_); rintro e w1 ⟨rfl, hb⟩; obtain ⟨hc, hf, hT, hz⟩ := bfacts hb; (try simp only [World.size_alloc, World.size_setCell, World.size_drew, size_drewN] at hc hf hT hz); (try (have hzA := Nat.lt_of_succ_le hz)); (try (have hl0 : w.heap.size ≤ w1.heap.size := by omega)); (try (have hz0 : w.heap.size < w1.heap.size := by omega)); (try (have hz1 : w.heap.size + 1 < w1.heap.size := by omega)); (try (have hz2 : w.heap.size + 1 + 1 < w1.heap.size := by omega)); (try (have hz3 : w.heap.size + 1 + 1 + 1 < w1.heap.size := by omega)); (try (have hz4 : w.heap.size + 1 + 1 + 1 + 1 < w1.heap.size := by omega)); (try (have gxg : g < w1.heap.size := by omega))))
          have hBa : Below wr.heap.size wr w1 := (by repeat (first | with_reducible exact Below.refl _ _ | with_reducible assumption | with_reducible refine Below.drew ?_ | with_reducible refine below_drewN ?_ _ | with_reducible refine Below.alloc ?_ ?_ _ | with_reducible refine Below.setCell ?_ ?_ _ | with_reducible refine Below.trans ?_ (Below.mono (by assumption) ?_) | omega | (simp <;> omega)))
          go_roundw
          case rel => exact ⟨k + 1, by omega, by go_num, by rw [hNX.out]; exact h0.below hBa hlw0, h1.below hBa hlw1, hbw.trans (hBa.mono hbw.size)⟩
          case measure => simp [intOf]; omega
      · have e : k = O.length := by omega
        subst e
        rw [List.take_length] at h0
        have hp0 := h0.c0
        have hp1 := h0.c1
        have hp2 := h0.c2
        have hp3 := h0.c3
        have hp4 := h0.c4
        have hp5 := h0.c5
        have hpf := h0.free
        have hz0 := h1.c0
        have hz1 := h1.c1
        have hz2 := h1.c2
        have hz3 := h1.c3
        have hz4 := h1.c4
        have hz5 := h1.c5
        have hzf := h1.free
        go_wp2
        exact bodyPost_ret (v := (.agg #[.int .i64 (row (awL O s) 0), .int .i64 (row (awL O s) 1), .int .i64 (row (awL O s) 2), .int .i64 (row (awL O s) 3), .int .i64 (row (awL O s) 4), .int .i64 (row (awL O s) 5)])) (by simp [results, Tryz.results80, go_sem, *]) rfl ⟨rfl, (by repeat (first | with_reducible exact Below.refl _ _ | with_reducible assumption | with_reducible refine Below.drew ?_ | with_reducible refine below_drewN ?_ _ | with_reducible refine Below.alloc ?_ ?_ _ | with_reducible refine Below.setCell ?_ ?_ _ | with_reducible refine Below.trans ?_ (Below.mono (by assumption) ?_) | omega | (simp <;> omega)))⟩
end Go.Proofs.YtgjgefbcfcomcaaGreatDoor
