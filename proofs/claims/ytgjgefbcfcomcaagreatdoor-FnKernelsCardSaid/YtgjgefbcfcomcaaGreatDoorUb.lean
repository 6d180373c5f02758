/-
  The reference's l4Reduced: contract. No conditions.
-/
import Derived.Test.YtgjgefbcfcomcaaGreatDoorUa
namespace Go.Proofs.YtgjgefbcfcomcaaGreatDoor
open Go.RowKit
set_option linter.unusedSimpArgs false
set_option linter.unusedVariables false

/-- a pair (presses, print) from whose print the leads of rows have been taken away -/
def rdS (p r : Nat × Nat) : Nat × Nat := if p.2.testBit (ldc (ldN r.2)) = true then (p.1 ^^^ r.1, p.2 ^^^ r.2) else p
def rdL (R : List (Nat × Nat)) (p : Nat × Nat) : Nat × Nat := R.foldl rdS p
theorem rdL_snoc (R : List (Nat × Nat)) (r p : Nat × Nat) : rdL (R ++ [r]) p = rdS (rdL R p) r := by unfold rdL; rw [List.foldl_append]; rfl
/-- the numbers of rows one behind another -/
def prI (R : List (Nat × Nat)) : List Int := R.flatMap fun r => [row r.1 0, row r.1 1, row r.1 2, row r.1 3, row r.1 4, row r.1 5, row r.2 0, row r.2 1, row r.2 2, row r.2 3, row r.2 4, row r.2 5]
/-- the slice v holds the rows R -/
def ReadsP (w : World) (v : Value) (R : List (Nat × Nat)) : Prop :=
  (v = .slice none 0 0 ∧ R = []) ∨ ∃ g cap : Nat, v = .slice (some ⟨g, 0, none⟩) R.length cap ∧ g < w.heap.size ∧ ∀ j, j < R.length → w.cell? ⟨g, j * 12, none⟩ = some (.int .i64 (row (R.getD j (0, 0)).1 0)) ∧ w.cell? ⟨g, j * 12 + 1, none⟩ = some (.int .i64 (row (R.getD j (0, 0)).1 1)) ∧ w.cell? ⟨g, j * 12 + 2, none⟩ = some (.int .i64 (row (R.getD j (0, 0)).1 2)) ∧ w.cell? ⟨g, j * 12 + 3, none⟩ = some (.int .i64 (row (R.getD j (0, 0)).1 3)) ∧ w.cell? ⟨g, j * 12 + 4, none⟩ = some (.int .i64 (row (R.getD j (0, 0)).1 4)) ∧ w.cell? ⟨g, j * 12 + 5, none⟩ = some (.int .i64 (row (R.getD j (0, 0)).1 5)) ∧ w.cell? ⟨g, j * 12 + 6, none⟩ = some (.int .i64 (row (R.getD j (0, 0)).2 0)) ∧ w.cell? ⟨g, j * 12 + 7, none⟩ = some (.int .i64 (row (R.getD j (0, 0)).2 1)) ∧ w.cell? ⟨g, j * 12 + 8, none⟩ = some (.int .i64 (row (R.getD j (0, 0)).2 2)) ∧ w.cell? ⟨g, j * 12 + 9, none⟩ = some (.int .i64 (row (R.getD j (0, 0)).2 3)) ∧ w.cell? ⟨g, j * 12 + 10, none⟩ = some (.int .i64 (row (R.getD j (0, 0)).2 4)) ∧ w.cell? ⟨g, j * 12 + 11, none⟩ = some (.int .i64 (row (R.getD j (0, 0)).2 5))
def RdlRel (R : List (Nat × Nat)) (p : Nat × Nat) (w : World) (i : Value) (wr : World) : Prop :=
  ∃ k : Nat, k ≤ R.length ∧ i = .int .i64 (k : Int) ∧ HoldsP wr w.heap.size (rdL (R.take k) p).1 (rdL (R.take k) p).2 ∧ HoldsP wr (w.heap.size + 1) 0 0 ∧ Below w.heap.size w wr
theorem take_snoc {α : Type} (R : List α) (d : α) (k : Nat) (h : k < R.length) : R.take (k + 1) = R.take k ++ [R.getD k d] := by
  rw [List.take_add_one, List.getD_eq_getElem?_getD, List.getElem?_eq_getElem h]; rfl
set_option maxRecDepth 100000 in
set_option maxHeartbeats 16000000 in
theorem l4Reduced_any (v : Value) (R : List (Nat × Nat)) (p : Nat × Nat) (hR : ∀ r, r ∈ R → ldN r.2 < 36) (hRl : R.length ≤ 36) (w : World) (hr : ReadsP w v R) :
    Calls Tryz.prog 53 #[v, (.agg #[.int .i64 (row (p.1) 0), .int .i64 (row (p.1) 1), .int .i64 (row (p.1) 2), .int .i64 (row (p.1) 3), .int .i64 (row (p.1) 4), .int .i64 (row (p.1) 5), .int .i64 (row (p.2) 0), .int .i64 (row (p.2) 1), .int .i64 (row (p.2) 2), .int .i64 (row (p.2) 3), .int .i64 (row (p.2) 4), .int .i64 (row (p.2) 5)])] w fun e w' => e = .returned (.agg #[.int .i64 (row ((rdL R p).1) 0), .int .i64 (row ((rdL R p).1) 1), .int .i64 (row ((rdL R p).1) 2), .int .i64 (row ((rdL R p).1) 3), .int .i64 (row ((rdL R p).1) 4), .int .i64 (row ((rdL R p).1) 5), .int .i64 (row ((rdL R p).2) 0), .int .i64 (row ((rdL R p).2) 1), .int .i64 (row ((rdL R p).2) 2), .int .i64 (row ((rdL R p).2) 3), .int .i64 (row ((rdL R p).2) 4), .int .i64 (row ((rdL R p).2) 5)]) ∧ Below w.heap.size w w' := by
  have HR := Lib.hid hR
  clear hR
  have hzr : ∀ i, row 0 i = 0 := fun i => by unfold row; simp
  rcases hr with ⟨rfl, rfl⟩ | ⟨g, cap, rfl, hg, hcell⟩
  · go_enter Tryz.func53, Tryz.ntmps53
    go_wp2
    refine wp_loop_rounds 2 ?_
    rw [rounds_succ]
    go_wp2
    exact bodyPost_ret (v := (.agg #[.int .i64 (row ((rdL [] p).1) 0), .int .i64 (row ((rdL [] p).1) 1), .int .i64 (row ((rdL [] p).1) 2), .int .i64 (row ((rdL [] p).1) 3), .int .i64 (row ((rdL [] p).1) 4), .int .i64 (row ((rdL [] p).1) 5), .int .i64 (row ((rdL [] p).2) 0), .int .i64 (row ((rdL [] p).2) 1), .int .i64 (row ((rdL [] p).2) 2), .int .i64 (row ((rdL [] p).2) 3), .int .i64 (row ((rdL [] p).2) 4), .int .i64 (row ((rdL [] p).2) 5)])) (by simp [results, Tryz.results53, go_sem, *, rdL]) rfl ⟨rfl, (by repeat (first | with_reducible exact Below.refl _ _ | with_reducible assumption | with_reducible refine Below.drew ?_ | with_reducible refine below_drewN ?_ _ | with_reducible refine Below.alloc ?_ ?_ _ | with_reducible refine Below.setCell ?_ ?_ _ | with_reducible refine Below.trans ?_ (Below.mono (by assumption) ?_) | omega | (simp <;> omega)))⟩
  · go_enter Tryz.func53, Tryz.ntmps53
    go_wp2
    have hP0 : HoldsP (w.alloc (.cells #[.int .i64 (row (p.1) 0), .int .i64 (row (p.1) 1), .int .i64 (row (p.1) 2), .int .i64 (row (p.1) 3), .int .i64 (row (p.1) 4), .int .i64 (row (p.1) 5), .int .i64 (row (p.2) 0), .int .i64 (row (p.2) 1), .int .i64 (row (p.2) 2), .int .i64 (row (p.2) 3), .int .i64 (row (p.2) 4), .int .i64 (row (p.2) 5)] 84)) w.heap.size p.1 p.2 := HoldsP.made' rfl
    go_loopw [5] (RdlRel R p w) (fun i _ => R.length - (intOf i).toNat)
    case atStart =>
      refine ⟨0, Nat.zero_le _, rfl, hP0.alloc _, ?_, (by repeat (first | with_reducible exact Below.refl _ _ | with_reducible assumption | with_reducible refine Below.drew ?_ | with_reducible refine below_drewN ?_ _ | with_reducible refine Below.alloc ?_ ?_ _ | with_reducible refine Below.setCell ?_ ?_ _ | with_reducible refine Below.trans ?_ (Below.mono (by assumption) ?_) | omega | (simp <;> omega)))⟩
      unfold HoldsP
      rw [hzr, hzr, hzr, hzr, hzr, hzr]
      simpa using heap_alloc_new (w.alloc (.cells #[.int .i64 (row (p.1) 0), .int .i64 (row (p.1) 1), .int .i64 (row (p.1) 2), .int .i64 (row (p.1) 3), .int .i64 (row (p.1) 4), .int .i64 (row (p.1) 5), .int .i64 (row (p.2) 0), .int .i64 (row (p.2) 1), .int .i64 (row (p.2) 2), .int .i64 (row (p.2) 3), .int .i64 (row (p.2) 4), .int .i64 (row (p.2) 5)] 84)) (.cells #[.int .i64 0, .int .i64 0, .int .i64 0, .int .i64 0, .int .i64 0, .int .i64 0, .int .i64 0, .int .i64 0, .int .i64 0, .int .i64 0, .int .i64 0, .int .i64 0] 84)
    case round =>
      clear hP0
      obtain ⟨k, hk, rfl, h0, h1, hbw⟩ := hrel
      have hbsz := hbw.size
      have hlw0 := h0.lt
      have hlw1 := h1.lt
      have hgw : g < wr.heap.size := by omega
      by_cases hlt : k < R.length
      · have hlt' : (k : Int) < (R.length : Int) := by omega
        have hts := take_snoc R (0, 0) k hlt
        have hcs := hcell k hlt
        have hrm : R.getD k (0, 0) ∈ R := by rw [List.getD_eq_getElem?_getD, List.getElem?_eq_getElem hlt]; exact List.getElem_mem hlt
        have hl36 := HR.out _ hrm
        generalize R.getD k (0, 0) = r at *
        have hnx : rdL (R.take (k + 1)) p = rdS (rdL (R.take k) p) r := by rw [hts, rdL_snoc]
        generalize rdL (R.take k) p = q at *
        obtain ⟨q1, q2⟩ := q
        obtain ⟨r1, r2⟩ := r
        dsimp only at *
        obtain ⟨rc0, rc1, rc2, rc3, rc4, rc5, rc6, rc7, rc8, rc9, rc10, rc11⟩ := hcs
        have rw0 := (hbw.cell (p := ⟨g, k * 12, none⟩) hg).trans rc0
        have rw1 := (hbw.cell (p := ⟨g, k * 12 + 1, none⟩) hg).trans rc1
        have rw2 := (hbw.cell (p := ⟨g, k * 12 + 2, none⟩) hg).trans rc2
        have rw3 := (hbw.cell (p := ⟨g, k * 12 + 3, none⟩) hg).trans rc3
        have rw4 := (hbw.cell (p := ⟨g, k * 12 + 4, none⟩) hg).trans rc4
        have rw5 := (hbw.cell (p := ⟨g, k * 12 + 5, none⟩) hg).trans rc5
        have rw6 := (hbw.cell (p := ⟨g, k * 12 + 6, none⟩) hg).trans rc6
        have rw7 := (hbw.cell (p := ⟨g, k * 12 + 7, none⟩) hg).trans rc7
        have rw8 := (hbw.cell (p := ⟨g, k * 12 + 8, none⟩) hg).trans rc8
        have rw9 := (hbw.cell (p := ⟨g, k * 12 + 9, none⟩) hg).trans rc9
        have rw10 := (hbw.cell (p := ⟨g, k * 12 + 10, none⟩) hg).trans rc10
        have rw11 := (hbw.cell (p := ⟨g, k * 12 + 11, none⟩) hg).trans rc11
        clear hts hrm rc0 rc1 rc2 rc3 rc4 rc5 rc6 rc7 rc8 rc9 rc10 rc11
        have hp0 := h0.c0
        have hp1 := h0.c1
        have hp2 := h0.c2
        have hp3 := h0.c3
        have hp4 := h0.c4
        have hp5 := h0.c5
        have hp6 := h0.c6
        have hp7 := h0.c7
        have hp8 := h0.c8
        have hp9 := h0.c9
        have hp10 := h0.c10
        have hp11 := h0.c11
        have hpf := h0.free
        have hzf := h1.free
        obtain ⟨l, hl⟩ : ∃ l, l = ldN r2 := ⟨_, rfl⟩
        have hlead := l4Lead_any r2
        rw [← hl] at hlead hl36
        obtain ⟨x, hxn⟩ : ∃ x, x = 5 - l % 6 := ⟨_, rfl⟩
        obtain ⟨y, hyn⟩ : ∃ y, y = l / 6 := ⟨_, rfl⟩
        have hx : (5 - (l : Int) % 6) = (x : Int) := by omega
        have hy : ((l : Int) / 6) = (y : Int) := by omega
        have hg2 := l2Get_any q2 x y (by omega) (by omega)
        rw [show 6 * y + x = ldc l by unfold ldc; omega] at hg2
        have hLD := Lib.hid hlead
        clear hxn hyn hlead
        by_cases hb : q2.testBit (ldc l) = true
        · rw [hb] at hg2
          have hG := Lib.hid hg2
          have hn2 : rdL (R.take (k + 1)) p = (q1 ^^^ r1, q2 ^^^ r2) := by rw [hnx]; unfold rdS; rw [← hl, if_pos hb]
          have hNX := Lib.hid hn2
          clear hg2 hnx hl hb hn2
          go_wp2_with (first | (go_at_call 54; (with_reducible refine (hLD.out _).mono ?_); rintro e w1 ⟨rfl, hb⟩; obtain ⟨hc, hf, hT, hz⟩ := bfacts hb; (try simp only [World.size_alloc, World.size_setCell, World.size_drew, size_drewN] at hc hf hT hz); (try (have hzA := Nat.lt_of_succ_le hz)); (try (have hl0 : w.heap.size ≤ w1.heap.size := by omega)); (try (have hz0 : w.heap.size < w1.heap.size := by omega)); (try (have hz1 : w.heap.size + 1 < w1.heap.size := by omega)); (try (have hz2 : w.heap.size + 1 + 1 < w1.heap.size := by omega)); (try (have hz3 : w.heap.size + 1 + 1 + 1 < w1.heap.size := by omega)); (try (have hz4 : w.heap.size + 1 + 1 + 1 + 1 < w1.heap.size := by omega)); (try (have gxg : g < w1.heap.size := by omega))) | (go_at_call 72; (with_reducible refine (hG.out _).mono ?_); rintro e w1 ⟨rfl, hb⟩; obtain ⟨hc, hf, hT, hz⟩ := bfacts hb; (try simp only [World.size_alloc, World.size_setCell, World.size_drew, size_drewN] at hc hf hT hz); (try (have hzA := Nat.lt_of_succ_le hz)); (try (have hl0 : w.heap.size ≤ w1.heap.size := by omega)); (try (have hz0 : w.heap.size < w1.heap.size := by omega)); (try (have hz1 : w.heap.size + 1 < w1.heap.size := by omega)); (try (have hz2 : w.heap.size + 1 + 1 < w1.heap.size := by omega)); (try (have hz3 : w.heap.size + 1 + 1 + 1 < w1.heap.size := by omega)); (try (have hz4 : w.heap.size + 1 + 1 + 1 + 1 < w1.heap.size := by omega)); (try (have gxg : g < w1.heap.size := by omega))))
          have hBa : Below wr.heap.size wr w1 := (by repeat (first | with_reducible exact Below.refl _ _ | with_reducible assumption | with_reducible refine Below.drew ?_ | with_reducible refine below_drewN ?_ _ | with_reducible refine Below.alloc ?_ ?_ _ | with_reducible refine Below.setCell ?_ ?_ _ | with_reducible refine Below.trans ?_ (Below.mono (by assumption) ?_) | omega | (simp <;> omega)))
          obtain ⟨wa, rfl⟩ : ∃ wa : World, wa = w1 := ⟨_, rfl⟩
          have k0 := h0.below hBa hlw0
          have k1 := h1.below hBa hlw1
          have hza := hBa.size
          have ra0 := (hBa.cell (p := ⟨g, k * 12, none⟩) hgw).trans rw0
          have ra1 := (hBa.cell (p := ⟨g, k * 12 + 1, none⟩) hgw).trans rw1
          have ra2 := (hBa.cell (p := ⟨g, k * 12 + 2, none⟩) hgw).trans rw2
          have ra3 := (hBa.cell (p := ⟨g, k * 12 + 3, none⟩) hgw).trans rw3
          have ra4 := (hBa.cell (p := ⟨g, k * 12 + 4, none⟩) hgw).trans rw4
          have ra5 := (hBa.cell (p := ⟨g, k * 12 + 5, none⟩) hgw).trans rw5
          have ra6 := (hBa.cell (p := ⟨g, k * 12 + 6, none⟩) hgw).trans rw6
          have ra7 := (hBa.cell (p := ⟨g, k * 12 + 7, none⟩) hgw).trans rw7
          have ra8 := (hBa.cell (p := ⟨g, k * 12 + 8, none⟩) hgw).trans rw8
          have ra9 := (hBa.cell (p := ⟨g, k * 12 + 9, none⟩) hgw).trans rw9
          have ra10 := (hBa.cell (p := ⟨g, k * 12 + 10, none⟩) hgw).trans rw10
          have ra11 := (hBa.cell (p := ⟨g, k * 12 + 11, none⟩) hgw).trans rw11
          clear rw0 rw1 rw2 rw3 rw4 rw5 rw6 rw7 rw8 rw9 rw10 rw11 hp0 hp1 hp2 hp3 hp4 hp5 hp6 hp7 hp8 hp9 hp10 hp11 hpf hzf hc hf hT
          have hp0 := k0.c0
          have hp1 := k0.c1
          have hp2 := k0.c2
          have hp3 := k0.c3
          have hp4 := k0.c4
          have hp5 := k0.c5
          have hp6 := k0.c6
          have hp7 := k0.c7
          have hp8 := k0.c8
          have hp9 := k0.c9
          have hp10 := k0.c10
          have hp11 := k0.c11
          have hpf := k0.free
          have hzf := k1.free
          have hlk0 := k0.lt
          have hlk1 := k1.lt
          have hgk : g < wa.heap.size := by omega
          go_region_with (go_at_call 73; (with_reducible refine (l4Sum_any _ _ _ _ _).mono ?_); rintro e w1 ⟨rfl, hb⟩; obtain ⟨hc, hf, hT, hz⟩ := bfacts hb; (try simp only [World.size_alloc, World.size_setCell, World.size_drew, size_drewN] at hc hf hT hz); (try (have hzA := Nat.lt_of_succ_le hz)); (try (have hl0 : w.heap.size ≤ w1.heap.size := by omega)); (try (have hz0 : w.heap.size < w1.heap.size := by omega)); (try (have hz1 : w.heap.size + 1 < w1.heap.size := by omega)); (try (have hz2 : w.heap.size + 1 + 1 < w1.heap.size := by omega)); (try (have hz3 : w.heap.size + 1 + 1 + 1 < w1.heap.size := by omega)); (try (have hz4 : w.heap.size + 1 + 1 + 1 + 1 < w1.heap.size := by omega)))
          all_goals
            have hBB : Below wa.heap.size wa w1 := (Below.refl wa.heap.size wa).drew.trans hb
            have e0 := (k0.below hBB hlk0).store (q1 ^^^ r1) (q2 ^^^ r2)
            have e1 := k1.below hBB hlk1
            have hB3 := (hbw.trans (hBa.mono hbw.size)).trans (hBB.mono (by omega))
            have hz3 := hBB.size
            clear hBB hBa hb
            go_wp2
            go_roundw
            case rel => exact ⟨k + 1, by omega, by go_num, by rw [hNX.out]; exact e0, by (repeat (first | with_reducible assumption | (with_reducible refine HoldsP.made' ?_; (simp; done)) | with_reducible exact HoldsP.store (by with_reducible assumption) _ _ | with_reducible refine HoldsP.alloc ?_ _ | with_reducible refine HoldsP.drew ?_ | with_reducible refine HoldsP.drewN ?_ _ | (with_reducible refine HoldsP.far ?_ _ _ (by first | (simp; done) | (simp; omega) | omega)) | (with_reducible refine HoldsP.below ?_ (by with_reducible assumption) (by first | (simp; done) | (simp; omega) | omega)))), (by repeat (first | with_reducible exact Below.refl _ _ | with_reducible assumption | with_reducible refine Below.drew ?_ | with_reducible refine below_drewN ?_ _ | with_reducible refine Below.alloc ?_ ?_ _ | with_reducible refine Below.setCell ?_ ?_ _ | with_reducible refine Below.trans ?_ (Below.mono (by assumption) ?_) | omega | (simp <;> omega)))⟩
            case measure => simp [intOf]; omega
        · rw [Bool.eq_false_iff.2 hb] at hg2
          have hG := Lib.hid hg2
          have hn2 : rdL (R.take (k + 1)) p = (q1, q2) := by rw [hnx]; unfold rdS; rw [← hl, if_neg hb]
          have hNX := Lib.hid hn2
          clear hg2 hnx hl hb hn2
          go_wp2_with (first | (go_at_call 54; (with_reducible refine (hLD.out _).mono ?_); rintro e w1 ⟨rfl, hb⟩; obtain ⟨hc, hf, hT, hz⟩ := bfacts hb; (try simp only [World.size_alloc, World.size_setCell, World.size_drew, size_drewN] at hc hf hT hz); (try (have hzA := Nat.lt_of_succ_le hz)); (try (have hl0 : w.heap.size ≤ w1.heap.size := by omega)); (try (have hz0 : w.heap.size < w1.heap.size := by omega)); (try (have hz1 : w.heap.size + 1 < w1.heap.size := by omega)); (try (have hz2 : w.heap.size + 1 + 1 < w1.heap.size := by omega)); (try (have hz3 : w.heap.size + 1 + 1 + 1 < w1.heap.size := by omega)); (try (have hz4 : w.heap.size + 1 + 1 + 1 + 1 < w1.heap.size := by omega)); (try (have gxg : g < w1.heap.size := by omega))) | (go_at_call 72; (with_reducible refine (hG.out _).mono ?_); rintro e w1 ⟨rfl, hb⟩; obtain ⟨hc, hf, hT, hz⟩ := bfacts hb; (try simp only [World.size_alloc, World.size_setCell, World.size_drew, size_drewN] at hc hf hT hz); (try (have hzA := Nat.lt_of_succ_le hz)); (try (have hl0 : w.heap.size ≤ w1.heap.size := by omega)); (try (have hz0 : w.heap.size < w1.heap.size := by omega)); (try (have hz1 : w.heap.size + 1 < w1.heap.size := by omega)); (try (have hz2 : w.heap.size + 1 + 1 < w1.heap.size := by omega)); (try (have hz3 : w.heap.size + 1 + 1 + 1 < w1.heap.size := by omega)); (try (have hz4 : w.heap.size + 1 + 1 + 1 + 1 < w1.heap.size := by omega)); (try (have gxg : g < w1.heap.size := by omega))))
          have hBa : Below wr.heap.size wr w1 := (by repeat (first | with_reducible exact Below.refl _ _ | with_reducible assumption | with_reducible refine Below.drew ?_ | with_reducible refine below_drewN ?_ _ | with_reducible refine Below.alloc ?_ ?_ _ | with_reducible refine Below.setCell ?_ ?_ _ | with_reducible refine Below.trans ?_ (Below.mono (by assumption) ?_) | omega | (simp <;> omega)))
          go_roundw
          case rel => exact ⟨k + 1, by omega, by go_num, by rw [hNX.out]; exact h0.below hBa hlw0, h1.below hBa hlw1, hbw.trans (hBa.mono hbw.size)⟩
          case measure => simp [intOf]; omega
      · have e : k = R.length := by omega
        subst e
        rw [List.take_length] at h0
        have hp0 := h0.c0
        have hp1 := h0.c1
        have hp2 := h0.c2
        have hp3 := h0.c3
        have hp4 := h0.c4
        have hp5 := h0.c5
        have hp6 := h0.c6
        have hp7 := h0.c7
        have hp8 := h0.c8
        have hp9 := h0.c9
        have hp10 := h0.c10
        have hp11 := h0.c11
        have hpf := h0.free
        have hz0 := h1.c0
        have hz1 := h1.c1
        have hz2 := h1.c2
        have hz3 := h1.c3
        have hz4 := h1.c4
        have hz5 := h1.c5
        have hz6 := h1.c6
        have hz7 := h1.c7
        have hz8 := h1.c8
        have hz9 := h1.c9
        have hz10 := h1.c10
        have hz11 := h1.c11
        have hzf := h1.free
        simp only [hzr] at hz0 hz1 hz2 hz3 hz4 hz5 hz6 hz7 hz8 hz9 hz10 hz11
        go_wp2
        exact bodyPost_ret (v := (.agg #[.int .i64 (row ((rdL R p).1) 0), .int .i64 (row ((rdL R p).1) 1), .int .i64 (row ((rdL R p).1) 2), .int .i64 (row ((rdL R p).1) 3), .int .i64 (row ((rdL R p).1) 4), .int .i64 (row ((rdL R p).1) 5), .int .i64 (row ((rdL R p).2) 0), .int .i64 (row ((rdL R p).2) 1), .int .i64 (row ((rdL R p).2) 2), .int .i64 (row ((rdL R p).2) 3), .int .i64 (row ((rdL R p).2) 4), .int .i64 (row ((rdL R p).2) 5)])) (by simp [results, Tryz.results53, go_sem, *]) rfl ⟨rfl, (by repeat (first | with_reducible exact Below.refl _ _ | with_reducible assumption | with_reducible refine Below.drew ?_ | with_reducible refine below_drewN ?_ _ | with_reducible refine Below.alloc ?_ ?_ _ | with_reducible refine Below.setCell ?_ ?_ _ | with_reducible refine Below.trans ?_ (Below.mono (by assumption) ?_) | omega | (simp <;> omega)))⟩
end Go.Proofs.YtgjgefbcfcomcaaGreatDoor
