/-
  The reference's l4Reduce: contract. No conditions.
-/
import Derived.Test.YtgjgefbcfcomcaaGreatDoorUc
import Derived.OneCell
import Derived.Deep.CutRange
import Derived.Deep.DeepCutAuto
import Derived.Deep.RegionHeld3
namespace Go.Proofs.YtgjgefbcfcomcaaGreatDoor
open Go.RowKit
set_option linter.unusedSimpArgs false
set_option linter.unusedVariables false

theorem SR.lens {X n : Nat} {R : List (Nat × Nat)} {L : List Nat} (h : SR X (sgl n) R L) : R.length + L.length = n := by
  have := h.tabl.len
  rw [sgl_len] at this
  unfold pvR at this
  rw [List.length_map] at this
  exact this
theorem HoldsP.zero (hzr : ∀ i, row 0 i = 0) {w : World} {B : Nat} (h : B = w.heap.size) : HoldsP (w.alloc (.cells #[.int .i64 0, .int .i64 0, .int .i64 0, .int .i64 0, .int .i64 0, .int .i64 0, .int .i64 0, .int .i64 0, .int .i64 0, .int .i64 0, .int .i64 0, .int .i64 0] 84)) B 0 0 := by
  subst h
  unfold HoldsP
  simp only [hzr]
  exact heap_alloc_new w _
/-- rows, to the first k of which a pair has been added -/
def mdR (p : Nat × Nat) (R : List (Nat × Nat)) (k : Nat) : List (Nat × Nat) := (R.take k).map (adR p) ++ R.drop k
theorem mdR_len (p : Nat × Nat) (R : List (Nat × Nat)) (k : Nat) : (mdR p R k).length = R.length := by unfold mdR; simp; omega
theorem mdR_zero (p : Nat × Nat) (R : List (Nat × Nat)) : mdR p R 0 = R := by unfold mdR; simp
theorem mdR_all (p : Nat × Nat) (R : List (Nat × Nat)) : mdR p R R.length = R.map (adR p) := by unfold mdR; simp
theorem mdR_get (p : Nat × Nat) (R : List (Nat × Nat)) (k : Nat) (hk : k < R.length) : (mdR p R k).getD k (0, 0) = R.getD k (0, 0) := by
  unfold mdR
  rw [List.getD_eq_getElem?_getD, List.getD_eq_getElem?_getD, List.getElem?_append_right (by simp; omega), List.getElem?_drop]
  congr 2
  simp; omega
theorem mdR_succ (p : Nat × Nat) (R : List (Nat × Nat)) (k : Nat) (hk : k < R.length) : mdR p R (k + 1) = (mdR p R k).set k (adR p (R.getD k (0, 0))) := by
  have hl : ((R.take k).map (adR p)).length = k := by simp; omega
  unfold mdR
  rw [take_snoc R (0, 0) k hk, List.map_append, List.append_assoc, List.set_append_right _ _ (by omega), hl, Nat.sub_self]
  congr 1
  rw [List.drop_eq_getElem_cons hk]
  rfl
theorem set_same (R : List (Nat × Nat)) (k : Nat) : R.set k (R.getD k (0, 0)) = R := by
  apply List.ext_getElem?
  intro j
  rw [List.getElem?_set]
  split
  · rename_i e
    subst e
    split
    · rename_i hl
      rw [List.getD_eq_getElem?_getD, List.getElem?_eq_getElem hl]; rfl
    · rename_i hl
      rw [List.getElem?_eq_none (by omega)]
  · rfl
theorem OwnsR.cellsAt {w : World} {B g n cap : Nat} {R : List (Nat × Nat)} (h : OwnsR w B (.slice (some ⟨g, 0, none⟩) n cap) R) (j : Nat) (hj : j < R.length) : w.cell? ⟨g, j * 12, none⟩ = some (.int .i64 (row (R.getD j (0, 0)).1 0)) ∧ w.cell? ⟨g, j * 12 + 1, none⟩ = some (.int .i64 (row (R.getD j (0, 0)).1 1)) ∧ w.cell? ⟨g, j * 12 + 2, none⟩ = some (.int .i64 (row (R.getD j (0, 0)).1 2)) ∧ w.cell? ⟨g, j * 12 + 3, none⟩ = some (.int .i64 (row (R.getD j (0, 0)).1 3)) ∧ w.cell? ⟨g, j * 12 + 4, none⟩ = some (.int .i64 (row (R.getD j (0, 0)).1 4)) ∧ w.cell? ⟨g, j * 12 + 5, none⟩ = some (.int .i64 (row (R.getD j (0, 0)).1 5)) ∧ w.cell? ⟨g, j * 12 + 6, none⟩ = some (.int .i64 (row (R.getD j (0, 0)).2 0)) ∧ w.cell? ⟨g, j * 12 + 7, none⟩ = some (.int .i64 (row (R.getD j (0, 0)).2 1)) ∧ w.cell? ⟨g, j * 12 + 8, none⟩ = some (.int .i64 (row (R.getD j (0, 0)).2 2)) ∧ w.cell? ⟨g, j * 12 + 9, none⟩ = some (.int .i64 (row (R.getD j (0, 0)).2 3)) ∧ w.cell? ⟨g, j * 12 + 10, none⟩ = some (.int .i64 (row (R.getD j (0, 0)).2 4)) ∧ w.cell? ⟨g, j * 12 + 11, none⟩ = some (.int .i64 (row (R.getD j (0, 0)).2 5)) := by
  rcases h.reads with ⟨h1, _⟩ | ⟨g', cap', h1, _, h2⟩
  · simp at h1
  · simp only [Value.slice.injEq, Option.some.injEq, Addr.mk.injEq, and_true, true_and] at h1
    obtain ⟨rfl, _, _⟩ := h1
    exact h2 j hj
theorem OwnsR.free {w : World} {B g n cap : Nat} {R : List (Nat × Nat)} (h : OwnsR w B (.slice (some ⟨g, 0, none⟩) n cap) R) (hn : n = R.length) (o : Nat) : w.frozen? ⟨g, o, none⟩ = false := by
  subst hn
  exact World.ownsRow.frozenAt h.1 o
def InRel (X S8 p1 p2 g cap : Nat) (vq : Value) (R : List (Nat × Nat)) (L : List Nat) (w : World) (i : Value) (wr : World) : Prop :=
  ∃ k : Nat, k ≤ R.length ∧ i = .int .i64 (k : Int) ∧ OwnsR wr (w.heap.size + 1) (.slice (some ⟨g, 0, none⟩) R.length cap) (mdR (p1, p2) R k) ∧ OwnsS wr (w.heap.size + 1) vq L ∧ HoldsP wr S8 p1 p2 ∧ HoldsA wr 26 (w.heap.size) (row X 0) (row X 1) (row X 2) (row X 3) (row X 4) (row X 5) ∧ Below w.heap.size w wr
def LrRel (X : Nat) (w : World) (vr vq i : Value) (wr : World) : Prop :=
  ∃ (n : Nat) (R : List (Nat × Nat)) (L : List Nat), n ≤ 36 ∧ i = .int .i64 (n : Int) ∧ OwnsR wr (w.heap.size + 1) vr R ∧ OwnsS wr (w.heap.size + 1) vq L ∧ SR X (sgl n) R L ∧ HoldsA wr 26 (w.heap.size) (row X 0) (row X 1) (row X 2) (row X 3) (row X 4) (row X 5) ∧ Below w.heap.size w wr
def LrEnd (X : Nat) (w : World) (e : Ending) (w' : World) : Prop :=
  ∃ vr vq R L, e = .returned (.tuple #[vr, vq]) ∧ OwnsR w' (w.heap.size + 1) vr R ∧ OwnsS w' (w.heap.size + 1) vq L ∧ SR X (sgl 36) R L ∧ Below w.heap.size w w'
set_option maxRecDepth 100000 in
set_option maxHeartbeats 16000000 in
theorem l4Reduce_any (X : Nat) (hX : Vs X) (w : World) : Calls Tryz.prog 63 #[(.agg #[.int .i64 (row X 0), .int .i64 (row X 1), .int .i64 (row X 2), .int .i64 (row X 3), .int .i64 (row X 4), .int .i64 (row X 5)])] w (LrEnd X w) := by
  obtain ⟨i0, hi, iz0, iz1, iz2⟩ := info_parts infoRow
  obtain ⟨j0, hj, jz0, jz1, jz2⟩ := info_parts infoSheet
  have hzr : ∀ i, row 0 i = 0 := fun i => by unfold row; simp
  go_enter Tryz.func63, Tryz.ntmps63
  go_wp2
  go_loopw [4, 5, 6] (LrRel X w) (fun _ _ i _ => 36 - (intOf i).toNat)
  case atStart =>
    refine ⟨0, [], [], Nat.zero_le _, rfl, ?_, ?_, SR.start X, ?_, (by repeat (first | with_reducible exact Below.refl _ _ | with_reducible assumption | with_reducible refine Below.drew ?_ | with_reducible refine below_drewN ?_ _ | with_reducible refine Below.alloc ?_ ?_ _ | with_reducible refine Below.setCell ?_ ?_ _ | with_reducible refine Below.trans ?_ (Below.mono (by assumption) ?_) | omega | (simp <;> omega)))⟩
    · exact (ownsR_empty _ _ _ (by simp) (by simp)).alloc _
    · exact ownsS_empty _ _ _ (by simp) (by simp)
    · (repeat (first | with_reducible assumption | (with_reducible refine HoldsA.made' ?_; (simp; done)) | with_reducible refine HoldsA.alloc ?_ _ | with_reducible refine HoldsA.drew ?_ | with_reducible refine HoldsA.drewN ?_ _ | (with_reducible refine HoldsA.far ?_ _ _ (by first | (simp; done) | (simp; omega))) | (with_reducible refine HoldsA.below ?_ (by with_reducible assumption) (by first | (simp; done) | (simp; omega) | omega))))
  case round =>
    obtain ⟨n, R, L, hn, rfl, hR, hL, hS, h0, hbw⟩ := hrel
    have hbsz := hbw.size
    have hx0 := h0.c0
    have hx1 := h0.c1
    have hx2 := h0.c2
    have hx3 := h0.c3
    have hx4 := h0.c4
    have hx5 := h0.c5
    have hxf := h0.free
    have hlw := h0.lt
    by_cases hlt : n < 36
    · have hlt' : (n : Int) < 36 := by omega
      obtain ⟨x, hxn⟩ : ∃ x, x = n % 6 := ⟨_, rfl⟩
      obtain ⟨y, hyn⟩ : ∃ y, y = n / 6 := ⟨_, rfl⟩
      have hx : ((n : Int) % 6) = (x : Int) := by omega
      have hy : ((n : Int) / 6) = (y : Int) := by omega
      have hfl := l2Flip_any 0 x y (by omega) (by omega)
      rw [show 6 * y + x = n by omega, Nat.zero_xor] at hfl
      simp only [hzr] at hfl
      have hFL := Lib.hid hfl
      clear hxn hyn hfl
      generalize hOne : 2 ^ n = one at *
      have hOV : Vs one := by rw [← hOne]; exact Nat.pow_lt_pow_right (by omega) hlt
      have HS := Lib.hid hS
      have HOne := Lib.hid hOne
      clear hOne
      go_wp2_with (go_at_call 52; (with_reducible refine (hFL.out _).mono ?_); rintro e w1 ⟨rfl, hb⟩; obtain ⟨hc, hf, hT, hz⟩ := bfacts hb; (try simp only [World.size_alloc, World.size_setCell, World.size_drew, size_drewN] at hc hf hT hz); (try (have hzA := Nat.lt_of_succ_le hz)); (try (have hl0 : w.heap.size ≤ w1.heap.size := by omega)); (try (have hz0 : w.heap.size < w1.heap.size := by omega)); (try (have hz1 : w.heap.size + 1 < w1.heap.size := by omega)); (try (have hz2 : w.heap.size + 1 + 1 < w1.heap.size := by omega)); (try (have hz3 : w.heap.size + 1 + 1 + 1 < w1.heap.size := by omega)); (try (have hz4 : w.heap.size + 1 + 1 + 1 + 1 < w1.heap.size := by omega)))
      have hB1 : Below wr.heap.size wr (w1.alloc (.cells #[.int .i64 (row one 0), .int .i64 (row one 1), .int .i64 (row one 2), .int .i64 (row one 3), .int .i64 (row one 4), .int .i64 (row one 5)] 26)) := (by repeat (first | with_reducible exact Below.refl _ _ | with_reducible assumption | with_reducible refine Below.drew ?_ | with_reducible refine below_drewN ?_ _ | with_reducible refine Below.alloc ?_ ?_ _ | with_reducible refine Below.setCell ?_ ?_ _ | with_reducible refine Below.trans ?_ (Below.mono (by assumption) ?_) | omega | (simp <;> omega)))
      have k0 := h0.below hB1 hlw
      have k7 : HoldsA (w1.alloc (.cells #[.int .i64 (row one 0), .int .i64 (row one 1), .int .i64 (row one 2), .int .i64 (row one 3), .int .i64 (row one 4), .int .i64 (row one 5)] 26)) 26 w1.heap.size (row one 0) (row one 1) (row one 2) (row one 3) (row one 4) (row one 5) := HoldsA.made' rfl
      have kR := hR.below hB1
      have kL := hL.below hB1
      have hs7 : w.heap.size < w1.heap.size := hz0
      have hBw := hbw.trans (hB1.mono hbw.size)
      generalize w1.alloc (.cells #[.int .i64 (row one 0), .int .i64 (row one 1), .int .i64 (row one 2), .int .i64 (row one 3), .int .i64 (row one 4), .int .i64 (row one 5)] 26) = wb at *
      generalize w1.heap.size = S7 at *
      clear hb hc hf hT hz hl0 hz0 h0 hR hL hB1 hbw hbsz hx0 hx1 hx2 hx3 hx4 hx5 hxf
      have hlens := HS.out.lens
      have hpr := Lib.hid (l4Print_any X one)
      have hrd := fun W h => l4Reduced_any u4 R (one, printS X one) (fun r hr => (HS.out.rows r hr).2) (by omega) W h
      dsimp only at hrd
      have ha0 := HS.out.add0 (x := one)
      have ha1 := HS.out.add1 (x := one)
      rw [← HOne.out, ← sgl_succ, HOne.out] at ha0 ha1
      have hpv : Vs (rdL R (one, printS X one)).2 := by rw [HS.out.redp one]; exact printS_vs _ _
      generalize rdL R (one, printS X one) = p at *
      obtain ⟨p1, p2⟩ := p
      dsimp only at *
      have hRD := Lib.hid hrd
      have HA0 := Lib.hid ha0
      have HA1 := Lib.hid ha1
      have hBW := Lib.hid hBw
      clear hrd ha0 ha1 hBw
      have hx0 := k0.c0
      have hx1 := k0.c1
      have hx2 := k0.c2
      have hx3 := k0.c3
      have hx4 := k0.c4
      have hx5 := k0.c5
      have hxf := k0.free
      have ho0 := k7.c0
      have ho1 := k7.c1
      have ho2 := k7.c2
      have ho3 := k7.c3
      have ho4 := k7.c4
      have ho5 := k7.c5
      have hof := k7.free
      have hl0 := k0.lt
      have hl7 := k7.lt
      have KR := Lib.hid kR
      have KL := Lib.hid kL
      clear kR kL
      go_cut [8] from 23 to 29 (fun s8 wx => ∃ S8 : Nat, s8 = .pointer (some ⟨S8, 0, none⟩) ∧ wb.heap.size ≤ S8 ∧ HoldsP wx S8 p1 p2 ∧ Below wb.heap.size wb wx)
      case first =>
        go_region_held3 (fun w' => w'.cell? ⟨w.heap.size, 0, none⟩ = some (.int .i64 (row X 0)) ∧ w'.cell? ⟨w.heap.size, 1, none⟩ = some (.int .i64 (row X 1)) ∧ w'.cell? ⟨w.heap.size, 2, none⟩ = some (.int .i64 (row X 2)) ∧ w'.cell? ⟨w.heap.size, 3, none⟩ = some (.int .i64 (row X 3)) ∧ w'.cell? ⟨w.heap.size, 4, none⟩ = some (.int .i64 (row X 4)) ∧ w'.cell? ⟨w.heap.size, 5, none⟩ = some (.int .i64 (row X 5)) ∧ w'.cell? ⟨S7, 0, none⟩ = some (.int .i64 (row one 0)) ∧ w'.cell? ⟨S7, 1, none⟩ = some (.int .i64 (row one 1)) ∧ w'.cell? ⟨S7, 2, none⟩ = some (.int .i64 (row one 2)) ∧ w'.cell? ⟨S7, 3, none⟩ = some (.int .i64 (row one 3)) ∧ w'.cell? ⟨S7, 4, none⟩ = some (.int .i64 (row one 4)) ∧ w'.cell? ⟨S7, 5, none⟩ = some (.int .i64 (row one 5))) (simp [*, World.cell?_alloc_some, World.cell?_setCell_far, Nat.ne_of_gt]) (first | (first | (go_at_call 42; (with_reducible refine (hpr.out _).mono ?_); rintro e w1 ⟨rfl, hb⟩; obtain ⟨hc, hf, hT, hz⟩ := bfacts hb; (try simp only [World.size_alloc, World.size_setCell, World.size_drew, size_drewN] at hc hf hT hz); (try (have hzA := Nat.lt_of_succ_le hz)); (try (have hl0 : w.heap.size ≤ w1.heap.size := by omega)); (try (have hz0 : w.heap.size < w1.heap.size := by omega)); (try (have hz1 : w.heap.size + 1 < w1.heap.size := by omega)); (try (have hz2 : w.heap.size + 1 + 1 < w1.heap.size := by omega)); (try (have hz3 : w.heap.size + 1 + 1 + 1 < w1.heap.size := by omega)); (try (have hz4 : w.heap.size + 1 + 1 + 1 + 1 < w1.heap.size := by omega)); (try (have gxS7 : S7 < w1.heap.size := by omega))) | (go_at_call 53; (with_reducible refine (hRD.out _ (by exact (KR.out.below (by repeat (first | with_reducible exact Below.refl _ _ | with_reducible assumption | with_reducible refine Below.drew ?_ | with_reducible refine below_drewN ?_ _ | with_reducible refine Below.alloc ?_ ?_ _ | with_reducible refine Below.setCell ?_ ?_ _ | with_reducible refine Below.trans ?_ (Below.mono (by assumption) ?_) | omega | (simp <;> omega)))).reads)).mono ?_); rintro e w1 ⟨rfl, hb⟩; obtain ⟨hc, hf, hT, hz⟩ := bfacts hb; (try simp only [World.size_alloc, World.size_setCell, World.size_drew, size_drewN] at hc hf hT hz); (try (have hzA := Nat.lt_of_succ_le hz)); (try (have hl0 : w.heap.size ≤ w1.heap.size := by omega)); (try (have hz0 : w.heap.size < w1.heap.size := by omega)); (try (have hz1 : w.heap.size + 1 < w1.heap.size := by omega)); (try (have hz2 : w.heap.size + 1 + 1 < w1.heap.size := by omega)); (try (have hz3 : w.heap.size + 1 + 1 + 1 < w1.heap.size := by omega)); (try (have hz4 : w.heap.size + 1 + 1 + 1 + 1 < w1.heap.size := by omega)); (try (have gxS7 : S7 < w1.heap.size := by omega)))))
        all_goals
          go_wp2_with fail
          go_meet
          refine ⟨_, rfl, by first | omega | (simp; done) | (simp; omega), ?_, ?_⟩
          · first
              | with_reducible exact HoldsP.made' rfl
              | (with_reducible refine HoldsP.store (X := 0) (Y := 0) ?_ _ _; repeat (first | (with_reducible refine HoldsP.zero hzr ?_; first | (simp; done) | rfl) | with_reducible refine HoldsP.alloc ?_ _ | with_reducible refine HoldsP.drew ?_ | (with_reducible refine HoldsP.below ?_ (by with_reducible assumption) (by first | (simp; done) | (simp; omega) | omega))))
          · exact (by repeat (first | with_reducible exact Below.refl _ _ | with_reducible assumption | with_reducible refine Below.drew ?_ | with_reducible refine below_drewN ?_ _ | with_reducible refine Below.alloc ?_ ?_ _ | with_reducible refine Below.setCell ?_ ?_ _ | with_reducible refine Below.trans ?_ (Below.mono (by assumption) ?_) | omega | (simp <;> omega)))
      case rest =>
        obtain ⟨S8, rfl, hS8, h8, hbx⟩ := hcut
        have j0' := k0.below hbx hl0
        have jR := KR.out.below hbx
        have jL := KL.out.below hbx
        have hBc : Below w.heap.size w wc := hBW.out.trans (hbx.mono (by omega))
        have hl0c := j0'.lt
        have hl8 := h8.lt
        have hub := KR.out.1.lt
        clear k0 k7 KR KL hx0 hx1 hx2 hx3 hx4 hx5 hxf ho0 ho1 ho2 ho3 ho4 ho5 hof hbx
        have hx0 := j0'.c0
        have hx1 := j0'.c1
        have hx2 := j0'.c2
        have hx3 := j0'.c3
        have hx4 := j0'.c4
        have hx5 := j0'.c5
        have hxf := j0'.free
        have hp0 := h8.c0
        have hp1 := h8.c1
        have hp2 := h8.c2
        have hp3 := h8.c3
        have hp4 := h8.c4
        have hp5 := h8.c5
        have hp6 := h8.c6
        have hp7 := h8.c7
        have hp8 := h8.c8
        have hp9 := h8.c9
        have hp10 := h8.c10
        have hp11 := h8.c11
        have hpf := h8.free
        have hlead := l4Lead_any p2
        by_cases hl36 : ldN p2 = 36
        · rw [hl36, show ((36 : Nat) : Int) = 36 from rfl] at hlead
          have hLD := Lib.hid hlead
          clear hlead
          go_wp2_with (first | (go_at_call 54; (with_reducible refine (hLD.out _).mono ?_); rintro e w1 ⟨rfl, hb⟩; obtain ⟨hc, hf, hT, hz⟩ := bfacts hb; (try simp only [World.size_alloc, World.size_setCell, World.size_drew, size_drewN] at hc hf hT hz); (try (have hzA := Nat.lt_of_succ_le hz)); (try (have hl0 : w.heap.size ≤ w1.heap.size := by omega)); (try (have hz0 : w.heap.size < w1.heap.size := by omega)); (try (have hz1 : w.heap.size + 1 < w1.heap.size := by omega)); (try (have hz2 : w.heap.size + 1 + 1 < w1.heap.size := by omega)); (try (have hz3 : w.heap.size + 1 + 1 + 1 < w1.heap.size := by omega)); (try (have hz4 : w.heap.size + 1 + 1 + 1 + 1 < w1.heap.size := by omega)); (try (have gxS8 : S8 < w1.heap.size := by omega))) | (at_builtin; refine wpList_append_own _ rfl _ _ 28 rfl (w.heap.size + 1) 26 j0 (.agg #[.int .i64 0, .int .i64 0, .int .i64 0, .int .i64 0, .int .i64 0, .int .i64 0]) 6 48 Tryz.underlying28 hj jz0 jz1 jz2 rfl (by decide) _ _ _ rfl ((jL.below hb).1.alloc _) ⟨w1.heap.size, 0, none⟩ 1 1 [.int .i64 (row p1 0), .int .i64 (row p1 1), .int .i64 (row p1 2), .int .i64 (row p1 3), .int .i64 (row p1 4), .int .i64 (row p1 5)] rfl rfl ?c1 ?c2 ?c3 ?c4 ?c5 ?_))
          case c1 =>
            intro j u hj
            match j, hj with
            | 0, hj => simp at hj; subst hj; simp [Addr.add]
            | 1, hj => simp at hj; subst hj; simp [Addr.add]
            | 2, hj => simp at hj; subst hj; simp [Addr.add]
            | 3, hj => simp at hj; subst hj; simp [Addr.add]
            | 4, hj => simp at hj; subst hj; simp [Addr.add]
            | 5, hj => simp at hj; subst hj; simp [Addr.add]
          case c2 =>
            intro u hu
            simp at hu
            rcases hu with rfl | rfl | rfl | rfl | rfl | rfl <;> rfl
          case c3 => unfold maxLen; omega
          case c4 => omega
          case c5 => simp; omega
          intro v' w2 hown' hgrow hnil
          have m0 := j0'.below hb hl0c
          have mR := jR.below hb
          have mL := jL.below hb
          have hBb := hBc.trans (hb.mono (by omega))
          have hB : Below w.heap.size w w2 := (hBb.alloc hBb.size _).grown hgrow (by simp; omega) (fun j hj => by have := (mL.1.lt j hj).1; omega)
          have hN : v' ≠ .slice none 0 0 := fun h => by first | exact hnil h | exact mL.2 (hnil.1 h).1
          have hO : OwnsS w2 (w.heap.size + 1) v' (L ++ [p1]) := by
            refine ⟨?_, hN⟩
            rw [shI_snoc, List.map_append, List.length_append]
            exact hown'
          have hO2 : OwnsR w2 (w.heap.size + 1) u4 R := ⟨(mR.1.alloc _).kept hgrow (.inr (owns_apart mR.1 mL.1 mR.2 (by decide))), mR.2⟩
          have hO3 : HoldsA w2 26 (w.heap.size) (row X 0) (row X 1) (row X 2) (row X 3) (row X 4) (row X 5) := (hgrow.block w.heap.size (by simp; omega) (fun h => by have := (mL.1.lt _ h.symm).1; omega)).trans (m0.alloc _)
          have hS' := HA0.out hl36
          clear hown' hgrow hnil hN m0 mR mL hBb
          go_wp2
          go_roundw
          case rel => exact ⟨n + 1, R, L ++ [p1], by omega, by go_num, hO2, hO, hS', hO3, hB⟩
          case measure => simp [intOf]; omega
        · have hl36' : ldN p2 < 36 := by have := ldN_le p2; omega
          have hS' := Lib.hid (HA1.out hl36')
          obtain ⟨l, hl⟩ : ∃ l, l = ldN p2 := ⟨_, rfl⟩
          rw [← hl] at hlead hl36 hl36'
          have hLI : ¬ ((l : Int) = 36) := by omega
          have hLb : (((l : Nat) : Int) == 36) = false := by rw [beq_eq_false_iff_ne]; exact hLI
          obtain ⟨x', hxn⟩ : ∃ x', x' = 5 - l % 6 := ⟨_, rfl⟩
          obtain ⟨y', hyn⟩ : ∃ y', y' = l / 6 := ⟨_, rfl⟩
          have hx' : (5 - (l : Int) % 6) = (x' : Int) := by omega
          have hy' : ((l : Int) / 6) = (y' : Int) := by omega
          have hcl : 6 * y' + x' = ldc l := by unfold ldc; omega
          have hxy : x' < 6 ∧ y' < 6 := by omega
          clear hxn hyn
          obtain ⟨g, cap, rfl, hgB, hgl⟩ := jR.form
          have hgS : g < S8 := by have := (hub g rfl).2; omega
          have hgne : S8 ≠ g := by omega
          have hgw0 : w.heap.size ≠ g := by omega
          have hLD := Lib.hid hlead
          have hCL := Lib.hid hcl
          have hLL := Lib.hid hl
          clear hlead hcl hl
          go_wp2_with (go_at_call 54; (with_reducible refine (hLD.out _).mono ?_); rintro e w1 ⟨rfl, hb⟩; obtain ⟨hc, hf, hT, hz⟩ := bfacts hb; (try simp only [World.size_alloc, World.size_setCell, World.size_drew, size_drewN] at hc hf hT hz); (try (have hzA := Nat.lt_of_succ_le hz)); (try (have hl0 : w.heap.size ≤ w1.heap.size := by omega)); (try (have hz0 : w.heap.size < w1.heap.size := by omega)); (try (have hz1 : w.heap.size + 1 < w1.heap.size := by omega)); (try (have hz2 : w.heap.size + 1 + 1 < w1.heap.size := by omega)); (try (have hz3 : w.heap.size + 1 + 1 + 1 < w1.heap.size := by omega)); (try (have hz4 : w.heap.size + 1 + 1 + 1 + 1 < w1.heap.size := by omega)); (try (have gxS8 : S8 < w1.heap.size := by omega)))
          have m0 := j0'.below hb hl0c
          have mR := jR.below hb
          have mL := jL.below hb
          have m8 := h8.below hb hl8
          have hBb := hBc.trans (hb.mono (by omega))
          clear hb hc hf hT hz hx0 hx1 hx2 hx3 hx4 hx5 hxf hp0 hp1 hp2 hp3 hp4 hp5 hp6 hp7 hp8 hp9 hp10 hp11 hpf j0' jR jL h8 hBc
          obtain ⟨wd, rfl⟩ : ∃ wd : World, wd = w1 := ⟨_, rfl⟩
          go_loopw [10] (InRel X S8 p1 p2 g cap u5 R L w) (fun i _ => R.length - (intOf i).toNat)
          case atStart => exact ⟨0, Nat.zero_le _, rfl, by rw [mdR_zero]; exact mR, mL, m8, m0, hBb⟩
          case round =>
            clear m0 mR mL m8 hBb
            obtain ⟨k, hk, rfl, hM, hQ, h8, h0, hbi⟩ := hrel
            have hbiz := hbi.size
            have hl8' := h8.lt
            have hl0' := h0.lt
            have hgw : g < wr.heap.size := by
              have := hM.1.lt g rfl
              exact this.2
            have hp0 := h8.c0
            have hp1 := h8.c1
            have hp2 := h8.c2
            have hp3 := h8.c3
            have hp4 := h8.c4
            have hp5 := h8.c5
            have hp6 := h8.c6
            have hp7 := h8.c7
            have hp8 := h8.c8
            have hp9 := h8.c9
            have hp10 := h8.c10
            have hp11 := h8.c11
            have hpf := h8.free
            have hln := mdR_len (p1, p2) R k
            by_cases hkl : k < R.length
            · have hkl' : (k : Int) < (R.length : Int) := by omega
              have hcs := hM.cellsAt k (by omega)
              rw [mdR_get _ _ _ hkl] at hcs
              have hfr := hM.free hln.symm
              have hsu := mdR_succ (p1, p2) R k hkl
              have hss := set_same (mdR (p1, p2) R k) k
              rw [mdR_get _ _ _ hkl] at hss
              generalize R.getD k (0, 0) = r at *
              obtain ⟨r1, r2⟩ := r
              dsimp only at hcs
              obtain ⟨rc0, rc1, rc2, rc3, rc4, rc5, rc6, rc7, rc8, rc9, rc10, rc11⟩ := hcs
              have hg2 := l2Get_any r2 x' y' hxy.1 hxy.2
              rw [hCL.out] at hg2
              by_cases hb2 : r2.testBit (ldc l) = true
              · rw [hb2] at hg2
                have hG := Lib.hid hg2
                have had : adR (p1, p2) (r1, r2) = (r1 ^^^ p1, r2 ^^^ p2) := by
                  unfold adR
                  rw [show (p1, p2).2 = p2 from rfl, ← hLL.out]
                  rw [if_pos hb2]
                rw [had] at hsu
                have hSU := Lib.hid hsu
                have HM := Lib.hid hM
                clear hg2 had hsu hss hM hb2
                go_wp2_with (go_at_call 72; (with_reducible refine (hG.out _).mono ?_); rintro e w1 ⟨rfl, hb⟩; obtain ⟨hc, hf, hT, hz⟩ := bfacts hb; (try simp only [World.size_alloc, World.size_setCell, World.size_drew, size_drewN] at hc hf hT hz); (try (have hzA := Nat.lt_of_succ_le hz)); (try (have hl0 : w.heap.size ≤ w1.heap.size := by omega)); (try (have hz0 : w.heap.size < w1.heap.size := by omega)); (try (have hz1 : w.heap.size + 1 < w1.heap.size := by omega)); (try (have hz2 : w.heap.size + 1 + 1 < w1.heap.size := by omega)); (try (have hz3 : w.heap.size + 1 + 1 + 1 < w1.heap.size := by omega)); (try (have hz4 : w.heap.size + 1 + 1 + 1 + 1 < w1.heap.size := by omega)); (try (have gxS8 : S8 < w1.heap.size := by omega)); (try (have gxg : g < w1.heap.size := by omega)))
                have hBa : Below wr.heap.size wr w1 := (by repeat (first | with_reducible exact Below.refl _ _ | with_reducible assumption | with_reducible refine Below.drew ?_ | with_reducible refine below_drewN ?_ _ | with_reducible refine Below.alloc ?_ ?_ _ | with_reducible refine Below.setCell ?_ ?_ _ | with_reducible refine Below.trans ?_ (Below.mono (by assumption) ?_) | omega | (simp <;> omega)))
                have k8 := h8.below hBa hl8'
                have k0 := h0.below hBa hl0'
                have kM := HM.out.below hBa
                have kQ := hQ.below hBa
                have rw0 := (hBa.cell (p := ⟨g, k * 12, none⟩) hgw).trans rc0
                have rw1 := (hBa.cell (p := ⟨g, k * 12 + 1, none⟩) hgw).trans rc1
                have rw2 := (hBa.cell (p := ⟨g, k * 12 + 2, none⟩) hgw).trans rc2
                have rw3 := (hBa.cell (p := ⟨g, k * 12 + 3, none⟩) hgw).trans rc3
                have rw4 := (hBa.cell (p := ⟨g, k * 12 + 4, none⟩) hgw).trans rc4
                have rw5 := (hBa.cell (p := ⟨g, k * 12 + 5, none⟩) hgw).trans rc5
                have rw6 := (hBa.cell (p := ⟨g, k * 12 + 6, none⟩) hgw).trans rc6
                have rw7 := (hBa.cell (p := ⟨g, k * 12 + 7, none⟩) hgw).trans rc7
                have rw8 := (hBa.cell (p := ⟨g, k * 12 + 8, none⟩) hgw).trans rc8
                have rw9 := (hBa.cell (p := ⟨g, k * 12 + 9, none⟩) hgw).trans rc9
                have rw10 := (hBa.cell (p := ⟨g, k * 12 + 10, none⟩) hgw).trans rc10
                have rw11 := (hBa.cell (p := ⟨g, k * 12 + 11, none⟩) hgw).trans rc11
                have hfr1 := kM.free hln.symm
                have hB1 := hbi.trans (hBa.mono hbi.size)
                obtain ⟨we, rfl⟩ : ∃ we : World, we = w1 := ⟨_, rfl⟩
                clear hb hc hf hT hz rc0 rc1 rc2 rc3 rc4 rc5 rc6 rc7 rc8 rc9 rc10 rc11 hp0 hp1 hp2 hp3 hp4 hp5 hp6 hp7 hp8 hp9 hp10 hp11 hpf hfr h8 h0 hQ hBa
                have hp0 := k8.c0
                have hp1 := k8.c1
                have hp2 := k8.c2
                have hp3 := k8.c3
                have hp4 := k8.c4
                have hp5 := k8.c5
                have hp6 := k8.c6
                have hp7 := k8.c7
                have hp8 := k8.c8
                have hp9 := k8.c9
                have hp10 := k8.c10
                have hp11 := k8.c11
                have hpf := k8.free
                have hle8 := k8.lt
                have hle0 := k0.lt
                have hgle : g < we.heap.size := by
                  have := kM.1.lt g rfl
                  exact this.2
                go_region_with (go_at_call 73; (with_reducible refine (l4Sum_any _ _ _ _ _).mono ?_); rintro e w1 ⟨rfl, hb⟩; obtain ⟨hc, hf, hT, hz⟩ := bfacts hb; (try simp only [World.size_alloc, World.size_setCell, World.size_drew, size_drewN] at hc hf hT hz); (try (have hzA := Nat.lt_of_succ_le hz)); (try (have hl0 : w.heap.size ≤ w1.heap.size := by omega)); (try (have hz0 : w.heap.size < w1.heap.size := by omega)); (try (have hz1 : w.heap.size + 1 < w1.heap.size := by omega)); (try (have hz2 : w.heap.size + 1 + 1 < w1.heap.size := by omega)); (try (have hz3 : w.heap.size + 1 + 1 + 1 < w1.heap.size := by omega)); (try (have hz4 : w.heap.size + 1 + 1 + 1 + 1 < w1.heap.size := by omega)); (try (have gxS8 : S8 < w1.heap.size := by omega)); (try (have gxg : g < w1.heap.size := by omega)))
                all_goals
                  have hBB : Below we.heap.size we w1 := (Below.refl we.heap.size we).drew.trans hb
                  have e8 := k8.below hBB hle8
                  have e0 := k0.below hBB hle0
                  have eM := (kM.below hBB).set hln.symm k (r1 ^^^ p1) (r2 ^^^ p2) (by omega)
                  have eQ := kQ.below hBB
                  have hB3 := hB1.trans (hBB.mono (by omega))
                  have eQ1 := eQ.1
                  have hne := owns_apart eQ.1 (kM.below hBB).1 eQ.2 (by decide)
                  have hne' : u5.ownBlock ≠ some g := hne
                  clear hBB hb hc hf hT hne
                  go_wp2
                  go_roundw
                  case rel =>
                    refine ⟨k + 1, by omega, by go_num, by rw [hSU.out]; exact eM, ⟨?_, eQ.2⟩, ?_, ?_, ?_⟩
                    · repeat (first | with_reducible exact eQ1 | with_reducible refine ownsRow_setCell_other ?_ (by exact hne') _)
                    · (repeat (first | with_reducible assumption | (with_reducible refine HoldsP.made' ?_; (simp; done)) | with_reducible refine HoldsP.alloc ?_ _ | with_reducible refine HoldsP.drew ?_ | with_reducible refine HoldsP.drewN ?_ _ | (with_reducible refine HoldsP.far ?_ _ _ (by first | (simp; done) | (simp; omega) | omega)) | (with_reducible refine HoldsP.below ?_ (by with_reducible assumption) (by first | (simp; done) | (simp; omega) | omega))))
                    · (repeat (first | with_reducible assumption | (with_reducible refine HoldsA.made' ?_; (simp; done)) | with_reducible refine HoldsA.alloc ?_ _ | with_reducible refine HoldsA.drew ?_ | with_reducible refine HoldsA.drewN ?_ _ | (with_reducible refine HoldsA.far ?_ _ _ (by first | (simp; done) | (simp; omega))) | (with_reducible refine HoldsA.below ?_ (by with_reducible assumption) (by first | (simp; done) | (simp; omega) | omega))))
                    · exact (by repeat (first | with_reducible exact Below.refl _ _ | with_reducible assumption | with_reducible refine Below.drew ?_ | with_reducible refine below_drewN ?_ _ | with_reducible refine Below.alloc ?_ ?_ _ | with_reducible refine Below.setCell ?_ ?_ _ | with_reducible refine Below.trans ?_ (Below.mono (by assumption) ?_) | omega | (simp <;> omega)))
                  case measure => simp [intOf]; omega
              · rw [Bool.eq_false_iff.2 hb2] at hg2
                have hG := Lib.hid hg2
                have had : adR (p1, p2) (r1, r2) = (r1, r2) := by
                  unfold adR
                  rw [show (p1, p2).2 = p2 from rfl, ← hLL.out]
                  rw [if_neg hb2]
                rw [had, hss] at hsu
                have hSU := Lib.hid hsu
                have HM := Lib.hid hM
                clear hg2 had hsu hss hM hb2
                go_wp2_with (go_at_call 72; (with_reducible refine (hG.out _).mono ?_); rintro e w1 ⟨rfl, hb⟩; obtain ⟨hc, hf, hT, hz⟩ := bfacts hb; (try simp only [World.size_alloc, World.size_setCell, World.size_drew, size_drewN] at hc hf hT hz); (try (have hzA := Nat.lt_of_succ_le hz)); (try (have hl0 : w.heap.size ≤ w1.heap.size := by omega)); (try (have hz0 : w.heap.size < w1.heap.size := by omega)); (try (have hz1 : w.heap.size + 1 < w1.heap.size := by omega)); (try (have hz2 : w.heap.size + 1 + 1 < w1.heap.size := by omega)); (try (have hz3 : w.heap.size + 1 + 1 + 1 < w1.heap.size := by omega)); (try (have hz4 : w.heap.size + 1 + 1 + 1 + 1 < w1.heap.size := by omega)); (try (have gxS8 : S8 < w1.heap.size := by omega)); (try (have gxg : g < w1.heap.size := by omega)))
                have hBa : Below wr.heap.size wr w1 := (by repeat (first | with_reducible exact Below.refl _ _ | with_reducible assumption | with_reducible refine Below.drew ?_ | with_reducible refine below_drewN ?_ _ | with_reducible refine Below.alloc ?_ ?_ _ | with_reducible refine Below.setCell ?_ ?_ _ | with_reducible refine Below.trans ?_ (Below.mono (by assumption) ?_) | omega | (simp <;> omega)))
                go_roundw
                case rel => exact ⟨k + 1, by omega, by go_num, by rw [hSU.out]; exact HM.out.below hBa, hQ.below hBa, h8.below hBa hl8', h0.below hBa hl0', hbi.trans (hBa.mono hbi.size)⟩
                case measure => simp [intOf]; omega
            · have e : k = R.length := by omega
              subst e
              rw [mdR_all] at hM
              have hlm : (R.map (adR (p1, p2))).length = R.length := List.length_map _
              go_wp2_with (at_builtin; refine wpList_append_own _ rfl _ _ 82 rfl (w.heap.size + 1) 84 i0 (.agg #[.int .i64 0, .int .i64 0, .int .i64 0, .int .i64 0, .int .i64 0, .int .i64 0, .int .i64 0, .int .i64 0, .int .i64 0, .int .i64 0, .int .i64 0, .int .i64 0]) 12 96 Tryz.underlying82 hi iz0 iz1 iz2 rfl (by decide) _ _ _ rfl (hM.1.alloc _) ⟨wr.heap.size, 0, none⟩ 1 1 [.int .i64 (row p1 0), .int .i64 (row p1 1), .int .i64 (row p1 2), .int .i64 (row p1 3), .int .i64 (row p1 4), .int .i64 (row p1 5), .int .i64 (row p2 0), .int .i64 (row p2 1), .int .i64 (row p2 2), .int .i64 (row p2 3), .int .i64 (row p2 4), .int .i64 (row p2 5)] rfl rfl ?c1 ?c2 ?c3 ?c4 ?c5 ?_)
              case c1 =>
                intro j u hj
                match j, hj with
                | 0, hj => simp at hj; subst hj; simp [Addr.add]
                | 1, hj => simp at hj; subst hj; simp [Addr.add]
                | 2, hj => simp at hj; subst hj; simp [Addr.add]
                | 3, hj => simp at hj; subst hj; simp [Addr.add]
                | 4, hj => simp at hj; subst hj; simp [Addr.add]
                | 5, hj => simp at hj; subst hj; simp [Addr.add]
                | 6, hj => simp at hj; subst hj; simp [Addr.add]
                | 7, hj => simp at hj; subst hj; simp [Addr.add]
                | 8, hj => simp at hj; subst hj; simp [Addr.add]
                | 9, hj => simp at hj; subst hj; simp [Addr.add]
                | 10, hj => simp at hj; subst hj; simp [Addr.add]
                | 11, hj => simp at hj; subst hj; simp [Addr.add]
              case c2 =>
                intro u hu
                simp at hu
                rcases hu with rfl | rfl | rfl | rfl | rfl | rfl | rfl | rfl | rfl | rfl | rfl | rfl <;> rfl
              case c3 => unfold maxLen; omega
              case c4 => omega
              case c5 => simp; omega
              intro v' w2 hown' hgrow hnil
              have hB : Below w.heap.size w w2 := (hbi.alloc hbi.size _).grown hgrow (by simp; omega) (fun j hj => by have := (hM.1.lt j hj).1; omega)
              have hN : v' ≠ .slice none 0 0 := fun h => by first | exact hnil h | exact hM.2 (hnil.1 h).1
              have hO : OwnsR w2 (w.heap.size + 1) v' (R.map (adR (p1, p2)) ++ [(p1, p2)]) := by
                refine ⟨?_, hN⟩
                rw [prI_snoc, List.map_append, List.length_append, hlm]
                exact hown'
              have hO2 : OwnsS w2 (w.heap.size + 1) u5 L := ⟨(hQ.1.alloc _).kept hgrow (.inr (owns_apart hQ.1 hM.1 hQ.2 (by decide))), hQ.2⟩
              have hO3 : HoldsA w2 26 (w.heap.size) (row X 0) (row X 1) (row X 2) (row X 3) (row X 4) (row X 5) := (hgrow.block w.heap.size (by simp; omega) (fun h => by have := (hM.1.lt _ h.symm).1; omega)).trans (h0.alloc _)
              clear hown' hgrow hnil hN hM hQ h8 h0 hbi
              go_wp2
              go_roundw
              case rel => exact ⟨n + 1, _, L, by omega, by go_num, hO, hO2, hS'.out, hO3, hB⟩
              case measure => simp [intOf]; omega
    · have e : n = 36 := by omega
      subst e
      go_wp2
      go_ret2
      exact ⟨_, _, R, L, rfl, hR, hL, hS, hbw⟩
end Go.Proofs.YtgjgefbcfcomcaaGreatDoor
