/-
  KernelOf of the reference and of the program: contracts. Under, for the program: the library's own table of the lowest bits lies as its initialiser lays it.
-/
import Derived.Test.YtgjgefbcfcomcaaGreatDoorVc
namespace Go.Proofs.YtgjgefbcfcomcaaGreatDoor
open Go.RowKit
set_option linter.unusedSimpArgs false
set_option linter.unusedVariables false

/-- O is the reduced basis of the kernel of X -/
def KOf (X : Nat) (O : List Nat) : Prop := (∃ L, BS L O ∧ ∀ x, Sp L x ↔ Vs x ∧ printS X x = 0) ∧ O.length ≤ 36
theorem KOf.uniq {X : Nat} {O O' : List Nat} (h : KOf X O) (h' : KOf X O') : O = O' := by
  obtain ⟨⟨L, h1, h2⟩, _⟩ := h
  obtain ⟨⟨L', h1', h2'⟩, _⟩ := h'
  exact h1.uniq h1' fun x => (h2 x).trans (h2' x).symm
theorem KOf.of_sr {X : Nat} {R : List (Nat × Nat)} {L O : List Nat} (h : SR X (sgl 36) R L) (hb : BS L O) : KOf X O :=
  ⟨⟨L, hb, fun x => by rw [h.tabl.ker (print_lin X), sp_sgl]; exact Iff.rfl⟩, by have := hb.len (h.tabl.ind (sgl_ind 36)); have := h.lens; omega⟩
theorem KOf.of_ts {X : Nat} {P Q : Nat → Nat} {L A : List Nat} (h : TS X (sgl 36) P Q L) (hL : ∀ l, l ∈ L → Vs l) (hb : BI (L.map rkN) A []) : KOf X (A.map rkN) := by
  have hl := h.len
  rw [sgl_len] at hl
  obtain ⟨R, h1, _⟩ := h
  have hB := hb.base hL
  exact ⟨⟨L, hB, fun x => by rw [h1.ker (print_lin X), sp_sgl]; exact Iff.rfl⟩, by have := hB.len (h1.ind (sgl_ind 36)); omega⟩
set_option maxRecDepth 100000 in
theorem specKernel_ok (X : Nat) (hX : Vs X) (w : World) : Calls Tryz.prog 7 #[(.agg #[.int .i64 (row X 0), .int .i64 (row X 1), .int .i64 (row X 2), .int .i64 (row X 3), .int .i64 (row X 4), .int .i64 (row X 5)])] w fun e w' => ∃ vo O B, e = .returned (.tuple #[vo, .bool true]) ∧ OwnsS w' B vo O ∧ KOf X O ∧ Below w.heap.size w w' := by
  have HX := Lib.hid hX
  go_enter Tryz.func7, Tryz.ntmps7
  go_wp2_with (first | (go_at_call 36; (with_reducible refine (l2Sheet_ok _ _).mono ?_); rintro e w1 ⟨rfl, hb⟩; obtain ⟨hc, hf, hT, hz⟩ := bfacts hb; (try simp only [World.size_alloc, World.size_setCell, World.size_drew, size_drewN] at hc hf hT hz); (try (have hzA := Nat.lt_of_succ_le hz)); (try (have hl0 : w.heap.size ≤ w1.heap.size := by omega)); (try (have hz0 : w.heap.size < w1.heap.size := by omega)); (try (have hz1 : w.heap.size + 1 < w1.heap.size := by omega)); (try (have hz2 : w.heap.size + 1 + 1 < w1.heap.size := by omega)); (try (have hz3 : w.heap.size + 1 + 1 + 1 < w1.heap.size := by omega)); (try (have hz4 : w.heap.size + 1 + 1 + 1 + 1 < w1.heap.size := by omega))) | (go_at_call 37; (with_reducible refine (l4Kernel_any X HX.out _).mono ?_); rintro e w2 ⟨vo, O, rfl, B, hO, ⟨R, L, hSR, hBS⟩, hb2⟩; have hz2 := hb2.size))
  go_ret2
  exact ⟨_, O, B, rfl, hO, KOf.of_sr hSR hBS, (by repeat (first | with_reducible exact Below.refl _ _ | with_reducible assumption | with_reducible refine Below.drew ?_ | with_reducible refine below_drewN ?_ _ | with_reducible refine Below.alloc ?_ ?_ _ | with_reducible refine Below.setCell ?_ ?_ _ | with_reducible refine Below.trans ?_ (Below.mono (by assumption) ?_) | omega | (simp <;> omega)))⟩
set_option maxRecDepth 100000 in
theorem specKernel_no (a0 a1 a2 a3 a4 a5 : Int) (hn : ¬ Ok6 a0 a1 a2 a3 a4 a5) (w : World) : Calls Tryz.prog 7 #[(.agg #[.int .i64 a0, .int .i64 a1, .int .i64 a2, .int .i64 a3, .int .i64 a4, .int .i64 a5])] w fun e w' => ∃ vo B, e = .returned (.tuple #[vo, .bool false]) ∧ OwnsS w' B vo [] ∧ Below w.heap.size w w' := by
  go_enter Tryz.func7, Tryz.ntmps7
  go_wp2_with (go_at_call 36; (with_reducible refine (l2Sheet_no _ _ _ _ _ _ (by assumption) _).mono ?_); rintro e w1 ⟨rfl, hb⟩; obtain ⟨hc, hf, hT, hz⟩ := bfacts hb; (try simp only [World.size_alloc, World.size_setCell, World.size_drew, size_drewN] at hc hf hT hz); (try (have hzA := Nat.lt_of_succ_le hz)); (try (have hl0 : w.heap.size ≤ w1.heap.size := by omega)); (try (have hz0 : w.heap.size < w1.heap.size := by omega)); (try (have hz1 : w.heap.size + 1 < w1.heap.size := by omega)); (try (have hz2 : w.heap.size + 1 + 1 < w1.heap.size := by omega)); (try (have hz3 : w.heap.size + 1 + 1 + 1 < w1.heap.size := by omega)); (try (have hz4 : w.heap.size + 1 + 1 + 1 + 1 < w1.heap.size := by omega)))
  go_ret2
  exact ⟨_, _, rfl, ownsS_empty w1 w1.heap.size _ (Nat.le_refl _) rfl, (by repeat (first | with_reducible exact Below.refl _ _ | with_reducible assumption | with_reducible refine Below.drew ?_ | with_reducible refine below_drewN ?_ _ | with_reducible refine Below.alloc ?_ ?_ _ | with_reducible refine Below.setCell ?_ ?_ _ | with_reducible refine Below.trans ?_ (Below.mono (by assumption) ?_) | omega | (simp <;> omega)))⟩
set_option maxRecDepth 100000 in
theorem implKernel_no (a0 a1 a2 a3 a4 a5 : Int) (hn : ¬ Ok6 a0 a1 a2 a3 a4 a5) (w : World) : Calls Tryz.prog 6 #[(.agg #[.int .i64 a0, .int .i64 a1, .int .i64 a2, .int .i64 a3, .int .i64 a4, .int .i64 a5])] w fun e w' => e = .returned (.tuple #[.slice none 0 0, .bool false]) ∧ Below w.heap.size w w' := by
  go_enter Tryz.func6, Tryz.ntmps6
  go_wp2_with (go_at_call 31; (with_reducible refine (setOf_no _ _ _ _ _ _ (by assumption) _).mono ?_); rintro e w1 ⟨rfl, hb⟩; obtain ⟨hc, hf, hT, hz⟩ := bfacts hb; (try simp only [World.size_alloc, World.size_setCell, World.size_drew, size_drewN] at hc hf hT hz); (try (have hzA := Nat.lt_of_succ_le hz)); (try (have hl0 : w.heap.size ≤ w1.heap.size := by omega)); (try (have hz0 : w.heap.size < w1.heap.size := by omega)); (try (have hz1 : w.heap.size + 1 < w1.heap.size := by omega)); (try (have hz2 : w.heap.size + 1 + 1 < w1.heap.size := by omega)); (try (have hz3 : w.heap.size + 1 + 1 + 1 < w1.heap.size := by omega)); (try (have hz4 : w.heap.size + 1 + 1 + 1 + 1 < w1.heap.size := by omega)))
  go_ret2
  exact ⟨rfl, (by repeat (first | with_reducible exact Below.refl _ _ | with_reducible assumption | with_reducible refine Below.drew ?_ | with_reducible refine below_drewN ?_ _ | with_reducible refine Below.alloc ?_ ?_ _ | with_reducible refine Below.setCell ?_ ?_ _ | with_reducible refine Below.trans ?_ (Below.mono (by assumption) ?_) | omega | (simp <;> omega)))⟩
theorem rowU_grown {W w' : World} {r : Option Nat} {g : Nat} {A : List Nat} (h : RowU W g 0 A) (hg : W.grownBy w' r) (hl : g < W.heap.size) (hne : r ≠ some g) : RowU w' g 0 A := by
  have hb := hg.block g hl (fun e => hne e.symm)
  exact rowU_same h (fun j _ => by unfold World.cell?; rw [hb]) (fun j => by unfold World.frozen?; rw [hb])
/-- a row of numbers and a row of sheets are in different blocks -/
theorem rows_apart {w : World} {B g : Nat} {v : Value} {A L : List Nat} (h : RowU w g 0 A) (hA : 0 < A.length) (hv : OwnsS w B v L) (hL : 0 < L.length) : v.ownBlock ≠ some g := by
  intro e
  have h0 := (h 0 hA).1
  obtain ⟨g', cap, rfl, hg', hl'⟩ := hv.form
  have e' : g' = g := by simpa [Value.ownBlock] using e
  subst e'
  have h1 := (hv.cellsAt 0 hL).1
  rw [show 0 * 6 = 0 from rfl] at h1
  rw [Nat.zero_add, h1] at h0
  injection h0 with h0
  injection h0 with h2 _
  cases h2
theorem TS.ind36 {X : Nat} {P Q : Nat → Nat} {L : List Nat} (h : TS X (sgl 36) P Q L) : Ind L := by
  obtain ⟨R, h1, _⟩ := h
  exact h1.ind (sgl_ind 36)
theorem TS.len36 {X : Nat} {P Q : Nat → Nat} {L : List Nat} (h : TS X (sgl 36) P Q L) : L.length ≤ 36 := by
  have := h.len
  rwa [sgl_len] at this
def KeRel (A : List Nat) (g : Nat) (w : World) (o i : Value) (wr : World) : Prop :=
  ∃ k : Nat, k ≤ A.length ∧ i = .int .i64 (k : Int) ∧ OwnsS wr w.heap.size o ((A.take k).map rkN) ∧ (0 < A.length → o.ownBlock ≠ some g) ∧ RowU wr g 0 A ∧ g < wr.heap.size ∧ Below w.heap.size w wr
set_option maxRecDepth 100000 in
set_option maxHeartbeats 8000000 in
theorem implKernel_ok (X : Nat) (hX : Vs X) (w : World) (hz : TabZ w) : Calls Tryz.prog 6 #[(.agg #[.int .i64 (row X 0), .int .i64 (row X 1), .int .i64 (row X 2), .int .i64 (row X 3), .int .i64 (row X 4), .int .i64 (row X 5)])] w fun e w' => ∃ vo O, e = .returned (.tuple #[vo, .bool true]) ∧ OwnsS w' w.heap.size vo O ∧ KOf X O ∧ Below w.heap.size w w' := by
  obtain ⟨j0, hj, jz0, jz1, jz2⟩ := info_parts infoSheet
  have hzl := hz.lt
  have HZ := Lib.hid hz
  have HX := Lib.hid hX
  obtain ⟨d, hd⟩ := ker_ex X
  clear hz
  go_enter Tryz.func6, Tryz.ntmps6
  go_upto_region 6 with (first | (go_at_call 31; (with_reducible refine (setOf_ok _ hX _).mono ?_); rintro e w1 ⟨rfl, hb⟩; obtain ⟨hc, hf, hT, hz⟩ := bfacts hb; (try simp only [World.size_alloc, World.size_setCell, World.size_drew, size_drewN] at hc hf hT hz); (try (have hzA := Nat.lt_of_succ_le hz)); (try (have hl0 : w.heap.size ≤ w1.heap.size := by omega)); (try (have hz0 : w.heap.size < w1.heap.size := by omega)); (try (have hz1 : w.heap.size + 1 < w1.heap.size := by omega)); (try (have hz2 : w.heap.size + 1 + 1 < w1.heap.size := by omega)); (try (have hz3 : w.heap.size + 1 + 1 + 1 < w1.heap.size := by omega)); (try (have hz4 : w.heap.size + 1 + 1 + 1 + 1 < w1.heap.size := by omega))) | (go_at_call 32; (with_reducible refine (whole_any X HX.out _ (HZ.out.below (N := w.heap.size) (by repeat (first | with_reducible exact Below.refl _ _ | with_reducible assumption | with_reducible refine Below.drew ?_ | with_reducible refine below_drewN ?_ _ | with_reducible refine Below.alloc ?_ ?_ _ | with_reducible refine Below.setCell ?_ ?_ _ | with_reducible refine Below.trans ?_ (Below.mono (by assumption) ?_) | omega | (simp <;> omega))) hzl)).mono ?_); rintro e w2 ⟨T, P, Q, L, rfl, hTz, hT, hS, hb2⟩; have hTl := hT.1.lt; have hzz := hb2.size; obtain ⟨aq, cq, hq72, hqo⟩ := hT.quietSlice) | (go_at_call 33; (with_reducible refine (basis_any T aq cq L (KB.of_ts hS hd).vs hS.ind36 hS.len36 _ hq72 hTl hqo.reads).mono ?_); rintro e w4 ⟨g, cap, A, rfl, hg4, hRow, hBIx, hb4⟩))
  have hB1 : Below w.heap.size w w1 := (by repeat (first | with_reducible exact Below.refl _ _ | with_reducible assumption | with_reducible refine Below.drew ?_ | with_reducible refine below_drewN ?_ _ | with_reducible refine Below.alloc ?_ ?_ _ | with_reducible refine Below.setCell ?_ ?_ _ | with_reducible refine Below.trans ?_ (Below.mono (by assumption) ?_) | omega | (simp <;> omega)))
  have hKO := KOf.of_ts hS (KB.of_ts hS hd).vs hBIx
  have hA36 : A.length ≤ 36 := by have := hKO.2; rwa [List.length_map] at this
  have hALT : ∀ b, b ∈ A → b < 68719476736 := fun b hb' => hBIx.lt b (List.mem_append_left _ hb')
  have hO0 : OwnsS w4 w.heap.size (.slice (some ⟨w1.heap.size, 0, none⟩) 0 0) [] := ((ownsS_empty w1 w.heap.size w1.heap.size hB1.size rfl).below hb2).below hb4
  have hblk : w4.heap[w1.heap.size]? = some (.cells #[] 26 (0, 0)) :=
    (hb4.block _ (Nat.lt_of_lt_of_le (by simp) hb2.size)).trans ((hb2.block _ (by simp)).trans (heap_alloc_new w1 _))
  have hap0 : 0 < A.length → (Value.slice (some ⟨w1.heap.size, 0, none⟩) 0 0).ownBlock ≠ some g := fun hA e => by
    have e' : w1.heap.size = g := by simpa [Value.ownBlock] using e
    have h0 := (hRow 0 hA).1
    rw [← e'] at h0
    simp [World.cell?, hblk] at h0
  have hB4 : Below w.heap.size w w4 := ((hB1.alloc hB1.size _).trans (hb2.mono (by simp; omega))).trans (hb4.mono (by have := hb2.size; simp at this; omega))
  have HKO := Lib.hid hKO
  have HAL := Lib.hid hALT
  have hlA : 0 < A.length → 0 < A.length := id
  clear hKO hALT hblk hBIx hqo hq72 hT hS hb2 hb4 hb hc hf
  go_loopw [6, 21] (KeRel A g w) (fun _ i _ => A.length - (intOf i).toNat)
  case atStart => exact ⟨0, Nat.zero_le _, rfl, hO0, hap0, hRow, hg4, hB4⟩
  case round =>
    clear hO0 hap0 hRow hg4 hB4
    obtain ⟨k, hk, rfl, hO, hap, hrow, hgw, hbw⟩ := hrel
    by_cases hlt : k < A.length
    · have hlt' : (k : Int) < (A.length : Int) := by omega
      have hbsz := hbw.size
      have hck := (hrow k hlt).1
      rw [Nat.zero_add] at hck
      have htk := take_snoc A 0 k hlt
      have hbm : A.getD k 0 ∈ A := by rw [List.getD_eq_getElem?_getD, List.getElem?_eq_getElem hlt]; exact List.getElem_mem hlt
      have hb1 := HAL.out _ hbm
      generalize A.getD k 0 = b at *
      have hst := fun W => rset_any b hb1 W
      have hzv := rk_vs b
      obtain ⟨p1, hp1⟩ : ∃ p1, p1 = rkN b := ⟨_, rfl⟩
      rw [← hp1] at hst hzv
      have HST := Lib.hid hst
      have HT := Lib.hid htk
      have HP := Lib.hid hp1
      have hlk : ((A.take k).map rkN).length = k := by rw [List.length_map, List.length_take]; omega
      clear hst htk hp1 hbm
      have hOa := hO
      have hOb := hO.1
      rw [hlk] at hOb
      go_wp2_with (first | (go_at_call 34; (with_reducible refine (HST.out _).mono ?_); rintro e w1 ⟨rfl, rfl⟩) | (go_at_call 35; (with_reducible refine (sheet_any _ hzv _).mono ?_); rintro e w1 ⟨rfl, hb⟩; have hbz := hb.size) | (at_builtin; refine wpList_append_own _ rfl _ _ 28 rfl w.heap.size 26 j0 (.agg #[.int .i64 0, .int .i64 0, .int .i64 0, .int .i64 0, .int .i64 0, .int .i64 0]) 6 48 Tryz.underlying28 hj jz0 jz1 jz2 rfl (by decide) _ _ _ rfl ((hO.below hb).1.alloc _) ⟨w1.heap.size, 0, none⟩ 1 1 [.int .i64 (row p1 0), .int .i64 (row p1 1), .int .i64 (row p1 2), .int .i64 (row p1 3), .int .i64 (row p1 4), .int .i64 (row p1 5)] rfl rfl ?c1 ?c2 ?c3 ?c4 ?c5 ?_))
      case c1 =>
        intro j u hj
        match j, hj with
        | 0, hj => simp at hj; subst hj; simp [Addr.add]
        | 1, hj => simp at hj; subst hj; simp [Addr.add]
        | 2, hj => simp at hj; subst hj; simp [Addr.add]
        | 3, hj => simp at hj; subst hj; simp [Addr.add]
        | 4, hj => simp at hj; subst hj; simp [Addr.add]
        | 5, hj => simp at hj; subst hj; simp [Addr.add]
      case c2 =>
        intro u hu
        simp at hu
        rcases hu with rfl | rfl | rfl | rfl | rfl | rfl <;> rfl
      case c3 => unfold maxLen; omega
      case c4 => omega
      case c5 => simp; omega
      intro v' w5 hown' hgrow hnil
      have hN : v' ≠ .slice none 0 0 := fun h => by first | exact hnil h | exact hO.2 (hnil.1 h).1
      have hO' : OwnsS w5 w.heap.size v' ((A.take (k + 1)).map rkN) := by
        refine ⟨?_, hN⟩
        rw [HT.out, List.map_append, show [b].map rkN = [p1] by rw [HP.out]; rfl, shI_snoc, List.map_append, List.length_append, hlk]
        rw [← List.map_take] at hown'
        exact hown'
      have hrowA := rowU_below hrow (hb.alloc hb.size (.cells #[.int .i64 (row p1 0), .int .i64 (row p1 1), .int .i64 (row p1 2), .int .i64 (row p1 3), .int .i64 (row p1 4), .int .i64 (row p1 5)] 26)) hgw
      have hrow5 := rowU_grown hrowA hgrow (by simp; omega) (hap (by omega))
      have hB5 : Below w.heap.size w w5 := ((hbw.trans (hb.mono hbw.size)).alloc (by omega) _).grown hgrow (by simp; omega) (fun j hj => by have := (hO.1.lt j hj).1; omega)
      have hg5 : g < w5.heap.size := Nat.lt_of_lt_of_le (by simp; omega) hgrow.size
      have hap5 : 0 < A.length → v'.ownBlock ≠ some g := fun hA => rows_apart hrow5 hA hO' (by rw [List.length_map, List.length_take]; omega)
      clear hown' hgrow hnil hN hOa hOb
      go_wp2
      go_roundw
      case rel => exact ⟨k + 1, by omega, by go_num, hO', hap5, hrow5, hg5, hB5⟩
      case measure => simp [intOf]; omega
    · have e : k = A.length := by omega
      subst e
      rw [List.take_length] at hO
      go_wp2
      go_ret2
      exact ⟨_, _, rfl, hO, HKO.out, hbw⟩
end Go.Proofs.YtgjgefbcfcomcaaGreatDoor
