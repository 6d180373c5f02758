/-
  The program's basis of quiet presses: contract. No conditions.
-/
import Derived.Test.YtgjgefbcfcomcaaGreatDoorVb
namespace Go.Proofs.YtgjgefbcfcomcaaGreatDoor
open Go.RowKit
set_option linter.unusedSimpArgs false
set_option linter.unusedVariables false

theorem alls_map {F : Nat → Nat} (h : Lin F) : ∀ l, alls (l.map F) = (alls l).map F
  | [] => by show [0] = [F 0]; rw [h.zero]
  | v :: l => by
    show alls (l.map F) ++ (alls (l.map F)).map (fun x => x ^^^ F v) = (alls l ++ (alls l).map (fun x => x ^^^ v)).map F
    rw [alls_map h l, List.map_append, List.map_map, List.map_map]
    congr 1
    apply List.map_congr_left
    intro x _
    exact (h x v).symm
theorem ind_of_map {F : Nat → Nat} (h : Lin F) {l : List Nat} (hi : Ind (l.map F)) : Ind l := by
  unfold Ind at *
  rw [alls_map h, List.Nodup, List.pairwise_map] at hi
  exact hi.imp (fun hne e => hne (by rw [e]))
theorem ind_rk {L : List Nat} (hL : ∀ l, l ∈ L → Vs l) (hi : Ind L) : Ind (L.map rkN) := by
  apply ind_of_map rk_lin
  have : (L.map rkN).map rkN = L := by
    rw [List.map_map]
    conv => rhs; rw [← List.map_id L]
    exact List.map_congr_left fun a ha => rk_back a (hL a ha)
  rw [this]
  exact hi
theorem infoRank : (Tryz.prog.info? 60).map (fun i => (i.zero, i.size, i.bytes)) = some (some (.int .u64 0), 1, 8) := by kernel_rfl
theorem rowU_of_owns {w : World} {B g cap : Nat} {e : TypeId} {D : List Nat} {n : Nat} (hn : n = D.length) (h : w.ownsRow B e 1 (.slice (some ⟨g, 0, none⟩) n cap) n (usV D)) : RowU w g 0 D := by
  intro j hj
  have := h.cells (g := g) rfl j (.int .u64 ((D.getD j 0 : Nat) : Int)) (by
    unfold usV
    rw [List.getElem?_map, List.getElem?_eq_getElem hj, List.getD_eq_getElem?_getD, List.getElem?_eq_getElem hj]
    rfl)
  have e1 : (⟨g, 0, none⟩ : Addr).add j = ⟨g, j, none⟩ := by
    unfold Addr.add
    split <;> simp_all
  rw [e1] at this
  rw [Nat.zero_add]
  exact ⟨this, World.ownsRow.frozenAt h j⟩
theorem rowU_split {w : World} {g off : Nat} {A B : List Nat} : RowU w g off (A ++ B) ↔ RowU w g off A ∧ RowU w g (off + A.length) B := by
  constructor
  · intro h
    refine ⟨fun j hj => ?_, fun j hj => ?_⟩
    · have := h j (by rw [List.length_append]; omega)
      rwa [List.getD_eq_getElem?_getD, List.getElem?_append_left hj, ← List.getD_eq_getElem?_getD] at this
    · have := h (A.length + j) (by rw [List.length_append]; omega)
      rw [List.getD_eq_getElem?_getD, List.getElem?_append_right (by omega), show A.length + j - A.length = j by omega, ← List.getD_eq_getElem?_getD] at this
      rwa [Nat.add_assoc]
  · intro ⟨h1, h2⟩ j hj
    rw [List.length_append] at hj
    by_cases ha : j < A.length
    · have := h1 j ha
      rwa [List.getD_eq_getElem?_getD, List.getElem?_append_left ha, ← List.getD_eq_getElem?_getD]
    · have := h2 (j - A.length) (by omega)
      rw [List.getD_eq_getElem?_getD, List.getElem?_append_right (by omega), ← List.getD_eq_getElem?_getD]
      rwa [show off + A.length + (j - A.length) = off + j by omega] at this
theorem rowU_same {w w' : World} {g off : Nat} {D : List Nat} (h : RowU w g off D) (hc : ∀ j, j < D.length → w'.cell? ⟨g, off + j, none⟩ = w.cell? ⟨g, off + j, none⟩) (hf : ∀ j, w'.frozen? ⟨g, j, none⟩ = w.frozen? ⟨g, j, none⟩) : RowU w' g off D := fun j hj => by
  rw [hc j hj, hf]
  exact h j hj
theorem rowU_below {w w' : World} {N g off : Nat} {D : List Nat} (h : RowU w g off D) (hb : Below N w w') (hg : g < N) : RowU w' g off D :=
  rowU_same h (fun j _ => hb.cell (p := ⟨g, off + j, none⟩) hg) (fun j => hb.frozen (p := ⟨g, j, none⟩) hg)
theorem rowU_set {w : World} {g : Nat} {D : List Nat} (h : RowU w g 0 D) (k v : Nat) (hk : k < D.length) : RowU (w.setCell ⟨g, k, none⟩ (.int .u64 (v : Int))) g 0 (D.set k v) := by
  intro j hj
  rw [List.length_set] at hj
  have h1 := h j hj
  have h2 := h k hk
  rw [Nat.zero_add] at h1 h2 ⊢
  refine ⟨?_, by rw [World.frozen?_setCell]; exact h1.2⟩
  rw [set_at h2.1 j]
  by_cases e : j = k
  · subst e
    rw [if_pos rfl, List.getD_eq_getElem?_getD, List.getElem?_set_self hj]
    rfl
  · rw [if_neg e, h1.1, List.getD_eq_getElem?_getD, List.getD_eq_getElem?_getD, List.getElem?_set_ne (by omega)]
/-- the block g holds the n numbers f -/
def RowF (w : World) (g n : Nat) (f : Nat → Nat) : Prop := ∀ j, j < n → w.cell? ⟨g, j, none⟩ = some (.int .u64 ((f j : Nat) : Int)) ∧ w.frozen? ⟨g, j, none⟩ = false
theorem rowF_of {w : World} {g : Nat} {D : List Nat} (h : RowU w g 0 D) : RowF w g D.length (fun j => D.getD j 0) := fun j hj => by
  have := h j hj
  rwa [Nat.zero_add] at this
theorem rowF_to {w : World} {g n : Nat} {f : Nat → Nat} {D : List Nat} (h : RowF w g n f) (hn : D.length = n) (he : ∀ j, j < n → f j = D.getD j 0) : RowU w g 0 D := fun j hj => by
  rw [Nat.zero_add, ← he j (by omega)]
  exact h j (by omega)
theorem rowF_congr {w : World} {g n : Nat} {f f' : Nat → Nat} (h : RowF w g n f) (he : ∀ j, j < n → f j = f' j) : RowF w g n f' := fun j hj => by
  rw [← he j hj]
  exact h j hj
theorem rowF_set {w : World} {g n : Nat} {f : Nat → Nat} (h : RowF w g n f) (k v : Nat) (hk : k < n) : RowF (w.setCell ⟨g, k, none⟩ (.int .u64 (v : Int))) g n (fun i => if i = k then v else f i) := fun j hj => by
  refine ⟨?_, by rw [World.frozen?_setCell]; exact (h j hj).2⟩
  rw [set_at (h k hk).1 j]
  by_cases e : j = k
  · rw [if_pos e]
    show some _ = some (Value.int .u64 (((if j = k then v else f j) : Nat) : Int))
    rw [if_pos e]
  · rw [if_neg e, (h j hj).1]
    show some _ = some (Value.int .u64 (((if j = k then v else f j) : Nat) : Int))
    rw [if_neg e]
/-- the numbers when the lead of p, that stands at the place k, has been taken from the first j -/
def elF (D : List Nat) (p k j : Nat) : Nat → Nat := fun i => if i < j ∧ i ≠ k then adR2 p (D.getD i 0) else D.getD i 0
theorem elF_zero (D : List Nat) (p k i : Nat) : elF D p k 0 i = D.getD i 0 := by unfold elF; rw [if_neg (by omega)]
theorem elF_at (D : List Nat) (p k j : Nat) : elF D p k j j = D.getD j 0 := by unfold elF; rw [if_neg (by omega)]
theorem elF_own (D : List Nat) (p k j : Nat) : elF D p k j k = D.getD k 0 := by unfold elF; rw [if_neg (by omega)]
theorem elF_yes (D : List Nat) (p k j i : Nat) (hj : j ≠ k) : (if i = j then adR2 p (D.getD j 0) else elF D p k j i) = elF D p k (j + 1) i := by
  unfold elF
  by_cases e : i = j
  · subst e
    rw [if_pos rfl, if_pos ⟨by omega, hj⟩]
  · rw [if_neg e]
    by_cases h : i < j ∧ i ≠ k
    · rw [if_pos h, if_pos ⟨by omega, h.2⟩]
    · rw [if_neg h, if_neg (by omega)]
theorem elF_no (D : List Nat) (p k j i : Nat) (hj : j = k ∨ (D.getD j 0).testBit (tb p) = false) : elF D p k j i = elF D p k (j + 1) i := by
  unfold elF
  by_cases e : i = j
  · subst e
    rcases hj with hj | hj
    · rw [if_neg (by omega), if_neg (by omega)]
    · rw [if_neg (by omega)]
      split
      · unfold adR2
        rw [if_neg (by rw [hj]; decide)]
      · rfl
  · by_cases h : i < j ∧ i ≠ k
    · rw [if_pos h, if_pos ⟨by omega, h.2⟩]
    · rw [if_neg h, if_neg (by omega)]
theorem elF_all (A C : List Nat) (p i : Nat) (hi : i < A.length + (C.length + 1)) : elF (A ++ p :: C) p A.length (A.length + (C.length + 1)) i = ((A.map (adR2 p) ++ [p]) ++ C.map (adR2 p)).getD i 0 := by
  unfold elF
  by_cases h1 : i < A.length
  · rw [if_pos ⟨hi, by omega⟩, List.getD_eq_getElem?_getD, List.getElem?_append_left h1, List.getD_eq_getElem?_getD, List.getElem?_append_left (by simp <;> omega), List.getElem?_append_left (by simpa using h1), List.getElem?_map, List.getElem?_eq_getElem h1]
    rfl
  · by_cases h2 : i = A.length
    · subst h2
      rw [if_neg (by omega), List.getD_eq_getElem?_getD, List.getElem?_append_right (by omega), List.getD_eq_getElem?_getD, List.getElem?_append_left (by simp), List.getElem?_append_right (by simp)]
      simp
    · obtain ⟨m, rfl⟩ : ∃ m, i = A.length + 1 + m := ⟨i - A.length - 1, by omega⟩
      rw [if_pos ⟨hi, h2⟩, List.getD_eq_getElem?_getD, List.getElem?_append_right (by omega), show A.length + 1 + m - A.length = m + 1 by omega, List.getElem?_cons_succ, List.getD_eq_getElem?_getD, List.getElem?_append_right (by simp <;> omega),
        show A.length + 1 + m - (A.map (adR2 p) ++ [p]).length = m by simp, List.getElem?_map, List.getElem?_eq_getElem (show m < C.length by omega)]
      rfl
theorem and_tp (n i : Nat) : n &&& 2 ^ i = (n.testBit i).toNat * 2 ^ i := by
  apply Nat.eq_of_testBit_eq
  intro j
  rw [Nat.testBit_and, Nat.testBit_two_pow]
  cases h : n.testBit i
  · by_cases e : i = j
    · subst e; simp [h]
    · simp [e]
  · by_cases e : i = j
    · subst e; simp [h]
    · simp [e]
theorem and_pow (r k : Nat) (hr : r < 68719476736) (hk : k < 36) : bits .and .u64 ((r : Nat) : Int) ((2 ^ k : Nat) : Int) = if r.testBit k = true then ((2 ^ k : Nat) : Int) else 0 := by
  have hp64 : (2 : Nat) ^ k < 18446744073709551616 := Nat.lt_of_lt_of_le (Nat.pow_lt_pow_right (by omega) hk) (by decide)
  rw [u64_and_nat _ _ (by omega) hp64, and_tp]
  cases r.testBit k <;> simp
def BbRel (L : List Nat) (w : World) (o i : Value) (wr : World) : Prop :=
  ∃ k : Nat, k ≤ L.length ∧ i = .int .i64 (k : Int) ∧ wr.ownsRow w.heap.size 60 1 o k (usV ((L.take k).map rkN)) ∧ o ≠ .slice none 0 0 ∧ Below w.heap.size w wr
def BsEnd (L : List Nat) (w : World) (e : Ending) (w' : World) : Prop :=
  ∃ (g cap : Nat) (A : List Nat), e = .returned (.slice (some ⟨g, 0, none⟩) A.length cap) ∧ g < w'.heap.size ∧ RowU w' g 0 A ∧ BI (L.map rkN) A [] ∧ Below w.heap.size w w'
def B2Rel (L : List Nat) (g : Nat) (w : World) (i : Value) (wr : World) : Prop :=
  ∃ A B : List Nat, A.length + B.length = L.length ∧ i = .int .i64 (A.length : Int) ∧ BI (L.map rkN) A B ∧ RowU wr g 0 (A ++ B) ∧ g < wr.heap.size ∧ Below w.heap.size w wr
def B3Rel (n : Nat) (D : List Nat) (p k g : Nat) (w1 : World) (i : Value) (wr : World) : Prop :=
  ∃ j : Nat, j ≤ n ∧ i = .int .i64 (j : Int) ∧ RowF wr g n (elF D p k j) ∧ g < wr.heap.size ∧ Below g w1 wr
set_option maxRecDepth 100000 in
set_option maxHeartbeats 8000000 in
theorem basis_any (T : Nat) (a : Option Addr) (cq : Nat) (L : List Nat) (hL : ∀ l, l ∈ L → Vs l) (hLi : Ind L) (hLl : L.length ≤ 36) (w : World) (hc0 : w.cell? ⟨T, 72, none⟩ = some (.slice a L.length cq)) (hTl : T < w.heap.size) (hr : ReadsU w (.slice a L.length cq) L) :
    Calls Tryz.prog 33 #[.pointer (some ⟨T, 0, none⟩)] w (BsEnd L w) := by
  obtain ⟨i0, hi, iz0, iz1, iz2⟩ := info_parts infoRank
  have hBI := Lib.hid (BI.start (ind_rk hL hLi) (fun x hx => by obtain ⟨l, _, rfl⟩ := List.mem_map.1 hx; exact rkN_lt l))
  have HL := Lib.hid hL
  clear hL hLi
  go_enter Tryz.func33, Tryz.ntmps33
  go_wp2
  go_loopw [3, 15] (BbRel L w) (fun _ i _ => L.length - (intOf i).toNat)
  case atStart => exact ⟨0, Nat.zero_le _, rfl, World.ownsRow_lit (e := 60) w #[] 0 (Nat.le_refl _) (by unfold maxLen; omega) (by simp), by simp, (Below.refl _ _).alloc (Nat.le_refl _) _⟩
  case round =>
    obtain ⟨k, hk, rfl, hown, hne, hbw⟩ := hrel
    by_cases hlt : k < L.length
    · have hlt' : (k : Int) < (L.length : Int) := by omega
      have hbsz := hbw.size
      rcases hr with ⟨h1, _⟩ | ⟨g, cap, h1, hg, hcell⟩
      · injection h1 with _ h2 _
        omega
      injection h1 with h2 _ h3
      subst h2 h3
      have hck := (hbw.cell (p := ⟨g, k, none⟩) hg).trans (hcell k hlt)
      have hqm : L.getD k 0 ∈ L := by rw [List.getD_eq_getElem?_getD, List.getElem?_eq_getElem hlt]; exact List.getElem_mem hlt
      have hqv := HL.out _ hqm
      have htk := take_snoc L 0 k hlt
      generalize L.getD k 0 = q at *
      have hRK := rank_any q hqv
      have hlenk : (usV ((L.take k).map rkN)).length = k := by unfold usV; simp; omega
      obtain ⟨R, hR⟩ : ∃ R, R = rkN q := ⟨_, rfl⟩
      rw [← hR] at hRK
      have HRK := Lib.hid hRK
      have HR := Lib.hid hR
      have HT := Lib.hid htk
      clear hRK hR htk hqm hqv
      go_wp2_with (first | (go_at_call 59; (with_reducible refine (HRK.out _).mono ?_); rintro e w1 ⟨rfl, rfl⟩) | (at_builtin; refine wpList_append_own _ rfl _ _ 56 rfl w.heap.size 60 i0 (.int .u64 0) 1 8 Tryz.underlying56 hi iz0 iz1 iz2 rfl (by decide) _ _ _ rfl (World.ownsRow.alloc hown _) ⟨wr.heap.size, 0, none⟩ 1 1 [.int .u64 ((R : Nat) : Int)] rfl rfl ?c1 ?c2 ?c3 ?c4 ?c5 ?_))
      case c1 =>
        intro j u hj
        match j, hj with
        | 0, hj => simp at hj; subst hj; simp [Addr.add]
      case c2 => intro u hu; simp at hu; subst hu; rfl
      case c3 => unfold maxLen; omega
      case c4 => omega
      case c5 => have := hbw.size; simp; omega
      intro v' w1 hown' hgrow hnil
      have hB : Below w.heap.size w w1 := (hbw.alloc hbw.size _).grown hgrow (by have := hbw.size; simp; omega) (fun j hj => (hown.lt j hj).1)
      have hO : w1.ownsRow w.heap.size 60 1 v' (k + 1) (usV ((L.take (k + 1)).map rkN)) := by
        rw [HT.out, List.map_append]
        unfold usV at *
        rw [List.map_append]
        rw [HR.out] at hown'
        rw [← List.map_take] at hown'
        exact hown'
      have hne' : v' ≠ .slice none 0 0 := hnil
      clear hown' hgrow hnil hown
      go_wp2
      go_roundw
      case rel => exact ⟨k + 1, by omega, by go_num, hO, hne', hB⟩
      case measure => simp [intOf]; omega
    · have e : k = L.length := by omega
      subst e
      rw [List.take_length] at hown
      rcases hown.2 with ⟨h1, _⟩ | ⟨g2, cap2, cur, rfl, hg2, hh2, hc1, hc2, hc3, hc4⟩
      · exact absurd h1 hne
      have hg2l : g2 < wr.heap.size := (Array.getElem?_eq_some_iff.1 hh2).1
      have hRow := rowU_of_owns (D := L.map rkN) (List.length_map rkN).symm hown
      clear hown hne hh2 hc3 hc4 cur hr hc0
      go_wp2
      go_loopw [6] (B2Rel L g2 w) (fun i _ => L.length - (intOf i).toNat)
      case atStart => exact ⟨[], L.map rkN, by simp, rfl, hBI.out, hRow, hg2l, hbw⟩
      case round =>
        clear hRow hg2l hbw
        obtain ⟨A, B, hAB, rfl, hbi, hrow, hgw, hbw⟩ := hrel
        cases B with
        | nil =>
          have e : A.length = L.length := by simpa using hAB
          have hlt' : ¬ (A.length : Int) < (L.length : Int) := by omega
          rw [List.append_nil] at hrow
          have HBI := Lib.hid hbi
          go_wp2
          go_ret
          exact ⟨g2, cap2, A, by rw [e]; rfl, hgw, hrow, HBI.out, hbw⟩
        | cons b0 B0 =>
          have hlt' : (A.length : Int) < (L.length : Int) := by rw [List.length_cons] at hAB; omega
          obtain ⟨B, hBd⟩ : ∃ B, B = b0 :: B0 := ⟨_, rfl⟩
          rw [← hBd] at hAB hbi hrow
          have hBne : 0 < B.length := by rw [hBd]; simp
          clear hBd b0 B0
          obtain ⟨ra, rb⟩ := rowU_split.1 hrow
          rw [Nat.zero_add] at rb
          have hsrt := fun cp => sort_any g2 A.length cp B wr rb hgw (by omega)
          have HSR := Lib.hid hsrt
          have HBI := Lib.hid hbi
          have HRA := Lib.hid ra
          have hBl : L.length - A.length = B.length := by omega
          have hle : A.length ≤ L.length := by omega
          clear hsrt hbi ra rb hrow
          go_upto_region 10 with (go_at_call 60; (with_reducible refine (HSR.out _).mono ?_); rintro e w1 ⟨rfl, hS1, hlow, hfro, hbel⟩)
          have hwg : g2 < w1.heap.size := Nat.lt_of_lt_of_le hgw hbel.size
          have hln := srt_len B
          obtain ⟨p, C, hpc⟩ : ∃ p C, srt B = p :: C := by
            cases hS : srt B with
            | nil => rw [hS] at hln; simp at hln; omega
            | cons p C => exact ⟨p, C, rfl⟩
          have hmem : ∀ x, x ∈ B ↔ x ∈ p :: C := fun x => by rw [← hpc]; exact (srt_mem B x).symm
          rw [hpc] at hS1 hln
          have hlC : B.length = C.length + 1 := by rw [← hln]; simp
          have hstep := HBI.out.step hmem hlC (srt_max B p C hpc)
          have hpAB : p ∈ A ++ B := List.mem_append_right _ ((hmem p).2 List.mem_cons_self)
          have hp0 := ind_ne HBI.out.ind p hpAB
          have hplt := HBI.out.lt p hpAB
          have hDlt : ∀ i, (A ++ p :: C).getD i 0 < 68719476736 := fun i => by
            rw [List.getD_eq_getElem?_getD]
            cases hx : (A ++ p :: C)[i]? with
            | none => simp
            | some x =>
              have hm := List.mem_of_getElem? hx
              rcases List.mem_append.1 hm with hm | hm
              · exact HBI.out.lt x (List.mem_append_left _ hm)
              · exact HBI.out.lt x (List.mem_append_right _ ((hmem x).2 hm))
          have hra1 := rowU_same HRA.out (fun j hj => by rw [Nat.zero_add]; exact hlow j hj) hfro
          have hall : RowU w1 g2 0 (A ++ p :: C) := rowU_split.2 ⟨hra1, by rw [Nat.zero_add]; exact hS1⟩
          have hF := rowF_of hall
          have hDl : (A ++ p :: C).length = L.length := by rw [List.length_append, List.length_cons]; omega
          rw [hDl] at hF
          have hpk : (A ++ p :: C).getD A.length 0 = p := by rw [List.getD_eq_getElem?_getD, List.getElem?_append_right (Nat.le_refl _)]; simp
          have hpc1 := (hF A.length (by omega)).1
          dsimp only at hpc1
          rw [hpk] at hpc1
          have hBw : Below w.heap.size w w1 := hbw.trans (hbel.mono hg2)
          obtain ⟨_, htb⟩ := rk_tb p hplt hp0
          have hap := fun x hx => and_pow x (tb p) hx htb
          have hld := fun W => lead_any p hplt hp0 W
          have hPp : 0 < 2 ^ tb p := Nat.two_pow_pos _
          generalize 2 ^ tb p = P2 at hap hld hPp
          have HST := Lib.hid hstep
          have HF := Lib.hid hF
          have HAP := Lib.hid hap
          have HLD := Lib.hid hld
          have HDL := Lib.hid hDlt
          have hlCA : L.length = A.length + (C.length + 1) := by omega
          have HPK := Lib.hid hpk
          have HCA := Lib.hid hlCA
          clear hS1 hlow hfro hbel hln hpc hmem hlC hstep hDlt hra1 hall hF hDl hap hld hpk hlCA hpAB HSR HRA HBI hbw
          go_upto_region 11 with (go_at_call 62; (with_reducible refine (HLD.out _).mono ?_); rintro e w1 ⟨rfl, rfl⟩)
          go_wp2
          obtain ⟨D, hD⟩ : ∃ D, D = A ++ p :: C := ⟨_, rfl⟩
          rw [← hD] at HF HDL HPK
          have HD := Lib.hid hD
          clear hD
          go_loopw [40] (B3Rel L.length D p A.length g2 w1) (fun i _ => L.length - (intOf i).toNat)
          case atStart => exact ⟨0, Nat.zero_le _, rfl, rowF_congr HF.out (fun i _ => (elF_zero D p A.length i).symm), hwg, Below.refl _ _⟩
          case round =>
            obtain ⟨j, hj, rfl, hrf, hgq, hbq⟩ := hrel
            by_cases hjl : j < L.length
            · have hjl' : (j : Int) < (L.length : Int) := by omega
              have hcj := (hrf j hjl).1
              have hfj := (hrf j hjl).2
              have hck := (hrf A.length (by omega)).1
              have hfk := (hrf A.length (by omega)).2
              rw [elF_at] at hcj
              rw [elF_own, HPK.out] at hck
              have hxlt := HDL.out j
              have hY := fun (hjk : j ≠ A.length) i => elF_yes D p A.length j i hjk
              have hN := fun h i => elF_no D p A.length j i h
              have hap := HAP.out (D.getD j 0) hxlt
              have HRF := Lib.hid hrf
              generalize D.getD j 0 = x at hcj hxlt hY hN hap
              have HY := Lib.hid hY
              have HN := Lib.hid hN
              clear hY hN hrf
              by_cases hjk : j = A.length
              · have hjkI : (j : Int) = (A.length : Int) := by omega
                clear hap
                go_wp2
                go_roundw
                case rel => exact ⟨j + 1, by omega, by go_num, rowF_congr HRF.out (fun i _ => HN.out (.inl hjk) i), hgq, hbq⟩
                case measure => simp [intOf]; omega
              · have hjkI : ¬ (j : Int) = (A.length : Int) := by omega
                by_cases hb : x.testBit (tb p) = true
                · rw [if_pos hb] at hap
                  have hxx := xor_vs_u64 (X := x) (Y := p) hxlt hplt
                  have hPI : ¬ ((P2 : Nat) : Int) = 0 := by omega
                  have hbq1 : ((j : Int) != (A.length : Int)) = true := bne_iff_ne.mpr hjkI
                  have hbq2 : (((P2 : Nat) : Int) != 0) = true := bne_iff_ne.mpr hPI
                  obtain ⟨s, hs⟩ : ∃ s, s = x ^^^ p := ⟨_, rfl⟩
                  rw [← hs] at hxx
                  have HS := Lib.hid hs
                  clear hs
                  go_wp2
                  go_region_with fail
                  all_goals
                    go_wp2
                    go_roundw
                    case rel => exact ⟨j + 1, by omega, by go_num, rowF_congr (rowF_set (w := wr.drew) (show RowF wr.drew g2 L.length (elF D p A.length j) from HRF.out) j s hjl) (fun i _ => by rw [← HY.out hjk i, HS.out, show adR2 p x = x ^^^ p by unfold adR2; rw [if_pos hb]]), by simpa [World.setCell] using hgq, hbq.drew.setCell (Nat.le_refl _) _⟩
                    case measure => simp [intOf]; omega
                · rw [if_neg hb] at hap
                  go_wp2
                  go_roundw
                  case rel => exact ⟨j + 1, by omega, by go_num, rowF_congr HRF.out (fun i _ => HN.out (.inr (Bool.eq_false_iff.2 hb)) i), hgq, hbq⟩
                  case measure => simp [intOf]; omega
            · have e : j = L.length := by omega
              subst e
              have hfin : RowU wr g2 0 ((A.map (adR2 p) ++ [p]) ++ C.map (adR2 p)) := by
                refine rowF_to hrf ?_ fun i hi => ?_
                · have := HCA.out
                  simp only [List.length_append, List.length_map, List.length_cons, List.length_nil]
                  omega
                · rw [HD.out, HCA.out]
                  exact elF_all A C p i (by rw [← HCA.out]; exact hi)
              have HFN := Lib.hid hfin
              clear hfin hrf
              go_wp2
              go_roundw
              case rel => exact ⟨A.map (adR2 p) ++ [p], C.map (adR2 p), by have := HCA.out; simp only [List.length_append, List.length_map, List.length_cons, List.length_nil]; omega, by simp, HST.out, HFN.out, hgq, hBw.trans (hbq.mono hg2)⟩
              case measure => simp [intOf]; omega
end Go.Proofs.YtgjgefbcfcomcaaGreatDoor
