/-
  The program's LeastPresses: contract. Under: the library's own table of the lowest bits lies as its initialiser lays it.
-/
import Derived.Test.YtgjgefbcfcomcaaDoorVc
import Derived.Test.YtgjgefbcfcomcaaDoorUs
namespace Go.Proofs.YtgjgefbcfcomcaaDoor
open Go.RowKit
set_option linter.unusedSimpArgs false
set_option linter.unusedVariables false

theorem lt_tb {n m : Nat} (i : Nat) (hn : n.testBit i = false) (hm : m.testBit i = true) (h : ∀ j, i < j → n.testBit j = m.testBit j) : n < m := by
  apply Classical.byContradiction
  intro hc
  have e : n / 2 ^ (i + 1) = m / 2 ^ (i + 1) := by
    apply Nat.eq_of_testBit_eq
    intro j
    rw [Nat.testBit_div_two_pow, Nat.testBit_div_two_pow]
    exact h _ (by omega)
  have n1 : n / 2 ^ i % 2 = 0 := by
    rw [Nat.testBit_eq_decide_div_mod_eq] at hn
    have := of_decide_eq_false hn
    omega
  have m1 : m / 2 ^ i % 2 = 1 := by
    rw [Nat.testBit_eq_decide_div_mod_eq] at hm
    exact of_decide_eq_true hm
  rw [Nat.pow_succ, ← Nat.div_div_eq_div_mul, ← Nat.div_div_eq_div_mul] at e
  have h2 : n / 2 ^ i < m / 2 ^ i := by omega
  have h3 : m / 2 ^ i ≤ n / 2 ^ i := Nat.div_le_div_right (by omega)
  omega
def awR (r b : Nat) : Nat := if r.testBit (tb b) = true then r ^^^ b else r
theorem awR_keep (k : Nat) : ∀ (A : List Nat) (r : Nat), (∀ b, b ∈ A → b.testBit k = false) → r.testBit k = false → (A.foldl awR r).testBit k = false
  | [], _, _, h => h
  | b :: A, r, hA, h => by
    refine awR_keep k A (awR r b) (fun c hc => hA c (List.mem_cons_of_mem _ hc)) ?_
    unfold awR
    split
    · rw [Nat.testBit_xor, h, hA b List.mem_cons_self]; rfl
    · exact h
theorem awR_ok : ∀ (A : List Nat) (r : Nat), (∀ b, b ∈ A → b < 68719476736 ∧ b ≠ 0) → (A.Pairwise fun a b => tb b < tb a ∧ a.testBit (tb b) = false) →
    Sp A (r ^^^ A.foldl awR r) ∧ ∀ b, b ∈ A → (A.foldl awR r).testBit (tb b) = false
  | [], r, _, _ => ⟨Nat.xor_self r, fun b hb => by cases hb⟩
  | b :: A, r, hl, hp => by
    obtain ⟨p1, p2⟩ := List.pairwise_cons.1 hp
    obtain ⟨h1, h2⟩ := awR_ok A (awR r b) (fun c hc => hl c (List.mem_cons_of_mem _ hc)) p2
    obtain ⟨b1, b0⟩ := hl b List.mem_cons_self
    have hbit := tb_bit b (by omega) b0
    refine ⟨?_, fun c hc => ?_⟩
    · show Sp A _ ∨ Sp A _
      show Sp A (r ^^^ A.foldl awR (awR r b)) ∨ Sp A (r ^^^ A.foldl awR (awR r b) ^^^ b)
      generalize A.foldl awR (awR r b) = f at *
      by_cases h : r.testBit (tb b) = true
      · have e : awR r b = r ^^^ b := by unfold awR; rw [if_pos h]
        rw [e, xr] at h1
        exact .inr h1
      · have e : awR r b = r := by unfold awR; rw [if_neg h]
        rw [e] at h1
        exact .inl h1
    · show (A.foldl awR (awR r b)).testBit (tb c) = false
      rcases List.mem_cons.1 hc with e | hc
      · subst e
        refine awR_keep _ A _ (fun d hd => ?_) ?_
        · obtain ⟨d1, d0⟩ := hl d (List.mem_cons_of_mem _ hd)
          have h3 := (p1 d hd).1
          obtain ⟨_, h4⟩ := tb_spec d (by omega) d0
          have := Nat.pow_le_pow_right (n := 2) (by omega) (show tb d + 1 ≤ tb c by omega)
          exact Nat.testBit_lt_two_pow (by omega)
        · unfold awR
          split
          · rename_i h
            rw [Nat.testBit_xor, h, hbit]; rfl
          · rename_i h
            exact Bool.eq_false_iff.2 h
      · exact h2 c hc
theorem Lst.of_ranks {X t q : Nat} {P Q : Nat → Nat} {L A : List Nat} (h : TS X (sgl 36) P Q L) (hb : BI (L.map rkN) A []) (hL : ∀ l, l ∈ L → Vs l) (hq : Vs q) (e : printS X q = t) : Lst X t (rkN (A.foldl awR (rkN q))) := by
  have hB := hb.base hL
  obtain ⟨R, h1, h2⟩ := h
  have hk : ∀ x, Sp (A.map rkN) x ↔ Vs x ∧ printS X x = 0 := fun x => by rw [hB.sp, h1.ker (print_lin X), sp_sgl]; exact Iff.rfl
  have hlt : ∀ b, b ∈ A → b < 68719476736 ∧ b ≠ 0 := fun b hb' => ⟨hb.lt b (List.mem_append_left _ hb'), ind_ne hb.ind b (List.mem_append_left _ hb')⟩
  obtain ⟨g1, g2⟩ := awR_ok A (rkN q) hlt hb.sorted
  generalize A.foldl awR (rkN q) = f at *
  refine ⟨rk_vs f, ?_, fun x hx h0 hne => ?_⟩
  · have h3 := rk_lin.sp _ _ g1
    rw [rk_lin, rk_back q hq] at h3
    have h4 := ((hk _).1 h3).2
    rw [print_lin] at h4
    rw [← xor_eq0 h4, e]
  · obtain ⟨o, ho, eo⟩ := hB.lead_in ((hk x).2 ⟨hx, h0⟩) hne
    obtain ⟨b, hb', rfl⟩ := List.mem_map.1 ho
    obtain ⟨b1, b0⟩ := hlt b hb'
    obtain ⟨k1, k2⟩ := rk_tb b b1 b0
    rw [← eo, k1]
    have := rk_bit f (ldc (35 - tb b)) (ldc_lt _ (by omega))
    have hl := rk_ldc (rkN f) (35 - tb b) (by omega)
    have h5 : (rkN f).testBit (ldc (35 - tb b)) = f.testBit (tb b) := by
      rw [this]
      congr 1
      unfold ldc
      omega
    rw [h5]
    exact g2 b hb'
theorem Lst.ex (X t : Nat) (hc : CanT X t) : ∃ z, Lst X t z := by
  obtain ⟨y, hy, hp⟩ := hc
  have key : ∀ n z, rkN z ≤ n → Vs z → printS X z = t → ∃ z, Lst X t z := by
    intro n
    induction n with
    | zero =>
      intro z hn hz hp
      refine ⟨z, hz, hp, fun x hx h0 hne => ?_⟩
      have : rkN z = 0 := by omega
      have hz0 : z = 0 := by rw [← rk_back z hz, this]; rfl
      rw [hz0, Nat.zero_testBit]
    | succ n ih =>
      intro z hn hz hp
      by_cases h : ∀ x, Vs x → printS X x = 0 → x ≠ 0 → z.testBit (ldc (ldN x)) = false
      · exact ⟨z, hz, hp, h⟩
      · obtain ⟨x, hx⟩ := Classical.not_forall.1 h
        have hx1 : Vs x ∧ printS X x = 0 ∧ x ≠ 0 ∧ ¬ z.testBit (ldc (ldN x)) = false := by
          refine ⟨Classical.byContradiction fun g => hx fun a => absurd a g, Classical.byContradiction fun g => hx fun _ a => absurd a g, Classical.byContradiction fun g => hx fun _ _ a => absurd a g, fun g => hx fun _ _ _ => g⟩
        obtain ⟨g1, g2, g3, g4⟩ := hx1
        have hl : ldN x < 36 := Nat.lt_of_le_of_ne (ldN_le _) (fun e => g3 ((ldN_zero _ g1).1 e))
        have g5 : z.testBit (ldc (ldN x)) = true := by simpa using g4
        refine ih (z ^^^ x) ?_ (hz.xor g1) (by rw [print_lin, hp, g2, Nat.xor_zero])
        have hlt : rkN (z ^^^ x) < rkN z := by
          refine lt_tb (35 - ldN x) ?_ ?_ fun j hj => ?_
          · rw [rk_ldc _ _ hl, Nat.testBit_xor, g5, ldN_bit x hl]; rfl
          · rw [rk_ldc _ _ hl, g5]
          · rw [rk_lin, Nat.testBit_xor]
            have : (rkN x).testBit j = false := by
              by_cases h36 : j < 36
              · have e := rk_ldc x (35 - j) (by omega)
                rw [show 35 - (35 - j) = j by omega] at e
                rw [e]
                exact ldN_first x _ (by omega)
              · have := Nat.pow_le_pow_right (n := 2) (by omega) (show 36 ≤ j by omega)
                have := rkN_lt x
                exact Nat.testBit_lt_two_pow (by omega)
            rw [this, Bool.xor_false]
        omega
  exact key (rkN y) y (Nat.le_refl _) hy hp
theorem specLeast_z (X t z : Nat) (hX : Vs X) (ht : Vs t) (hc : CanT X t) (hz : Lst X t z) (w : World) :
    Calls Tryd.prog 32 #[(.agg #[.int .i64 (row X 0), .int .i64 (row X 1), .int .i64 (row X 2), .int .i64 (row X 3), .int .i64 (row X 4), .int .i64 (row X 5)]), (.agg #[.int .i64 (row t 0), .int .i64 (row t 1), .int .i64 (row t 2), .int .i64 (row t 3), .int .i64 (row t 4), .int .i64 (row t 5)])] w fun e w' => e = .returned (.tuple #[(.agg #[.int .i64 (row z 0), .int .i64 (row z 1), .int .i64 (row z 2), .int .i64 (row z 3), .int .i64 (row z 4), .int .i64 (row z 5)]), .bool true]) ∧ Below w.heap.size w w' :=
  (specLeast_ok X t hX ht hc w).mono fun e w' ⟨z', he, hL, hb⟩ => by
    rw [hL.uniq hz] at he
    exact ⟨he, hb⟩
theorem readsU_below {w w' : World} {v : Value} {G : List Nat} (h : ReadsU w v G) (hb : Below w.heap.size w w') : ReadsU w' v G := by
  rcases h with h | ⟨g, cap, h1, h2, h3⟩
  · exact .inl h
  · exact .inr ⟨g, cap, h1, Nat.lt_of_lt_of_le h2 hb.size, fun j hj => (hb.cell (p := ⟨g, j, none⟩) h2).trans (h3 j hj)⟩
def LeRel (A : List Nat) (r0 : Nat) (r i : Value) : Prop := ∃ k : Nat, k ≤ A.length ∧ i = .int .i64 (k : Int) ∧ r = .int .u64 (((A.take k).foldl awR r0 : Nat) : Int)
theorem awR_lt {r b : Nat} (hr : r < 68719476736) (hb : b < 68719476736) : awR r b < 68719476736 := by
  unfold awR
  split
  · exact Nat.xor_lt_two_pow (n := 36) hr hb
  · exact hr
theorem awL_lt : ∀ (A : List Nat) (r : Nat), r < 68719476736 → (∀ b, b ∈ A → b < 68719476736) → A.foldl awR r < 68719476736
  | [], _, h, _ => h
  | b :: A, r, h, hA => awL_lt A (awR r b) (awR_lt h (hA b List.mem_cons_self)) fun c hc => hA c (List.mem_cons_of_mem _ hc)
set_option maxRecDepth 100000 in
set_option maxHeartbeats 4000000 in
theorem implLeast_ok (X t z : Nat) (hX : Vs X) (ht : Vs t) (hc : CanT X t) (hz1 : Lst X t z) (w : World) (hz : TabZ w) :
    Calls Tryd.prog 33 #[(.agg #[.int .i64 (row X 0), .int .i64 (row X 1), .int .i64 (row X 2), .int .i64 (row X 3), .int .i64 (row X 4), .int .i64 (row X 5)]), (.agg #[.int .i64 (row t 0), .int .i64 (row t 1), .int .i64 (row t 2), .int .i64 (row t 3), .int .i64 (row t 4), .int .i64 (row t 5)])] w fun e w' => e = .returned (.tuple #[(.agg #[.int .i64 (row z 0), .int .i64 (row z 1), .int .i64 (row z 2), .int .i64 (row z 3), .int .i64 (row z 4), .int .i64 (row z 5)]), .bool true]) ∧ Below w.heap.size w w' := by
  have hzl := hz.lt
  have HZ := Lib.hid hz
  have HX := Lib.hid hX
  have HT := Lib.hid ht
  have HC := Lib.hid hc
  have HL := Lib.hid hz1
  clear hz hc hz1
  go_enter Tryd.func33, Tryd.ntmps33
  go_upto_region 6 with (first | (go_at_call 49; (with_reducible refine (twoSets_ok _ _ hX ht _).mono ?_); rintro e w1 ⟨rfl, hb⟩; obtain ⟨hc, hf, hT, hz⟩ := bfacts hb; (try simp only [World.size_alloc, World.size_setCell, World.size_drew, size_drewN] at hc hf hT hz); (try (have hzA := Nat.lt_of_succ_le hz)); (try (have hl0 : w.heap.size ≤ w1.heap.size := by omega)); (try (have hz0 : w.heap.size < w1.heap.size := by omega)); (try (have hz1 : w.heap.size + 1 < w1.heap.size := by omega)); (try (have hz2 : w.heap.size + 1 + 1 < w1.heap.size := by omega)); (try (have hz3 : w.heap.size + 1 + 1 + 1 < w1.heap.size := by omega)); (try (have hz4 : w.heap.size + 1 + 1 + 1 + 1 < w1.heap.size := by omega))) | (go_at_call 50; (with_reducible refine (whole_any X HX.out _ (HZ.out.below (N := w.heap.size) (by repeat (first | with_reducible exact Below.refl _ _ | with_reducible assumption | with_reducible refine Below.drew ?_ | with_reducible refine below_drewN ?_ _ | with_reducible refine Below.alloc ?_ ?_ _ | with_reducible refine Below.setCell ?_ ?_ _ | with_reducible refine Below.trans ?_ (Below.mono (by assumption) ?_) | omega | (simp <;> omega))) hzl)).mono ?_); rintro e w2 ⟨T, P, Q, L, rfl, hTz, hT, hS, hb2⟩; have hTl := hT.1.lt; have hzz := hb2.size; have hSV := hS.vs; have hP1 := hT.1; obtain ⟨aq, cq, hq72, hqo⟩ := hT.quietSlice) | (go_at_call 51; (with_reducible refine (solve_any T P Q t HT.out hSV _ hP1).mono ?_); rintro e w3 ⟨rfl, hb3⟩; have hz3 := hb3.size; have hq3 := (hb3.cell (p := ⟨T, 72, none⟩) hTl).trans hq72; have hTl3 : T < w3.heap.size := by omega))
  have h4 : HoldsA w3 27 (w.heap.size + 1 + 1) 0 0 0 0 0 0 := by
    (repeat (first | with_reducible assumption | (with_reducible refine HoldsA.made' ?_; (simp; done)) | with_reducible refine HoldsA.alloc ?_ _ | with_reducible refine HoldsA.drew ?_ | with_reducible refine HoldsA.drewN ?_ _ | (with_reducible refine HoldsA.far ?_ _ _ (by first | (simp; done) | (simp; omega))) | (with_reducible refine HoldsA.below ?_ (by with_reducible assumption) (by first | (simp; done) | (simp; omega) | omega))))
  have hB0 : Below w.heap.size w w2 := (show Below w.heap.size w w1 from (by repeat (first | with_reducible exact Below.refl _ _ | with_reducible assumption | with_reducible refine Below.drew ?_ | with_reducible refine below_drewN ?_ _ | with_reducible refine Below.alloc ?_ ?_ _ | with_reducible refine Below.setCell ?_ ?_ _ | with_reducible refine Below.trans ?_ (Below.mono (by assumption) ?_) | omega | (simp <;> omega)))).trans (hb2.mono (by omega))
  have hB3 : Below w.heap.size w w3 := hB0.trans (hb3.mono (by omega))
  have hS2 := hS.solve t
  have h0 := hS2.2.2 (by obtain ⟨y, h1, h2⟩ := HC.out; exact ⟨y, (sp_sgl 36 y).2 h1, h2⟩)
  have hyv := (rdN_vs (q := 0) HT.out (by unfold Vs; omega) hSV 36 (Nat.le_refl _)).2
  have hpt := hS2.1
  rw [h0, Nat.zero_xor] at hpt
  have hdt : decide ((rdN P Q t 0 36).1 = 0) = true := decide_eq_true h0
  rw [hdt]
  clear hdt
  generalize (rdN P Q t 0 36).2 = y at *
  have hLs := readsU_below hqo.reads hb3
  have hLl := hS.len
  rw [sgl_len] at hLl
  obtain ⟨d, hd⟩ := ker_ex X
  have hK := KB.of_ts hS hd
  have hLi : Ind L := by
    obtain ⟨R, h1, _⟩ := hS
    exact h1.ind (sgl_ind 36)
  have hBAS := Lib.hid (basis_any T aq cq L hK.vs hLi hLl w3 hq3 hTl3 hLs)
  have hrk := Lib.hid (fun W => rank_any y hyv W)
  have hLz := Lib.hid (fun A (hb : BI (L.map rkN) A []) => Lst.of_ranks hS hb hK.vs hyv hpt.symm)
  have hAL := Lib.hid (fun A (hb : BI (L.map rkN) A []) => (show A.length ≤ 36 by
    have h1 := (hb.base hK.vs).len hLi
    rw [List.length_map] at h1
    omega))
  clear hc hf hT hz hzA hz0 hz1 hz2 hb hb2 hl0 hB0 hX ht hS2 h0 hpt hSV hP1 hqo hLi hK hd hS hLs hb3
  have h4l := h4.lt
  go_wp2_with (first | (go_at_call 68; (with_reducible refine (hrk.out _).mono ?_); rintro e w1 ⟨rfl, rfl⟩) | (go_at_call 70; (with_reducible refine hBAS.out.mono ?_); rintro e w4 ⟨g, cap, A, rfl, hg4, hRow, hBIx, hb4⟩))
  have h44 := h4.below hb4 h4l
  have hB4 := hB3.trans (hb4.mono hB3.size)
  have hfin := HL.out.uniq (hLz.out A hBIx)
  have hA36 := hAL.out A hBIx
  have hAlt : ∀ b, b ∈ A → b < 68719476736 ∧ b ≠ 0 := fun b hb' => ⟨hBIx.lt b (List.mem_append_left _ hb'), ind_ne hBIx.ind b (List.mem_append_left _ hb')⟩
  have hr0 := rkN_lt y
  generalize rkN y = r0 at *
  have hFIN := Lib.hid hfin
  have HALT := Lib.hid hAlt
  clear hfin hAlt hBIx hb4 h4 hq3 hB3
  go_loop [12, 41] (LeRel A r0) (fun _ i => A.length - (intOf i).toNat)
  case atStart => exact ⟨0, Nat.zero_le _, rfl, rfl⟩
  case round =>
    obtain ⟨k, hk, rfl, rfl⟩ := hrel
    have hr := awL_lt (A.take k) r0 hr0 (fun b hb' => (HALT.out b (List.mem_of_mem_take hb')).1)
    by_cases hlt : k < A.length
    · have hlt' : (k : Int) < (A.length : Int) := by omega
      have hck := (hRow k hlt).1
      rw [Nat.zero_add] at hck
      have htk := take_snoc A 0 k hlt
      have hbm : A.getD k 0 ∈ A := by rw [List.getD_eq_getElem?_getD, List.getElem?_eq_getElem hlt]; exact List.getElem_mem hlt
      obtain ⟨hb1, hb0⟩ := HALT.out _ hbm
      obtain ⟨r, hrr⟩ : ∃ r, r = (A.take k).foldl awR r0 := ⟨_, rfl⟩
      have hnx : (A.take (k + 1)).foldl awR r0 = awR r (A.getD k 0) := by rw [htk, List.foldl_append, hrr]; rfl
      rw [← hrr] at hr ⊢
      generalize A.getD k 0 = b at *
      have hld := fun W => lead_any b hb1 hb0 W
      obtain ⟨_, htb⟩ := rk_tb b hb1 hb0
      have hap := and_pow r (tb b) hr htb
      have hp0 : 0 < (2 : Nat) ^ tb b := Nat.two_pow_pos (tb b)
      generalize hP : 2 ^ tb b = P2 at *
      have HNX := Lib.hid hnx
      have HLD := Lib.hid hld
      clear hnx hld hrr htk hbm hP
      by_cases hb : r.testBit (tb b) = true
      · rw [if_pos hb] at hap
        have hx := Lib.hid (show awR r b = r ^^^ b by unfold awR; rw [if_pos hb])
        have hxx := Lib.hid (xor_vs_u64 (X := r) (Y := b) hr hb1)
        have hpI : ¬ ((P2 : Nat) : Int) = 0 := by omega
        have hbq2 : (((P2 : Nat) : Int) != 0) = true := bne_iff_ne.mpr hpI
        clear hb0 htb
        go_wp2_with (go_at_call 71; (with_reducible refine (HLD.out _).mono ?_); rintro e w1 ⟨rfl, rfl⟩)
        go_round
        case rel => exact ⟨k + 1, by omega, by go_num, by rw [HNX.out, hx.out, hxx.out]⟩
        case measure => simp [intOf]; omega
      · rw [if_neg hb] at hap
        have hx := Lib.hid (show awR r b = r by unfold awR; rw [if_neg hb])
        go_wp2_with (go_at_call 71; (with_reducible refine (HLD.out _).mono ?_); rintro e w1 ⟨rfl, rfl⟩)
        go_round
        case rel => exact ⟨k + 1, by omega, by go_num, by rw [HNX.out, hx.out]⟩
        case measure => simp [intOf]; omega
    · have e : k = A.length := by omega
      subst e
      rw [List.take_length] at hr ⊢
      have hfi := hFIN.out
      generalize A.foldl awR r0 = r at *
      have hzv := HL.out.1
      have hst := fun W => rset_any r hr W
      rw [← hfi] at hst
      have HST := Lib.hid hst
      have hp0 := h44.c0
      have hp1 := h44.c1
      have hp2 := h44.c2
      have hp3 := h44.c3
      have hp4 := h44.c4
      have hp5 := h44.c5
      have hpf := h44.free
      have hl4 := h44.lt
      clear hst hfi
      go_wp2_with (first | (go_at_call 72; (with_reducible refine (HST.out _).mono ?_); rintro e w1 ⟨rfl, rfl⟩) | (go_at_call 62; (with_reducible refine (sheet_any _ hzv _).mono ?_); rintro e w1 ⟨rfl, hb⟩; obtain ⟨hc, hf, hT, hz⟩ := bfacts hb; (try simp only [World.size_alloc, World.size_setCell, World.size_drew, size_drewN] at hc hf hT hz); (try (have hzA := Nat.lt_of_succ_le hz)); (try (have hl0 : w.heap.size ≤ w1.heap.size := by omega)); (try (have hz0 : w.heap.size < w1.heap.size := by omega)); (try (have hz1 : w.heap.size + 1 < w1.heap.size := by omega)); (try (have hz2 : w.heap.size + 1 + 1 < w1.heap.size := by omega)); (try (have hz3 : w.heap.size + 1 + 1 + 1 < w1.heap.size := by omega)); (try (have hz4 : w.heap.size + 1 + 1 + 1 + 1 < w1.heap.size := by omega))))
      exact bodyPost_ret (v := .tuple #[(.agg #[.int .i64 (row z 0), .int .i64 (row z 1), .int .i64 (row z 2), .int .i64 (row z 3), .int .i64 (row z 4), .int .i64 (row z 5)]), .bool true]) (by simp [results, Tryd.results33, go_sem, *]) rfl ⟨rfl, (by repeat (first | with_reducible exact Below.refl _ _ | with_reducible assumption | with_reducible refine Below.drew ?_ | with_reducible refine below_drewN ?_ _ | with_reducible refine Below.alloc ?_ ?_ _ | with_reducible refine Below.setCell ?_ ?_ _ | with_reducible refine Below.trans ?_ (Below.mono (by assumption) ?_) | omega | (simp <;> omega)))⟩
set_option maxRecDepth 100000 in
set_option maxHeartbeats 4000000 in
theorem implLeast_cant (X t : Nat) (hX : Vs X) (ht : Vs t) (hc : ¬ CanT X t) (w : World) (hz : TabZ w) :
    Calls Tryd.prog 33 #[(.agg #[.int .i64 (row X 0), .int .i64 (row X 1), .int .i64 (row X 2), .int .i64 (row X 3), .int .i64 (row X 4), .int .i64 (row X 5)]), (.agg #[.int .i64 (row t 0), .int .i64 (row t 1), .int .i64 (row t 2), .int .i64 (row t 3), .int .i64 (row t 4), .int .i64 (row t 5)])] w fun e w' => e = .returned (.tuple #[.agg #[.int .i64 0, .int .i64 0, .int .i64 0, .int .i64 0, .int .i64 0, .int .i64 0], .bool false]) ∧ Below w.heap.size w w' := by
  have hzl := hz.lt
  have HZ := Lib.hid hz
  have HX := Lib.hid hX
  have HT := Lib.hid ht
  have HC := Lib.hid hc
  clear hz hc
  go_enter Tryd.func33, Tryd.ntmps33
  go_upto_region 6 with (first | (go_at_call 49; (with_reducible refine (twoSets_ok _ _ hX ht _).mono ?_); rintro e w1 ⟨rfl, hb⟩; obtain ⟨hc, hf, hT, hz⟩ := bfacts hb; (try simp only [World.size_alloc, World.size_setCell, World.size_drew, size_drewN] at hc hf hT hz); (try (have hzA := Nat.lt_of_succ_le hz)); (try (have hl0 : w.heap.size ≤ w1.heap.size := by omega)); (try (have hz0 : w.heap.size < w1.heap.size := by omega)); (try (have hz1 : w.heap.size + 1 < w1.heap.size := by omega)); (try (have hz2 : w.heap.size + 1 + 1 < w1.heap.size := by omega)); (try (have hz3 : w.heap.size + 1 + 1 + 1 < w1.heap.size := by omega)); (try (have hz4 : w.heap.size + 1 + 1 + 1 + 1 < w1.heap.size := by omega))) | (go_at_call 50; (with_reducible refine (whole_any X HX.out _ (HZ.out.below (N := w.heap.size) (by repeat (first | with_reducible exact Below.refl _ _ | with_reducible assumption | with_reducible refine Below.drew ?_ | with_reducible refine below_drewN ?_ _ | with_reducible refine Below.alloc ?_ ?_ _ | with_reducible refine Below.setCell ?_ ?_ _ | with_reducible refine Below.trans ?_ (Below.mono (by assumption) ?_) | omega | (simp <;> omega))) hzl)).mono ?_); rintro e w2 ⟨T, P, Q, L, rfl, hTz, hT, hS, hb2⟩; have hTl := hT.1.lt; have hzz := hb2.size; have hSV := hS.vs; have hP1 := hT.1; obtain ⟨aq, cq, hq72, hqo⟩ := hT.quietSlice) | (go_at_call 51; (with_reducible refine (solve_any T P Q t HT.out hSV _ hP1).mono ?_); rintro e w3 ⟨rfl, hb3⟩; have hz3 := hb3.size; have hq3 := (hb3.cell (p := ⟨T, 72, none⟩) hTl).trans hq72; have hTl3 : T < w3.heap.size := by omega))
  have h4 : HoldsA w3 27 (w.heap.size + 1 + 1) 0 0 0 0 0 0 := by
    (repeat (first | with_reducible assumption | (with_reducible refine HoldsA.made' ?_; (simp; done)) | with_reducible refine HoldsA.alloc ?_ _ | with_reducible refine HoldsA.drew ?_ | with_reducible refine HoldsA.drewN ?_ _ | (with_reducible refine HoldsA.far ?_ _ _ (by first | (simp; done) | (simp; omega))) | (with_reducible refine HoldsA.below ?_ (by with_reducible assumption) (by first | (simp; done) | (simp; omega) | omega))))
  have hB0 : Below w.heap.size w w2 := (show Below w.heap.size w w1 from (by repeat (first | with_reducible exact Below.refl _ _ | with_reducible assumption | with_reducible refine Below.drew ?_ | with_reducible refine below_drewN ?_ _ | with_reducible refine Below.alloc ?_ ?_ _ | with_reducible refine Below.setCell ?_ ?_ _ | with_reducible refine Below.trans ?_ (Below.mono (by assumption) ?_) | omega | (simp <;> omega)))).trans (hb2.mono (by omega))
  have hB3 : Below w.heap.size w w3 := hB0.trans (hb3.mono (by omega))
  have hS2 := hS.solve t
  have hdt : decide ((rdN P Q t 0 36).1 = 0) = false := decide_eq_false fun h0 => HC.out (by
    obtain ⟨y, h1, h2⟩ := hS2.2.1 h0
    exact ⟨y, (sp_sgl 36 y).1 h1, h2⟩)
  rw [hdt]
  clear hdt
  have hp0 := h4.c0
  have hp1 := h4.c1
  have hp2 := h4.c2
  have hp3 := h4.c3
  have hp4 := h4.c4
  have hp5 := h4.c5
  have hpf := h4.free
  have hl4 := h4.lt
  clear hS2 HC hS hSV hP1 hT hqo
  go_wp2
  exact bodyPost_ret (v := .tuple #[.agg #[.int .i64 0, .int .i64 0, .int .i64 0, .int .i64 0, .int .i64 0, .int .i64 0], .bool false]) (by simp [results, Tryd.results33, go_sem, *]) rfl ⟨rfl, (by repeat (first | with_reducible exact Below.refl _ _ | with_reducible assumption | with_reducible refine Below.drew ?_ | with_reducible refine below_drewN ?_ _ | with_reducible refine Below.alloc ?_ ?_ _ | with_reducible refine Below.setCell ?_ ?_ _ | with_reducible refine Below.trans ?_ (Below.mono (by assumption) ?_) | omega | (simp <;> omega)))⟩
set_option maxRecDepth 100000 in
theorem implLeast_no (a0 a1 a2 a3 a4 a5 b0 b1 b2 b3 b4 b5 : Int) (hn : ¬ (Ok6 a0 a1 a2 a3 a4 a5 ∧ Ok6 b0 b1 b2 b3 b4 b5)) (w : World) :
    Calls Tryd.prog 33 #[(.agg #[.int .i64 a0, .int .i64 a1, .int .i64 a2, .int .i64 a3, .int .i64 a4, .int .i64 a5]), (.agg #[.int .i64 b0, .int .i64 b1, .int .i64 b2, .int .i64 b3, .int .i64 b4, .int .i64 b5])] w fun e w' => e = .returned (.tuple #[.agg #[.int .i64 0, .int .i64 0, .int .i64 0, .int .i64 0, .int .i64 0, .int .i64 0], .bool false]) ∧ Below w.heap.size w w' := by
  go_enter Tryd.func33, Tryd.ntmps33
  go_wp2_with (go_at_call 49; (with_reducible refine (twoSets_no _ _ _ _ _ _ _ _ _ _ _ _ (by assumption) _).mono ?_); rintro e w1 ⟨x1, y1, rfl, hb⟩; obtain ⟨hc, hf, hT, hz⟩ := bfacts hb; (try simp only [World.size_alloc, World.size_setCell, World.size_drew, size_drewN] at hc hf hT hz); (try (have hzA := Nat.lt_of_succ_le hz)); (try (have hl0 : w.heap.size ≤ w1.heap.size := by omega)); (try (have hz0 : w.heap.size < w1.heap.size := by omega)); (try (have hz1 : w.heap.size + 1 < w1.heap.size := by omega)); (try (have hz2 : w.heap.size + 1 + 1 < w1.heap.size := by omega)); (try (have hz3 : w.heap.size + 1 + 1 + 1 < w1.heap.size := by omega)); (try (have hz4 : w.heap.size + 1 + 1 + 1 + 1 < w1.heap.size := by omega)))
  exact bodyPost_ret (v := .tuple #[.agg #[.int .i64 0, .int .i64 0, .int .i64 0, .int .i64 0, .int .i64 0, .int .i64 0], .bool false]) (by simp [results, Tryd.results33, go_sem, *]) rfl ⟨rfl, (by repeat (first | with_reducible exact Below.refl _ _ | with_reducible assumption | with_reducible refine Below.drew ?_ | with_reducible refine below_drewN ?_ _ | with_reducible refine Below.alloc ?_ ?_ _ | with_reducible refine Below.setCell ?_ ?_ _ | with_reducible refine Below.trans ?_ (Below.mono (by assumption) ?_) | omega | (simp <;> omega)))⟩
end Go.Proofs.YtgjgefbcfcomcaaDoor
