/-
  The reference's FewestPresses: contract. No conditions.
-/
import Derived.Test.YtgjgefbcfcomcaaDoorUs
import Derived.Test.YtgjgefbcfcomcaaDoorUr
import Derived.Test.YtgjgefbcfcomcaaDoorEb
import Derived.Deep.CutRange
namespace Go.Proofs.YtgjgefbcfcomcaaDoor
open Go.RowKit
set_option linter.unusedSimpArgs false
set_option linter.unusedVariables false

def FsRel (O : List Nat) (z g10 : Nat) (w3 : World) (size code : Value) (wr : World) : Prop :=
  ∃ n B : Nat, 1 ≤ n ∧ n ≤ 2 ^ O.length ∧ code = .int .i64 (n : Int) ∧ size = .int .i64 ((popN B : Nat) : Int) ∧ Hid (B = z ^^^ cs O (fwA O z n) O.length) ∧ HoldsA wr 27 (g10) (row B 0) (row B 1) (row B 2) (row B 3) (row B 4) (row B 5) ∧ Below w3.heap.size w3 wr
def FsIn (O : List Nat) (z n : Nat) (wr : World) (i : Value) (wq : World) : Prop :=
  ∃ k : Nat, k ≤ O.length ∧ i = .int .i64 (k : Int) ∧ HoldsA wq 27 (wr.heap.size) (row (z ^^^ cs O n k) 0) (row (z ^^^ cs O n k) 1) (row (z ^^^ cs O n k) 2) (row (z ^^^ cs O n k) 3) (row (z ^^^ cs O n k) 4) (row (z ^^^ cs O n k) 5) ∧ Below wr.heap.size wr wq
set_option maxRecDepth 100000 in
set_option maxHeartbeats 16000000 in
theorem specFewest_ok (X t d f : Nat) (hX : Vs X) (ht : Vs t) (hd : KerD X d) (h12 : d ≤ 12) (hc : CanT X t) (hf : FwOf X t d f) (w : World) :
    Calls Tryd.prog 30 #[(.agg #[.int .i64 (row X 0), .int .i64 (row X 1), .int .i64 (row X 2), .int .i64 (row X 3), .int .i64 (row X 4), .int .i64 (row X 5)]), (.agg #[.int .i64 (row t 0), .int .i64 (row t 1), .int .i64 (row t 2), .int .i64 (row t 3), .int .i64 (row t 4), .int .i64 (row t 5)])] w fun e w' => e = .returned (.tuple #[(.agg #[.int .i64 (row f 0), .int .i64 (row f 1), .int .i64 (row f 2), .int .i64 (row f 3), .int .i64 (row f 4), .int .i64 (row f 5)]), .int .i64 ((popN f : Nat) : Int), .bool true]) ∧ Below w.heap.size w w' := by
  have HD := Lib.hid hd
  have HC := Lib.hid hc
  have HF := Lib.hid hf
  clear hd hc hf
  go_enter Tryd.func30, Tryd.ntmps30
  go_upto_region 4 with (go_at_call 32; (with_reducible refine (specLeast_ok X t hX ht HC.out _).mono ?_); rintro e w1 ⟨z, rfl, hLz, hb⟩; have hz := hb.size)
  have k4 : HoldsA w1 27 (w.heap.size + 1 + 1) 0 0 0 0 0 0 := by
    (repeat (first | with_reducible assumption | (with_reducible refine HoldsA.made' ?_; (simp; done)) | with_reducible refine HoldsA.alloc ?_ _ | with_reducible refine HoldsA.drew ?_ | with_reducible refine HoldsA.drewN ?_ _ | (with_reducible refine HoldsA.far ?_ _ _ (by first | (simp; done) | (simp; omega))) | (with_reducible refine HoldsA.below ?_ (by with_reducible assumption) (by first | (simp; done) | (simp; omega) | omega))))
  have k2 : HoldsA w1 27 (w.heap.size) (row X 0) (row X 1) (row X 2) (row X 3) (row X 4) (row X 5) := by
    (repeat (first | with_reducible assumption | (with_reducible refine HoldsA.made' ?_; (simp; done)) | with_reducible refine HoldsA.alloc ?_ _ | with_reducible refine HoldsA.drew ?_ | with_reducible refine HoldsA.drewN ?_ _ | (with_reducible refine HoldsA.far ?_ _ _ (by first | (simp; done) | (simp; omega))) | (with_reducible refine HoldsA.below ?_ (by with_reducible assumption) (by first | (simp; done) | (simp; omega) | omega))))
  have hBa : Below w.heap.size w w1 := (by repeat (first | with_reducible exact Below.refl _ _ | with_reducible assumption | with_reducible refine Below.drew ?_ | with_reducible refine below_drewN ?_ _ | with_reducible refine Below.alloc ?_ ?_ _ | with_reducible refine Below.setCell ?_ ?_ _ | with_reducible refine Below.trans ?_ (Below.mono (by assumption) ?_) | omega | (simp <;> omega)))
  obtain ⟨wa, rfl⟩ : ∃ wa : World, wa = w1 := ⟨_, rfl⟩
  have hl0a : w.heap.size + 1 + 1 < wa.heap.size := k4.lt
  clear hb hz
  have j2 := k2.alloc (.cells #[.int .i64 (row z 0), .int .i64 (row z 1), .int .i64 (row z 2), .int .i64 (row z 3), .int .i64 (row z 4), .int .i64 (row z 5)] 27)
  have j4 := k4.alloc (.cells #[.int .i64 (row z 0), .int .i64 (row z 1), .int .i64 (row z 2), .int .i64 (row z 3), .int .i64 (row z 4), .int .i64 (row z 5)] 27)
  have j7 : HoldsA (wa.alloc (.cells #[.int .i64 (row z 0), .int .i64 (row z 1), .int .i64 (row z 2), .int .i64 (row z 3), .int .i64 (row z 4), .int .i64 (row z 5)] 27)) 27 (wa.heap.size) (row z 0) (row z 1) (row z 2) (row z 3) (row z 4) (row z 5) := by
    (repeat (first | with_reducible assumption | (with_reducible refine HoldsA.made' ?_; (simp; done)) | with_reducible refine HoldsA.alloc ?_ _ | with_reducible refine HoldsA.drew ?_ | with_reducible refine HoldsA.drewN ?_ _ | (with_reducible refine HoldsA.far ?_ _ _ (by first | (simp; done) | (simp; omega))) | (with_reducible refine HoldsA.below ?_ (by with_reducible assumption) (by first | (simp; done) | (simp; omega) | omega))))
  have hBb := hBa.alloc (by omega) (.cells #[.int .i64 (row z 0), .int .i64 (row z 1), .int .i64 (row z 2), .int .i64 (row z 3), .int .i64 (row z 4), .int .i64 (row z 5)] 27)
  have hl7 := j7.lt
  have hl2 := j2.lt
  have hl4 := j4.lt
  generalize wa.alloc (.cells #[.int .i64 (row z 0), .int .i64 (row z 1), .int .i64 (row z 2), .int .i64 (row z 3), .int .i64 (row z 4), .int .i64 (row z 5)] 27) = wb at *
  generalize wa.heap.size = g7 at *
  have hx0 := j2.c0
  have hx1 := j2.c1
  have hx2 := j2.c2
  have hx3 := j2.c3
  have hx4 := j2.c4
  have hx5 := j2.c5
  have hxf := j2.free
  clear k2 k4 hBa
  go_upto_region 7 with (go_at_call 56; (with_reducible refine (l4Kernel_any X hX _).mono ?_); rintro e w2 ⟨vo, O, rfl, B, hO, ⟨R, L, hSR, hBS⟩, hb2⟩; obtain ⟨g, cap, rfl, hgB, hgl⟩ := hO.form; have hOR := hO.cellsAt; have hK := KB.of_sr hSR hBS HD.out; have hOd := hK.len; have h12i : (O.length : Int) ≤ 12 := (by rw [hOd]; exact Int.ofNat_le.2 h12); clear hSR hBS)
  have m4 := j4.below hb2 hl4
  have m7 := j7.below hb2 hl7
  have hBc := hBb.trans (hb2.mono (by omega))
  have hlc := hb2.size
  clear j2 j4 j7 hBb hx0 hx1 hx2 hx3 hx4 hx5 hxf hb2 hO
  have hcnt := Lib.hid (l2Count_any z)
  have hl7' := m7.lt
  have hl4' := m4.lt
  have hy0 := m7.c0
  have hy1 := m7.c1
  have hy2 := m7.c2
  have hy3 := m7.c3
  have hy4 := m7.c4
  have hy5 := m7.c5
  have hyf := m7.free
  go_cut [10, 11] from 31 to 33 (fun s10 s11 wc => ∃ g10 : Nat, s10 = .pointer (some ⟨g10, 0, none⟩) ∧ s11 = .int .i64 ((popN z : Nat) : Int) ∧ (HoldsA wc 27 (g10) (row z 0) (row z 1) (row z 2) (row z 3) (row z 4) (row z 5)) ∧ w2.heap.size ≤ g10 ∧ Below w2.heap.size w2 wc)
  case first =>
    go_region_with (go_at_call 64; (with_reducible refine (hcnt.out _).mono ?_); rintro e w3 ⟨rfl, hb3⟩; obtain ⟨hc, hf, hT, hz⟩ := bfacts hb3; (try simp only [World.size_alloc, World.size_setCell, World.size_drew, size_drewN] at hc hf hT hz); (try (have hzA := Nat.lt_of_succ_le hz)); (try (have hl0 : w2.heap.size ≤ w3.heap.size := by omega)); (try (have hz0 : w2.heap.size < w3.heap.size := by omega)); (have hbA : Below w2.heap.size w2 w3 := (by first | exact (Below.refl w2.heap.size w2).drew.trans hb3 | exact ((Below.refl w2.heap.size w2).drew.alloc (Nat.le_refl _) _).trans (hb3.mono (by simp)))); (try (have hH0 := HoldsA.below (HoldsA.made' (w := w2.drew) (T := 27) (B := w2.heap.size) (a0 := 0) (a1 := 0) (a2 := 0) (a3 := 0) (a4 := 0) (a5 := 0) rfl) hb3 (by simp))))
    all_goals
      go_wp2
      go_meet
      case rel =>
        refine ⟨_, rfl, rfl, ?_, ?_, ?_⟩
        · first
            | with_reducible exact HoldsA.made' rfl
            | with_reducible exact hH0.store _ _ _ _ _ _
        · first
            | with_reducible exact hbA.size
            | with_reducible exact Nat.le_refl _
        · first
            | with_reducible exact hbA.alloc hbA.size _
            | ((repeat (with_reducible refine Below.setCell ?_ ?_ _)); (all_goals (first | with_reducible exact hbA | exact Nat.le_refl _)))
  case rest =>
    obtain ⟨g10, rfl, rfl, hH, hge, hbw⟩ := hcut
    subst hOd
    have hzv := hLz.1
    have hfe := HF.out O z hK hLz.1 hLz.2.1
    have hOv := hK.vs
    have hp1 := pow_i64 O.length h12
    have hw36 : (2 : Nat) ^ O.length ≤ 4096 := by
      have := Nat.pow_le_pow_right (n := 2) (by omega) h12
      simpa using this
    have h12d : decide ((12 : Int) < (O.length : Int)) = false := decide_eq_false (by omega)
    clear HD HF hK hLz HC
    rw [h12d]
    clear h12d
    go_wp2
    go_loopw [11, 12] (FsRel O z g10 w2) (fun _ code _ => 2 ^ O.length - (intOf code).toNat)
    case atStart => exact ⟨1, z, Nat.le_refl _, Nat.one_le_two_pow, rfl, rfl, Lib.hid (by rw [fwA_one, cs_zero, Nat.xor_zero]), hH, hbw⟩
    case round =>
      obtain ⟨n, B, hn1, hn, rfl, rfl, hBn, hHB, hbr⟩ := hrel
      obtain ⟨wo, rfl⟩ : ∃ wo : World, wo = wr := ⟨_, rfl⟩
      have hBv : Vs B := by rw [hBn.out]; exact hzv.xor (cs_vs O hOv _ _ (Nat.le_refl _))
      have hosz := hbr.size
      have r7 := m7.below hbr hl7'
      have hl10 := hHB.lt
      by_cases hlt : n < 2 ^ O.length
      · have hlt' : (n : Int) < (2 : Int) ^ O.length := by rw [show (2 : Int) ^ O.length = ((2 ^ O.length : Nat) : Int) by simp]; omega
        have hn64 : n < 2 ^ 36 := by omega
        have ha0 := r7.c0
        have ha1 := r7.c1
        have ha2 := r7.c2
        have ha3 := r7.c3
        have ha4 := r7.c4
        have ha5 := r7.c5
        have haf := r7.free
        go_wp2
        rw [hp1]
        go_loopw [14] (FsIn O z n wo) (fun i _ => O.length - (intOf i).toNat)
        case atStart => exact ⟨0, Nat.zero_le _, rfl, by rw [show z ^^^ cs O n 0 = z by simp [cs]]; with_reducible exact HoldsA.made' rfl, (Below.refl _ _).alloc (Nat.le_refl _) _⟩
        case round =>
          obtain ⟨k, hk, rfl, hq, hbq⟩ := hrel
          have hql := hq.lt
          have hqsz := hbq.size
          by_cases hlk : k < O.length
          · have hlk' : (k : Int) < (O.length : Int) := by omega
            have hk36 : (k : Int) < 36 := by omega
            have hbt := bitn_i64 n k hn64
            have hgo : g < wo.heap.size := by omega
            obtain ⟨rc0, rc1, rc2, rc3, rc4, rc5⟩ := hOR k hlk
            have rw0 := (hbq.cell (p := ⟨g, k * 6, none⟩) (by omega)).trans ((hbr.cell (p := ⟨g, k * 6, none⟩) hgl).trans rc0)
            have rw1 := (hbq.cell (p := ⟨g, k * 6 + 1, none⟩) (by omega)).trans ((hbr.cell (p := ⟨g, k * 6 + 1, none⟩) hgl).trans rc1)
            have rw2 := (hbq.cell (p := ⟨g, k * 6 + 2, none⟩) (by omega)).trans ((hbr.cell (p := ⟨g, k * 6 + 2, none⟩) hgl).trans rc2)
            have rw3 := (hbq.cell (p := ⟨g, k * 6 + 3, none⟩) (by omega)).trans ((hbr.cell (p := ⟨g, k * 6 + 3, none⟩) hgl).trans rc3)
            have rw4 := (hbq.cell (p := ⟨g, k * 6 + 4, none⟩) (by omega)).trans ((hbr.cell (p := ⟨g, k * 6 + 4, none⟩) hgl).trans rc4)
            have rw5 := (hbq.cell (p := ⟨g, k * 6 + 5, none⟩) (by omega)).trans ((hbr.cell (p := ⟨g, k * 6 + 5, none⟩) hgl).trans rc5)
            have hyes := fun h => (cs_yes (O := O) (n := n) (k := k) h)
            have hno := fun h => (cs_no (O := O) (n := n) (k := k) h)
            generalize O.getD k 0 = q at *
            clear rc0 rc1 rc2 rc3 rc4 rc5
            obtain ⟨c, hcn⟩ : ∃ c, c = z ^^^ cs O n k := ⟨_, rfl⟩
            rw [← hcn] at hq
            have hCN := Lib.hid hcn
            clear hcn
            have hgq : g < wr.heap.size := by omega
            by_cases hb : n.testBit k = true
            · have hx := Lib.hid (show z ^^^ cs O n (k + 1) = c ^^^ q by rw [hyes hb, hCN.out, Nat.xor_assoc])
              rw [hb] at hbt
              clear hyes hno
              have hi0 := hq.c0
              have hi1 := hq.c1
              have hi2 := hq.c2
              have hi3 := hq.c3
              have hi4 := hq.c4
              have hi5 := hq.c5
              have hif := hq.free
              go_wp2
              go_region_with (go_at_call 65; (with_reducible refine (l2Xor_any _ _ _).mono ?_); rintro e w1 ⟨rfl, hb⟩; obtain ⟨hc, hf, hT, hz⟩ := bfacts hb; (try simp only [World.size_alloc, World.size_setCell, World.size_drew, size_drewN] at hc hf hT hz); (try (have hzA := Nat.lt_of_succ_le hz)); (try (have hl0 : w.heap.size ≤ w1.heap.size := by omega)); (try (have hz0 : w.heap.size < w1.heap.size := by omega)); (try (have hz1 : w.heap.size + 1 < w1.heap.size := by omega)); (try (have hz2 : w.heap.size + 1 + 1 < w1.heap.size := by omega)); (try (have hz3 : w.heap.size + 1 + 1 + 1 < w1.heap.size := by omega)); (try (have hz4 : w.heap.size + 1 + 1 + 1 + 1 < w1.heap.size := by omega)))
              all_goals
                have hBB : Below wr.heap.size wr w1 := (Below.refl wr.heap.size wr).drew.trans hb
                have e0 := (hq.below hBB hql).store (row (c ^^^ q) 0) (row (c ^^^ q) 1) (row (c ^^^ q) 2) (row (c ^^^ q) 3) (row (c ^^^ q) 4) (row (c ^^^ q) 5)
                have hB3 := hbq.trans (hBB.mono hqsz)
                clear hBB hb
                go_wp2
                go_roundw
                case rel => exact ⟨k + 1, by omega, by go_num, by rw [hx.out]; exact e0, by (repeat (with_reducible refine Below.setCell ?_ ?_ _)); (all_goals (first | with_reducible exact hB3 | exact Nat.le_refl _))⟩
                case measure => simp [intOf]; omega
            · have hb' := Bool.eq_false_iff.2 hb
              rw [hb'] at hbt
              have hx := Lib.hid (show z ^^^ cs O n (k + 1) = c by rw [hno hb', hCN.out])
              clear hyes hno
              go_wp2
              go_roundw
              case rel => exact ⟨k + 1, by omega, by go_num, by rw [hx.out]; exact hq, hbq⟩
              case measure => simp [intOf]; omega
          · have e : k = O.length := by omega
            subst e
            obtain ⟨C, hCd⟩ : ∃ C, C = z ^^^ cs O n O.length := ⟨_, rfl⟩
            rw [← hCd] at hq
            have hCv : Vs C := by rw [hCd]; exact hzv.xor (cs_vs O hOv _ _ (Nat.le_refl _))
            have hyes := fun h => (fwA_yes (O := O) (y := z) (n := n) h)
            have hno := fun h => (fwA_no (O := O) (y := z) (n := n) h)
            rw [← hCd, ← hBn.out] at hyes hno
            have hky := ky_lt C B
            have hcc := fun W => l2Count_any C W
            have hbb := fun W => l2Before_any C B W
            rw [lessB_rk] at hbb
            obtain ⟨pc, hpc⟩ : ∃ pc, pc = popN C := ⟨_, rfl⟩
            obtain ⟨pb, hpb⟩ : ∃ pb, pb = popN B := ⟨_, rfl⟩
            rw [← hpc] at hcc
            rw [← hpc, ← hpb] at hky
            rw [← hpb]
            generalize rkN C = rc at *
            generalize rkN B = rb at *
            have HCn : Hid (C = z ^^^ cs O n O.length) := Lib.hid hCd
            have hPC := Lib.hid hpc
            have hPB := Lib.hid hpb
            have hY := Lib.hid hyes
            have hN := Lib.hid hno
            have hK := Lib.hid hky
            have hcC := Lib.hid hcc
            have q10 := hHB.below hbq hl10
            have q10l := q10.lt
            have hbS : Below w2.heap.size w2 wr := hbr.trans (hbq.mono hosz)
            have hsS := hbS.size
            have hi0 := hq.c0
            have hi1 := hq.c1
            have hi2 := hq.c2
            have hi3 := hq.c3
            have hi4 := hq.c4
            have hi5 := hq.c5
            have hif := hq.free
            have hj0 := q10.c0
            have hj1 := q10.c1
            have hj2 := q10.c2
            have hj3 := q10.c3
            have hj4 := q10.c4
            have hj5 := q10.c5
            have hjf := q10.free
            clear hyes hno hky hCd hpc hpb hcc hlk hk ha0 ha1 ha2 ha3 ha4 ha5 haf
            by_cases c1 : pc < pb
            · have c1' : (pc : Int) < (pb : Int) := by omega
              have hbe := Lib.hid hbb
              clear hbb
              go_wp2_with (first | (go_at_call 64; (with_reducible refine (hcC.out _).mono ?_); rintro e w1 ⟨rfl, hb1⟩; have a13 := hq.below hb1 hql; have a10 := q10.below hb1 q10l; have a13l := a13.lt; have a10l := a10.lt; have aa0 := a13.c0; have aa1 := a13.c1; have aa2 := a13.c2; have aa3 := a13.c3; have aa4 := a13.c4; have aa5 := a13.c5; have aaf := a13.free; have ab0 := a10.c0; have ab1 := a10.c1; have ab2 := a10.c2; have ab3 := a10.c3; have ab4 := a10.c4; have ab5 := a10.c5; have abf := a10.free; have hbE : Below w2.heap.size w2 w1 := hbS.trans (hb1.mono hsS)) | (go_at_call 66; (with_reducible refine (hbe.out _).mono ?_); rintro e w4 ⟨rfl, hb4⟩; have b13 := a13.below hb4 a13l; have b10 := a10.below hb4 a10l; have ba0 := b13.c0; have ba1 := b13.c1; have ba2 := b13.c2; have ba3 := b13.c3; have ba4 := b13.c4; have ba5 := b13.c5; have baf := b13.free; have bb0 := b10.c0; have bb1 := b10.c1; have bb2 := b10.c2; have bb3 := b10.c3; have bb4 := b10.c4; have bb5 := b10.c5; have bbf := b10.free; have hbG : Below w2.heap.size w2 w4 := hbE.trans (hb4.mono hbE.size)))
              go_roundw
              case rel => exact ⟨n + 1, C, by omega, by omega, by go_num, by rw [← hPC.out], Lib.hid (by rw [hY.out (hK.out.2 (.inl c1))]; exact HCn.out), by with_reducible exact a10.store _ _ _ _ _ _, by (repeat (with_reducible refine Below.setCell ?_ ?_ _)); (all_goals (first | with_reducible exact hbE | exact hge))⟩
              case measure => simp [intOf]; omega
            · have c1' : ¬ (pc : Int) < (pb : Int) := by omega
              by_cases c2 : pc = pb
              · subst c2
                by_cases c3 : rc < rb
                · rw [decide_eq_true c3] at hbb
                  have hbe := Lib.hid hbb
                  clear hbb
                  go_wp2_with (first | (go_at_call 64; (with_reducible refine (hcC.out _).mono ?_); rintro e w1 ⟨rfl, hb1⟩; have a13 := hq.below hb1 hql; have a10 := q10.below hb1 q10l; have a13l := a13.lt; have a10l := a10.lt; have aa0 := a13.c0; have aa1 := a13.c1; have aa2 := a13.c2; have aa3 := a13.c3; have aa4 := a13.c4; have aa5 := a13.c5; have aaf := a13.free; have ab0 := a10.c0; have ab1 := a10.c1; have ab2 := a10.c2; have ab3 := a10.c3; have ab4 := a10.c4; have ab5 := a10.c5; have abf := a10.free; have hbE : Below w2.heap.size w2 w1 := hbS.trans (hb1.mono hsS)) | (go_at_call 66; (with_reducible refine (hbe.out _).mono ?_); rintro e w4 ⟨rfl, hb4⟩; have b13 := a13.below hb4 a13l; have b10 := a10.below hb4 a10l; have ba0 := b13.c0; have ba1 := b13.c1; have ba2 := b13.c2; have ba3 := b13.c3; have ba4 := b13.c4; have ba5 := b13.c5; have baf := b13.free; have bb0 := b10.c0; have bb1 := b10.c1; have bb2 := b10.c2; have bb3 := b10.c3; have bb4 := b10.c4; have bb5 := b10.c5; have bbf := b10.free; have hbG : Below w2.heap.size w2 w4 := hbE.trans (hb4.mono hbE.size)))
                  go_roundw
                  case rel => exact ⟨n + 1, C, by omega, by omega, by go_num, by rw [← hPC.out], Lib.hid (by rw [hY.out (hK.out.2 (.inr ⟨by trivial, c3⟩))]; exact HCn.out), by with_reducible exact b10.store _ _ _ _ _ _, by (repeat (with_reducible refine Below.setCell ?_ ?_ _)); (all_goals (first | with_reducible exact hbG | exact hge))⟩
                  case measure => simp [intOf]; omega
                · rw [decide_eq_false c3] at hbb
                  have hbe := Lib.hid hbb
                  clear hbb
                  go_wp2_with (first | (go_at_call 64; (with_reducible refine (hcC.out _).mono ?_); rintro e w1 ⟨rfl, hb1⟩; have a13 := hq.below hb1 hql; have a10 := q10.below hb1 q10l; have a13l := a13.lt; have a10l := a10.lt; have aa0 := a13.c0; have aa1 := a13.c1; have aa2 := a13.c2; have aa3 := a13.c3; have aa4 := a13.c4; have aa5 := a13.c5; have aaf := a13.free; have ab0 := a10.c0; have ab1 := a10.c1; have ab2 := a10.c2; have ab3 := a10.c3; have ab4 := a10.c4; have ab5 := a10.c5; have abf := a10.free; have hbE : Below w2.heap.size w2 w1 := hbS.trans (hb1.mono hsS)) | (go_at_call 66; (with_reducible refine (hbe.out _).mono ?_); rintro e w4 ⟨rfl, hb4⟩; have b13 := a13.below hb4 a13l; have b10 := a10.below hb4 a10l; have ba0 := b13.c0; have ba1 := b13.c1; have ba2 := b13.c2; have ba3 := b13.c3; have ba4 := b13.c4; have ba5 := b13.c5; have baf := b13.free; have bb0 := b10.c0; have bb1 := b10.c1; have bb2 := b10.c2; have bb3 := b10.c3; have bb4 := b10.c4; have bb5 := b10.c5; have bbf := b10.free; have hbG : Below w2.heap.size w2 w4 := hbE.trans (hb4.mono hbE.size)))
                  go_roundw
                  case rel => exact ⟨n + 1, B, by omega, by omega, by go_num, by rw [← hPB.out], Lib.hid (by rw [hN.out (fun h => by rcases hK.out.1 h with h | h; exact c1 h; exact c3 h.2)]; exact hBn.out), b10, hbG⟩
                  case measure => simp [intOf]; omega
              · have c2n : ¬ (pc : Int) = (pb : Int) := by omega
                have hbe := Lib.hid hbb
                clear hbb
                go_wp2_with (first | (go_at_call 64; (with_reducible refine (hcC.out _).mono ?_); rintro e w1 ⟨rfl, hb1⟩; have a13 := hq.below hb1 hql; have a10 := q10.below hb1 q10l; have a13l := a13.lt; have a10l := a10.lt; have aa0 := a13.c0; have aa1 := a13.c1; have aa2 := a13.c2; have aa3 := a13.c3; have aa4 := a13.c4; have aa5 := a13.c5; have aaf := a13.free; have ab0 := a10.c0; have ab1 := a10.c1; have ab2 := a10.c2; have ab3 := a10.c3; have ab4 := a10.c4; have ab5 := a10.c5; have abf := a10.free; have hbE : Below w2.heap.size w2 w1 := hbS.trans (hb1.mono hsS)) | (go_at_call 66; (with_reducible refine (hbe.out _).mono ?_); rintro e w4 ⟨rfl, hb4⟩; have b13 := a13.below hb4 a13l; have b10 := a10.below hb4 a10l; have ba0 := b13.c0; have ba1 := b13.c1; have ba2 := b13.c2; have ba3 := b13.c3; have ba4 := b13.c4; have ba5 := b13.c5; have baf := b13.free; have bb0 := b10.c0; have bb1 := b10.c1; have bb2 := b10.c2; have bb3 := b10.c3; have bb4 := b10.c4; have bb5 := b10.c5; have bbf := b10.free; have hbG : Below w2.heap.size w2 w4 := hbE.trans (hb4.mono hbE.size)))
                go_roundw
                case rel => exact ⟨n + 1, B, by omega, by omega, by go_num, by rw [← hPB.out], Lib.hid (by rw [hN.out (fun h => by rcases hK.out.1 h with h | h; exact c1 h; exact c2 h.1)]; exact hBn.out), a10, hbE⟩
                case measure => simp [intOf]; omega
      · have e : n = 2 ^ O.length := by omega
        subst e
        have hBf : B = f := by rw [hBn.out]; exact hfe
        subst hBf
        have r4 := m4.below hbr hl4'
        have r4l := r4.lt
        have hBF : Below w.heap.size w wo := hBc.trans (hbr.mono (by omega))
        have hp0 := r4.c0
        have hp1 := r4.c1
        have hp2 := r4.c2
        have hp3 := r4.c3
        have hp4 := r4.c4
        have hp5 := r4.c5
        have hpf := r4.free
        have hj0 := hHB.c0
        have hj1 := hHB.c1
        have hj2 := hHB.c2
        have hj3 := hHB.c3
        have hj4 := hHB.c4
        have hj5 := hHB.c5
        have hjf := hHB.free
        clear hfe hBn
        go_wp2
        exact bodyPost_ret (v := .tuple #[(.agg #[.int .i64 (row B 0), .int .i64 (row B 1), .int .i64 (row B 2), .int .i64 (row B 3), .int .i64 (row B 4), .int .i64 (row B 5)]), .int .i64 ((popN B : Nat) : Int), .bool true]) (by simp [results, Tryd.results30, go_sem, *]) rfl ⟨rfl, by (repeat (with_reducible refine Below.setCell ?_ ?_ _)); (all_goals (first | with_reducible exact hBF | (show w.heap.size ≤ w.heap.size + 1 + 1; omega)))⟩
set_option maxRecDepth 100000 in
theorem specFewest_cant (X t : Nat) (hX : Vs X) (ht : Vs t) (hc : ¬ CanT X t) (w : World) :
    Calls Tryd.prog 30 #[(.agg #[.int .i64 (row X 0), .int .i64 (row X 1), .int .i64 (row X 2), .int .i64 (row X 3), .int .i64 (row X 4), .int .i64 (row X 5)]), (.agg #[.int .i64 (row t 0), .int .i64 (row t 1), .int .i64 (row t 2), .int .i64 (row t 3), .int .i64 (row t 4), .int .i64 (row t 5)])] w fun e w' => e = .returned (.tuple #[.agg #[.int .i64 0, .int .i64 0, .int .i64 0, .int .i64 0, .int .i64 0, .int .i64 0], .int .i64 0, .bool false]) ∧ Below w.heap.size w w' := by
  have hLc := Lib.hid (specLeast_cant X t hX ht hc)
  clear hc
  go_enter Tryd.func30, Tryd.ntmps30
  go_wp2_with (go_at_call 32; (with_reducible refine (hLc.out _).mono ?_); rintro e w1 ⟨rfl, hb⟩; obtain ⟨hc, hf, hT, hz⟩ := bfacts hb; (try simp only [World.size_alloc, World.size_setCell, World.size_drew, size_drewN] at hc hf hT hz); (try (have hzA := Nat.lt_of_succ_le hz)); (try (have hl0 : w.heap.size ≤ w1.heap.size := by omega)); (try (have hz0 : w.heap.size < w1.heap.size := by omega)); (try (have hz1 : w.heap.size + 1 < w1.heap.size := by omega)); (try (have hz2 : w.heap.size + 1 + 1 < w1.heap.size := by omega)); (try (have hz3 : w.heap.size + 1 + 1 + 1 < w1.heap.size := by omega)); (try (have hz4 : w.heap.size + 1 + 1 + 1 + 1 < w1.heap.size := by omega)))
  exact bodyPost_ret (v := .tuple #[.agg #[.int .i64 0, .int .i64 0, .int .i64 0, .int .i64 0, .int .i64 0, .int .i64 0], .int .i64 0, .bool false]) (by simp [results, Tryd.results30, go_sem, *]) rfl ⟨rfl, (by repeat (first | with_reducible exact Below.refl _ _ | with_reducible assumption | with_reducible refine Below.drew ?_ | with_reducible refine below_drewN ?_ _ | with_reducible refine Below.alloc ?_ ?_ _ | with_reducible refine Below.setCell ?_ ?_ _ | with_reducible refine Below.trans ?_ (Below.mono (by assumption) ?_) | omega | (simp <;> omega)))⟩
set_option maxRecDepth 100000 in
theorem specFewest_no (a0 a1 a2 a3 a4 a5 b0 b1 b2 b3 b4 b5 : Int) (hn : ¬ (Ok6 a0 a1 a2 a3 a4 a5 ∧ Ok6 b0 b1 b2 b3 b4 b5)) (w : World) :
    Calls Tryd.prog 30 #[(.agg #[.int .i64 a0, .int .i64 a1, .int .i64 a2, .int .i64 a3, .int .i64 a4, .int .i64 a5]), (.agg #[.int .i64 b0, .int .i64 b1, .int .i64 b2, .int .i64 b3, .int .i64 b4, .int .i64 b5])] w fun e w' => e = .returned (.tuple #[.agg #[.int .i64 0, .int .i64 0, .int .i64 0, .int .i64 0, .int .i64 0, .int .i64 0], .int .i64 0, .bool false]) ∧ Below w.heap.size w w' := by
  have hLc := Lib.hid (specLeast_no a0 a1 a2 a3 a4 a5 b0 b1 b2 b3 b4 b5 hn)
  clear hn
  go_enter Tryd.func30, Tryd.ntmps30
  go_wp2_with (go_at_call 32; (with_reducible refine (hLc.out _).mono ?_); rintro e w1 ⟨rfl, hb⟩; obtain ⟨hc, hf, hT, hz⟩ := bfacts hb; (try simp only [World.size_alloc, World.size_setCell, World.size_drew, size_drewN] at hc hf hT hz); (try (have hzA := Nat.lt_of_succ_le hz)); (try (have hl0 : w.heap.size ≤ w1.heap.size := by omega)); (try (have hz0 : w.heap.size < w1.heap.size := by omega)); (try (have hz1 : w.heap.size + 1 < w1.heap.size := by omega)); (try (have hz2 : w.heap.size + 1 + 1 < w1.heap.size := by omega)); (try (have hz3 : w.heap.size + 1 + 1 + 1 < w1.heap.size := by omega)); (try (have hz4 : w.heap.size + 1 + 1 + 1 + 1 < w1.heap.size := by omega)))
  exact bodyPost_ret (v := .tuple #[.agg #[.int .i64 0, .int .i64 0, .int .i64 0, .int .i64 0, .int .i64 0, .int .i64 0], .int .i64 0, .bool false]) (by simp [results, Tryd.results30, go_sem, *]) rfl ⟨rfl, (by repeat (first | with_reducible exact Below.refl _ _ | with_reducible assumption | with_reducible refine Below.drew ?_ | with_reducible refine below_drewN ?_ _ | with_reducible refine Below.alloc ?_ ?_ _ | with_reducible refine Below.setCell ?_ ?_ _ | with_reducible refine Below.trans ?_ (Below.mono (by assumption) ?_) | omega | (simp <;> omega)))⟩
set_option maxRecDepth 100000 in
theorem specFewest_big (X t d : Nat) (hX : Vs X) (ht : Vs t) (hd : KerD X d) (h12 : 12 < d) (hc : CanT X t) (w : World) :
    Calls Tryd.prog 30 #[(.agg #[.int .i64 (row X 0), .int .i64 (row X 1), .int .i64 (row X 2), .int .i64 (row X 3), .int .i64 (row X 4), .int .i64 (row X 5)]), (.agg #[.int .i64 (row t 0), .int .i64 (row t 1), .int .i64 (row t 2), .int .i64 (row t 3), .int .i64 (row t 4), .int .i64 (row t 5)])] w fun e w' => e = .returned (.tuple #[.agg #[.int .i64 0, .int .i64 0, .int .i64 0, .int .i64 0, .int .i64 0, .int .i64 0], .int .i64 0, .bool false]) ∧ Below w.heap.size w w' := by
  have HD := Lib.hid hd
  have HC := Lib.hid hc
  clear hd hc
  go_enter Tryd.func30, Tryd.ntmps30
  go_upto_region 4 with (go_at_call 32; (with_reducible refine (specLeast_ok X t hX ht HC.out _).mono ?_); rintro e w1 ⟨z, rfl, hLz, hb⟩; have hz := hb.size)
  have k4 : HoldsA w1 27 (w.heap.size + 1 + 1) 0 0 0 0 0 0 := by
    (repeat (first | with_reducible assumption | (with_reducible refine HoldsA.made' ?_; (simp; done)) | with_reducible refine HoldsA.alloc ?_ _ | with_reducible refine HoldsA.drew ?_ | with_reducible refine HoldsA.drewN ?_ _ | (with_reducible refine HoldsA.far ?_ _ _ (by first | (simp; done) | (simp; omega))) | (with_reducible refine HoldsA.below ?_ (by with_reducible assumption) (by first | (simp; done) | (simp; omega) | omega))))
  have k2 : HoldsA w1 27 (w.heap.size) (row X 0) (row X 1) (row X 2) (row X 3) (row X 4) (row X 5) := by
    (repeat (first | with_reducible assumption | (with_reducible refine HoldsA.made' ?_; (simp; done)) | with_reducible refine HoldsA.alloc ?_ _ | with_reducible refine HoldsA.drew ?_ | with_reducible refine HoldsA.drewN ?_ _ | (with_reducible refine HoldsA.far ?_ _ _ (by first | (simp; done) | (simp; omega))) | (with_reducible refine HoldsA.below ?_ (by with_reducible assumption) (by first | (simp; done) | (simp; omega) | omega))))
  have hBa : Below w.heap.size w w1 := (by repeat (first | with_reducible exact Below.refl _ _ | with_reducible assumption | with_reducible refine Below.drew ?_ | with_reducible refine below_drewN ?_ _ | with_reducible refine Below.alloc ?_ ?_ _ | with_reducible refine Below.setCell ?_ ?_ _ | with_reducible refine Below.trans ?_ (Below.mono (by assumption) ?_) | omega | (simp <;> omega)))
  obtain ⟨wa, rfl⟩ : ∃ wa : World, wa = w1 := ⟨_, rfl⟩
  have hl0a : w.heap.size + 1 + 1 < wa.heap.size := k4.lt
  clear hb hz
  have j2 := k2.alloc (.cells #[.int .i64 (row z 0), .int .i64 (row z 1), .int .i64 (row z 2), .int .i64 (row z 3), .int .i64 (row z 4), .int .i64 (row z 5)] 27)
  have j4 := k4.alloc (.cells #[.int .i64 (row z 0), .int .i64 (row z 1), .int .i64 (row z 2), .int .i64 (row z 3), .int .i64 (row z 4), .int .i64 (row z 5)] 27)
  have hBb := hBa.alloc (by omega) (.cells #[.int .i64 (row z 0), .int .i64 (row z 1), .int .i64 (row z 2), .int .i64 (row z 3), .int .i64 (row z 4), .int .i64 (row z 5)] 27)
  have hl4 := j4.lt
  have hl2 := j2.lt
  generalize wa.alloc (.cells #[.int .i64 (row z 0), .int .i64 (row z 1), .int .i64 (row z 2), .int .i64 (row z 3), .int .i64 (row z 4), .int .i64 (row z 5)] 27) = wb at *
  have hx0 := j2.c0
  have hx1 := j2.c1
  have hx2 := j2.c2
  have hx3 := j2.c3
  have hx4 := j2.c4
  have hx5 := j2.c5
  have hxf := j2.free
  clear k2 k4 hBa
  go_upto_region 5 with (go_at_call 56; (with_reducible refine (l4Kernel_any X hX _).mono ?_); rintro e w2 ⟨vo, O, rfl, B, hO, ⟨R, L, hSR, hBS⟩, hb2⟩; obtain ⟨g, cap, rfl, hgB, hgl⟩ := hO.form; have hOR := hO.cellsAt; have hK := KB.of_sr hSR hBS HD.out; have hOd := hK.len; have h12i : (12 : Int) < (O.length : Int) := (by rw [hOd]; exact Int.ofNat_lt.2 h12); clear hSR hBS)
  have m4 := j4.below hb2 hl4
  have m4l := m4.lt
  have hBc := hBb.trans (hb2.mono (by omega))
  have hp0 := m4.c0
  have hp1 := m4.c1
  have hp2 := m4.c2
  have hp3 := m4.c3
  have hp4 := m4.c4
  have hp5 := m4.c5
  have hpf := m4.free
  have h12j : (12 : Int) < (d : Int) := by omega
  clear j2 j4 hBb hx0 hx1 hx2 hx3 hx4 hx5 hxf hb2 hO
  go_wp2
  exact bodyPost_ret (v := .tuple #[.agg #[.int .i64 0, .int .i64 0, .int .i64 0, .int .i64 0, .int .i64 0, .int .i64 0], .int .i64 0, .bool false]) (by simp [results, Tryd.results30, go_sem, *]) rfl ⟨rfl, by (repeat (with_reducible refine Below.setCell ?_ ?_ _)); (all_goals (first | with_reducible exact hBc | (show w.heap.size ≤ w.heap.size + 1 + 1; omega)))⟩
end Go.Proofs.YtgjgefbcfcomcaaDoor
