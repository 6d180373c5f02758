/-
  The program's FewestPresses: contract. Under: the library's own table of the lowest bits lies as its initialiser lays it.
-/
import Derived.Test.YtgjgefbcfcomcaaDoorUp
import Derived.Test.YtgjgefbcfcomcaaDoorUq
import Derived.Test.YtgjgefbcfcomcaaDoorUe
import Derived.Test.YtgjgefbcfcomcaaDoorEa
namespace Go.Proofs.YtgjgefbcfcomcaaDoor
open Go.RowKit
set_option linter.unusedSimpArgs false
set_option linter.unusedVariables false

/-- f is the least of the fewest presses with the print t -/
def FwOf (X t d f : Nat) : Prop := ∀ O y, KB X d O → Vs y → printS X y = t → fwN O y = f
theorem FwOf.ex (X t d : Nat) (hd : KerD X d) (hc : CanT X t) : ∃ f, FwOf X t d f ∧ Vs f := by
  obtain ⟨P, Q, L, hS⟩ := ts_ex X 36 (Nat.le_refl _)
  obtain ⟨y, hy, hp⟩ := hc
  have hk := KB.of_ts hS hd
  exact ⟨fwN L y, fun O y' hO hy' hp' => hO.uniq hk hy' hy (hp'.trans hp.symm), hk.fw_vs hy⟩
theorem pow_i64 (d : Nat) (h : d ≤ 12) : wrap64 ((2 : Int) ^ d) = (2 : Int) ^ d := by
  have h1 : (2 : Nat) ^ d ≤ 2 ^ 12 := Nat.pow_le_pow_right (by omega) h
  have e : (2 : Int) ^ d = ((2 ^ d : Nat) : Int) := by simp
  rw [e]
  generalize 2 ^ d = p at *
  unfold wrap64
  omega
theorem bitn_i64 (n k : Nat) (h : n < 2 ^ 36) : (bits .and .i64 ((n : Int) / 2 ^ k) 1 == 1) = n.testBit k := by
  have h1 := and_i64 (n / 2 ^ k) 1 (by have : n / 2 ^ k ≤ n := Nat.div_le_self _ _; omega) (by omega)
  rw [nat_mask1] at h1
  have e : ((n / 2 ^ k : Nat) : Int) = (n : Int) / 2 ^ k := by rw [Int.natCast_ediv]; simp
  rw [← e]
  rw [show ((1 : Nat) : Int) = 1 from rfl] at h1
  rw [h1, Nat.testBit_eq_decide_div_mod_eq]
  rw [Bool.eq_iff_iff]; simp; omega
def FoRel (L : List Nat) (y : Nat) (best i : Value) : Prop := ∃ n : Nat, n ≤ 2 ^ L.length ∧ i = .int .i64 (n : Int) ∧ best = .int .u64 ((y ^^^ cs L (fwA L y n) L.length : Nat) : Int)
def FiRel (L : List Nat) (y n : Nat) (own i : Value) : Prop := ∃ k : Nat, k ≤ L.length ∧ i = .int .i64 (k : Int) ∧ own = .int .u64 ((y ^^^ cs L n k : Nat) : Int)
set_option maxRecDepth 100000 in
set_option maxHeartbeats 4000000 in
theorem implFewest_ok (X t d f : Nat) (hX : Vs X) (ht : Vs t) (hd : KerD X d) (h12 : d ≤ 12) (hc : CanT X t) (hf : FwOf X t d f) (w : World) (hz : TabZ w) :
    Calls Tryd.prog 31 #[(.agg #[.int .i64 (row X 0), .int .i64 (row X 1), .int .i64 (row X 2), .int .i64 (row X 3), .int .i64 (row X 4), .int .i64 (row X 5)]), (.agg #[.int .i64 (row t 0), .int .i64 (row t 1), .int .i64 (row t 2), .int .i64 (row t 3), .int .i64 (row t 4), .int .i64 (row t 5)])] w fun e w' => e = .returned (.tuple #[(.agg #[.int .i64 (row f 0), .int .i64 (row f 1), .int .i64 (row f 2), .int .i64 (row f 3), .int .i64 (row f 4), .int .i64 (row f 5)]), .int .i64 ((popN f : Nat) : Int), .bool true]) ∧ Below w.heap.size w w' := by
  have hzl := hz.lt
  have HZ := Lib.hid hz
  have HX := Lib.hid hX
  have HT := Lib.hid ht
  have HD := Lib.hid hd
  have HC := Lib.hid hc
  have HF := Lib.hid hf
  clear hz hd hc hf
  go_enter Tryd.func31, Tryd.ntmps31
  go_upto_region 6 with (first | (go_at_call 49; (with_reducible refine (twoSets_ok _ _ hX ht _).mono ?_); rintro e w1 ⟨rfl, hb⟩; obtain ⟨hc, hf, hT, hz⟩ := bfacts hb; (try simp only [World.size_alloc, World.size_setCell, World.size_drew, size_drewN] at hc hf hT hz); (try (have hzA := Nat.lt_of_succ_le hz)); (try (have hl0 : w.heap.size ≤ w1.heap.size := by omega)); (try (have hz0 : w.heap.size < w1.heap.size := by omega)); (try (have hz1 : w.heap.size + 1 < w1.heap.size := by omega)); (try (have hz2 : w.heap.size + 1 + 1 < w1.heap.size := by omega)); (try (have hz3 : w.heap.size + 1 + 1 + 1 < w1.heap.size := by omega)); (try (have hz4 : w.heap.size + 1 + 1 + 1 + 1 < w1.heap.size := by omega))) | (go_at_call 50; (with_reducible refine (whole_any X HX.out _ (HZ.out.below (N := w.heap.size) (by repeat (first | with_reducible exact Below.refl _ _ | with_reducible assumption | with_reducible refine Below.drew ?_ | with_reducible refine below_drewN ?_ _ | with_reducible refine Below.alloc ?_ ?_ _ | with_reducible refine Below.setCell ?_ ?_ _ | with_reducible refine Below.trans ?_ (Below.mono (by assumption) ?_) | omega | (simp <;> omega))) hzl)).mono ?_); rintro e w2 ⟨T, P, Q, L, rfl, hTz, hT, hS, hb2⟩; have hTl := hT.1.lt; have hzz := hb2.size; have hSV := hS.vs; have hP1 := hT.1; obtain ⟨aq, cq, hq72, hqo⟩ := hT.quietSlice) | (go_at_call 51; (with_reducible refine (solve_any T P Q t HT.out hSV _ hP1).mono ?_); rintro e w3 ⟨rfl, hb3⟩; have hz3 := hb3.size; have hq3 := (hb3.cell (p := ⟨T, 72, none⟩) hTl).trans hq72; have hTl3 : T < w3.heap.size := by omega))
  have h4 : HoldsA w3 27 (w.heap.size + 1 + 1) 0 0 0 0 0 0 := by
    (repeat (first | with_reducible assumption | (with_reducible refine HoldsA.made' ?_; (simp; done)) | with_reducible refine HoldsA.alloc ?_ _ | with_reducible refine HoldsA.drew ?_ | with_reducible refine HoldsA.drewN ?_ _ | (with_reducible refine HoldsA.far ?_ _ _ (by first | (simp; done) | (simp; omega))) | (with_reducible refine HoldsA.below ?_ (by with_reducible assumption) (by first | (simp; done) | (simp; omega) | omega))))
  have hB0 : Below w.heap.size w w2 := (show Below w.heap.size w w1 from (by repeat (first | with_reducible exact Below.refl _ _ | with_reducible assumption | with_reducible refine Below.drew ?_ | with_reducible refine below_drewN ?_ _ | with_reducible refine Below.alloc ?_ ?_ _ | with_reducible refine Below.setCell ?_ ?_ _ | with_reducible refine Below.trans ?_ (Below.mono (by assumption) ?_) | omega | (simp <;> omega)))).trans (hb2.mono (by omega))
  have hB3 : Below w.heap.size w w3 := hB0.trans (hb3.mono (by omega))
  have hS2 := hS.solve t
  have h0 := hS2.2.2 (by obtain ⟨y, h1, h2⟩ := HC.out; exact ⟨y, (sp_sgl 36 y).2 h1, h2⟩)
  have hyv := (rdN_vs (q := 0) HT.out (by unfold Vs; omega) hSV 36 (Nat.le_refl _)).2
  have hpt := hS2.1
  rw [h0, Nat.zero_xor] at hpt
  have hdt : decide ((rdN P Q t 0 36).1 = 0) = true := decide_eq_true h0
  rw [hdt]
  clear hdt
  generalize (rdN P Q t 0 36).2 = y at *
  have hK := KB.of_ts hS HD.out
  have hfe := HF.out L y hK hyv hpt.symm
  have hLd := hK.len
  have hLv := hK.vs
  subst hLd
  have hLs := hqo.reads
  clear hS2 h0 hpt hK HD HF HC hS hSV hP1 hT hqo
  have hw36 : (2 : Nat) ^ L.length ≤ 4096 := by
    have := Nat.pow_le_pow_right (n := 2) (by omega) h12
    simpa using this
  have hp1 := pow_i64 L.length h12
  clear hc hf hT hz hzA hz0 hz1 hz2 hb hb2 hl0 hB0 hX ht
  go_wp2
  rw [hp1]
  go_loop [13, 54] (FoRel L y) (fun _ i => 2 ^ L.length - (intOf i).toNat)
  case atStart => exact ⟨0, Nat.zero_le _, rfl, by rw [show fwA L y 0 = 0 from rfl, cs_zero, Nat.xor_zero]⟩
  case round =>
    obtain ⟨n, hn, rfl, rfl⟩ := hrel
    obtain ⟨B, hB⟩ : ∃ B, B = y ^^^ cs L (fwA L y n) L.length := ⟨_, rfl⟩
    rw [← hB]
    have hBv : Vs B := by rw [hB]; exact hyv.xor (cs_vs L hLv _ _ (Nat.le_refl _))
    have hBn : Hid (B = y ^^^ cs L (fwA L y n) L.length) := Lib.hid hB
    clear hB
    by_cases hlt : n < 2 ^ L.length
    · have hlt' : (n : Int) < (2 : Int) ^ L.length := by rw [show (2 : Int) ^ L.length = ((2 ^ L.length : Nat) : Int) by simp]; omega
      have hsB := fun W => size_any B hBv W
      have hrB := fun W => rank_any B hBv W
      have hn64 : n < 2 ^ 36 := by omega
      go_wp2
      go_loop [15, 63] (FiRel L y n) (fun _ i => L.length - (intOf i).toNat)
      case atStart => exact ⟨0, Nat.zero_le _, rfl, by simp [cs]⟩
      case round =>
        obtain ⟨k, hk, rfl, rfl⟩ := hrel
        by_cases hlk : k < L.length
        · have hlk' : (k : Int) < (L.length : Int) := by omega
          have hov := hyv.xor (cs_vs L hLv n k hk)
          have hqm : L.getD k 0 ∈ L := by rw [List.getD_eq_getElem?_getD, List.getElem?_eq_getElem hlk]; exact List.getElem_mem hlk
          have hqv := hLv _ hqm
          have hbt := bitn_i64 n k hn64
          have hk36 : (k : Int) < 36 := by omega
          rcases hLs with ⟨h1, _⟩ | ⟨g, cap, h1, hg, hcell⟩
          · injection h1 with _ h2 _
            omega
          injection h1 with h2 _ h3
          subst h2 h3
          have hck := (hb3.cell (p := ⟨g, k, none⟩) hg).trans (hcell k hlk)
          have hyes := fun h => (cs_yes (O := L) (n := n) (k := k) h)
          have hno := fun h => (cs_no (O := L) (n := n) (k := k) h)
          generalize L.getD k 0 = q at *
          by_cases hb : n.testBit k = true
          · have hx : ((y ^^^ cs L n k) ^^^ q) = y ^^^ cs L n (k + 1) := by rw [hyes hb, Nat.xor_assoc]
            have hxx := xor_vs_u64 hov hqv
            rw [hx] at hxx
            have HXX := Lib.hid hxx
            rw [hb] at hbt
            clear hxx hx hyes hno
            go_wp2
            go_round
            case rel => exact ⟨k + 1, by omega, by go_num, by rw [HXX.out]⟩
            case measure => simp [intOf]; omega
          · have hb' := Bool.eq_false_iff.2 hb
            rw [hb'] at hbt
            have hx := Lib.hid (hno hb')
            clear hyes hno
            go_wp2
            go_round
            case rel => exact ⟨k + 1, by omega, by go_num, by rw [hx.out]⟩
            case measure => simp [intOf]; omega
        · have e : k = L.length := by omega
          subst e
          obtain ⟨C, hC⟩ : ∃ C, C = y ^^^ cs L n L.length := ⟨_, rfl⟩
          have hCv : Vs C := by rw [hC]; exact hyv.xor (cs_vs L hLv _ _ (Nat.le_refl _))
          have hyes := fun h => (fwA_yes (O := L) (y := y) (n := n) h)
          have hno := fun h => (fwA_no (O := L) (y := y) (n := n) h)
          rw [← hC, ← hBn.out] at hyes hno
          have hky := ky_lt C B
          rw [← hC]
          have hsC := fun W => size_any C hCv W
          have hrC := fun W => rank_any C hCv W
          generalize popN C = pc at *
          generalize popN B = pb at *
          generalize rkN C = rc at *
          generalize rkN B = rb at *
          have hCn : Hid (C = y ^^^ cs L n L.length) := Lib.hid hC
          have hY := Lib.hid hyes
          have hN := Lib.hid hno
          have hK := Lib.hid hky
          clear hyes hno hky hC hlk
          by_cases c1 : pc < pb
          · have c1' : (pc : Int) < (pb : Int) := by omega
            go_wp2_with (first | (go_at_call 67; (with_reducible refine (hsB _).mono ?_); rintro e w1 ⟨rfl, rfl⟩) | (go_at_call 67; (with_reducible refine (hsC _).mono ?_); rintro e w1 ⟨rfl, rfl⟩) | (go_at_call 68; (with_reducible refine (hrB _).mono ?_); rintro e w1 ⟨rfl, rfl⟩) | (go_at_call 68; (with_reducible refine (hrC _).mono ?_); rintro e w1 ⟨rfl, rfl⟩))
            go_round
            case rel => exact ⟨n + 1, by omega, by go_num, by rw [hY.out (hK.out.2 (.inl c1)), ← hCn.out]⟩
            case measure => simp [intOf]; omega
          · have c1' : ¬ (pc : Int) < (pb : Int) := by omega
            by_cases c2 : pc = pb
            · subst c2
              by_cases c3 : rc < rb
              · have c3' : (rc : Int) < (rb : Int) := by omega
                go_wp2_with (first | (go_at_call 67; (with_reducible refine (hsB _).mono ?_); rintro e w1 ⟨rfl, rfl⟩) | (go_at_call 67; (with_reducible refine (hsC _).mono ?_); rintro e w1 ⟨rfl, rfl⟩) | (go_at_call 68; (with_reducible refine (hrB _).mono ?_); rintro e w1 ⟨rfl, rfl⟩) | (go_at_call 68; (with_reducible refine (hrC _).mono ?_); rintro e w1 ⟨rfl, rfl⟩))
                go_round
                case rel => exact ⟨n + 1, by omega, by go_num, by rw [hY.out (hK.out.2 (.inr ⟨by trivial, c3⟩)), ← hCn.out]⟩
                case measure => simp [intOf]; omega
              · have c3' : ¬ (rc : Int) < (rb : Int) := by omega
                go_wp2_with (first | (go_at_call 67; (with_reducible refine (hsB _).mono ?_); rintro e w1 ⟨rfl, rfl⟩) | (go_at_call 67; (with_reducible refine (hsC _).mono ?_); rintro e w1 ⟨rfl, rfl⟩) | (go_at_call 68; (with_reducible refine (hrB _).mono ?_); rintro e w1 ⟨rfl, rfl⟩) | (go_at_call 68; (with_reducible refine (hrC _).mono ?_); rintro e w1 ⟨rfl, rfl⟩))
                go_round
                case rel => exact ⟨n + 1, by omega, by go_num, by rw [hN.out (fun h => by rcases hK.out.1 h with h | h; exact c1 h; exact c3 h.2), ← hBn.out]⟩
                case measure => simp [intOf]; omega
            · have c2' : ((pc : Int) == (pb : Int)) = false := by simp; omega
              have c2n : ¬ (pc : Int) = (pb : Int) := by omega
              go_wp2_with (first | (go_at_call 67; (with_reducible refine (hsB _).mono ?_); rintro e w1 ⟨rfl, rfl⟩) | (go_at_call 67; (with_reducible refine (hsC _).mono ?_); rintro e w1 ⟨rfl, rfl⟩) | (go_at_call 68; (with_reducible refine (hrB _).mono ?_); rintro e w1 ⟨rfl, rfl⟩) | (go_at_call 68; (with_reducible refine (hrC _).mono ?_); rintro e w1 ⟨rfl, rfl⟩))
              go_round
              case rel => exact ⟨n + 1, by omega, by go_num, by rw [hN.out (fun h => by rcases hK.out.1 h with h | h; exact c1 h; exact c2 h.1), ← hBn.out]⟩
              case measure => simp [intOf]; omega
    · have e : n = 2 ^ L.length := by omega
      subst e
      have hBf : B = f := by rw [hBn.out]; exact hfe
      subst hBf
      have hsB := fun W => size_any B hBv W
      have hp0 := h4.c0
      have hp1 := h4.c1
      have hp2 := h4.c2
      have hp3 := h4.c3
      have hp4 := h4.c4
      have hp5 := h4.c5
      have hpf := h4.free
      have hl4 := h4.lt
      clear hfe hBn
      go_wp2_with (first | (go_at_call 67; (with_reducible refine (hsB _).mono ?_); rintro e w1 ⟨rfl, rfl⟩) | (go_at_call 62; (with_reducible refine (sheet_any _ hBv _).mono ?_); rintro e w1 ⟨rfl, hb⟩; obtain ⟨hc, hf, hT, hz⟩ := bfacts hb; (try simp only [World.size_alloc, World.size_setCell, World.size_drew, size_drewN] at hc hf hT hz); (try (have hzA := Nat.lt_of_succ_le hz)); (try (have hl0 : w.heap.size ≤ w1.heap.size := by omega)); (try (have hz0 : w.heap.size < w1.heap.size := by omega)); (try (have hz1 : w.heap.size + 1 < w1.heap.size := by omega)); (try (have hz2 : w.heap.size + 1 + 1 < w1.heap.size := by omega)); (try (have hz3 : w.heap.size + 1 + 1 + 1 < w1.heap.size := by omega)); (try (have hz4 : w.heap.size + 1 + 1 + 1 + 1 < w1.heap.size := by omega))))
      exact bodyPost_ret (v := .tuple #[(.agg #[.int .i64 (row B 0), .int .i64 (row B 1), .int .i64 (row B 2), .int .i64 (row B 3), .int .i64 (row B 4), .int .i64 (row B 5)]), .int .i64 ((popN B : Nat) : Int), .bool true]) (by simp [results, Tryd.results31, go_sem, *]) rfl ⟨rfl, (by repeat (first | with_reducible exact Below.refl _ _ | with_reducible assumption | with_reducible refine Below.drew ?_ | with_reducible refine below_drewN ?_ _ | with_reducible refine Below.alloc ?_ ?_ _ | with_reducible refine Below.setCell ?_ ?_ _ | with_reducible refine Below.trans ?_ (Below.mono (by assumption) ?_) | omega | (simp <;> omega)))⟩
set_option maxRecDepth 100000 in
set_option maxHeartbeats 4000000 in
theorem implFewest_cant (X t d : Nat) (hX : Vs X) (ht : Vs t) (hd : KerD X d) (hc : ¬ CanT X t) (w : World) (hz : TabZ w) :
    Calls Tryd.prog 31 #[(.agg #[.int .i64 (row X 0), .int .i64 (row X 1), .int .i64 (row X 2), .int .i64 (row X 3), .int .i64 (row X 4), .int .i64 (row X 5)]), (.agg #[.int .i64 (row t 0), .int .i64 (row t 1), .int .i64 (row t 2), .int .i64 (row t 3), .int .i64 (row t 4), .int .i64 (row t 5)])] w fun e w' => e = .returned (.tuple #[.agg #[.int .i64 0, .int .i64 0, .int .i64 0, .int .i64 0, .int .i64 0, .int .i64 0], .int .i64 0, .bool false]) ∧ Below w.heap.size w w' := by
  have hzl := hz.lt
  have HZ := Lib.hid hz
  have HX := Lib.hid hX
  have HT := Lib.hid ht
  have HD := Lib.hid hd
  have HC := Lib.hid hc
  clear hz hd hc
  go_enter Tryd.func31, Tryd.ntmps31
  go_upto_region 6 with (first | (go_at_call 49; (with_reducible refine (twoSets_ok _ _ hX ht _).mono ?_); rintro e w1 ⟨rfl, hb⟩; obtain ⟨hc, hf, hT, hz⟩ := bfacts hb; (try simp only [World.size_alloc, World.size_setCell, World.size_drew, size_drewN] at hc hf hT hz); (try (have hzA := Nat.lt_of_succ_le hz)); (try (have hl0 : w.heap.size ≤ w1.heap.size := by omega)); (try (have hz0 : w.heap.size < w1.heap.size := by omega)); (try (have hz1 : w.heap.size + 1 < w1.heap.size := by omega)); (try (have hz2 : w.heap.size + 1 + 1 < w1.heap.size := by omega)); (try (have hz3 : w.heap.size + 1 + 1 + 1 < w1.heap.size := by omega)); (try (have hz4 : w.heap.size + 1 + 1 + 1 + 1 < w1.heap.size := by omega))) | (go_at_call 50; (with_reducible refine (whole_any X HX.out _ (HZ.out.below (N := w.heap.size) (by repeat (first | with_reducible exact Below.refl _ _ | with_reducible assumption | with_reducible refine Below.drew ?_ | with_reducible refine below_drewN ?_ _ | with_reducible refine Below.alloc ?_ ?_ _ | with_reducible refine Below.setCell ?_ ?_ _ | with_reducible refine Below.trans ?_ (Below.mono (by assumption) ?_) | omega | (simp <;> omega))) hzl)).mono ?_); rintro e w2 ⟨T, P, Q, L, rfl, hTz, hT, hS, hb2⟩; have hTl := hT.1.lt; have hzz := hb2.size; have hSV := hS.vs; have hP1 := hT.1; obtain ⟨aq, cq, hq72, hqo⟩ := hT.quietSlice) | (go_at_call 51; (with_reducible refine (solve_any T P Q t HT.out hSV _ hP1).mono ?_); rintro e w3 ⟨rfl, hb3⟩; have hz3 := hb3.size; have hq3 := (hb3.cell (p := ⟨T, 72, none⟩) hTl).trans hq72; have hTl3 : T < w3.heap.size := by omega))
  have h4 : HoldsA w3 27 (w.heap.size + 1 + 1) 0 0 0 0 0 0 := by
    (repeat (first | with_reducible assumption | (with_reducible refine HoldsA.made' ?_; (simp; done)) | with_reducible refine HoldsA.alloc ?_ _ | with_reducible refine HoldsA.drew ?_ | with_reducible refine HoldsA.drewN ?_ _ | (with_reducible refine HoldsA.far ?_ _ _ (by first | (simp; done) | (simp; omega))) | (with_reducible refine HoldsA.below ?_ (by with_reducible assumption) (by first | (simp; done) | (simp; omega) | omega))))
  have hB0 : Below w.heap.size w w2 := (show Below w.heap.size w w1 from (by repeat (first | with_reducible exact Below.refl _ _ | with_reducible assumption | with_reducible refine Below.drew ?_ | with_reducible refine below_drewN ?_ _ | with_reducible refine Below.alloc ?_ ?_ _ | with_reducible refine Below.setCell ?_ ?_ _ | with_reducible refine Below.trans ?_ (Below.mono (by assumption) ?_) | omega | (simp <;> omega)))).trans (hb2.mono (by omega))
  have hB3 : Below w.heap.size w w3 := hB0.trans (hb3.mono (by omega))
  have hS2 := hS.solve t
  have hLd := HD.out.ts hS
  have hdt : decide ((rdN P Q t 0 36).1 = 0) = false := decide_eq_false fun h0 => HC.out (by
    obtain ⟨y, h1, h2⟩ := hS2.2.1 h0
    exact ⟨y, (sp_sgl 36 y).1 h1, h2⟩)
  rw [hdt]
  clear hdt
  have hp0 := h4.c0
  have hp1 := h4.c1
  have hp2 := h4.c2
  have hp3 := h4.c3
  have hp4 := h4.c4
  have hp5 := h4.c5
  have hpf := h4.free
  have hl4 := h4.lt
  clear hS2 HD HC hS hSV hP1 hT hqo
  go_wp2
  exact bodyPost_ret (v := .tuple #[.agg #[.int .i64 0, .int .i64 0, .int .i64 0, .int .i64 0, .int .i64 0, .int .i64 0], .int .i64 0, .bool false]) (by simp [results, Tryd.results31, go_sem, *]) rfl ⟨rfl, (by repeat (first | with_reducible exact Below.refl _ _ | with_reducible assumption | with_reducible refine Below.drew ?_ | with_reducible refine below_drewN ?_ _ | with_reducible refine Below.alloc ?_ ?_ _ | with_reducible refine Below.setCell ?_ ?_ _ | with_reducible refine Below.trans ?_ (Below.mono (by assumption) ?_) | omega | (simp <;> omega)))⟩
set_option maxRecDepth 100000 in
set_option maxHeartbeats 4000000 in
theorem implFewest_big (X t d : Nat) (hX : Vs X) (ht : Vs t) (hd : KerD X d) (h12 : 12 < d) (hc : CanT X t) (w : World) (hz : TabZ w) :
    Calls Tryd.prog 31 #[(.agg #[.int .i64 (row X 0), .int .i64 (row X 1), .int .i64 (row X 2), .int .i64 (row X 3), .int .i64 (row X 4), .int .i64 (row X 5)]), (.agg #[.int .i64 (row t 0), .int .i64 (row t 1), .int .i64 (row t 2), .int .i64 (row t 3), .int .i64 (row t 4), .int .i64 (row t 5)])] w fun e w' => e = .returned (.tuple #[.agg #[.int .i64 0, .int .i64 0, .int .i64 0, .int .i64 0, .int .i64 0, .int .i64 0], .int .i64 0, .bool false]) ∧ Below w.heap.size w w' := by
  have hzl := hz.lt
  have HZ := Lib.hid hz
  have HX := Lib.hid hX
  have HT := Lib.hid ht
  have HD := Lib.hid hd
  have HC := Lib.hid hc
  clear hz hd hc
  go_enter Tryd.func31, Tryd.ntmps31
  go_upto_region 6 with (first | (go_at_call 49; (with_reducible refine (twoSets_ok _ _ hX ht _).mono ?_); rintro e w1 ⟨rfl, hb⟩; obtain ⟨hc, hf, hT, hz⟩ := bfacts hb; (try simp only [World.size_alloc, World.size_setCell, World.size_drew, size_drewN] at hc hf hT hz); (try (have hzA := Nat.lt_of_succ_le hz)); (try (have hl0 : w.heap.size ≤ w1.heap.size := by omega)); (try (have hz0 : w.heap.size < w1.heap.size := by omega)); (try (have hz1 : w.heap.size + 1 < w1.heap.size := by omega)); (try (have hz2 : w.heap.size + 1 + 1 < w1.heap.size := by omega)); (try (have hz3 : w.heap.size + 1 + 1 + 1 < w1.heap.size := by omega)); (try (have hz4 : w.heap.size + 1 + 1 + 1 + 1 < w1.heap.size := by omega))) | (go_at_call 50; (with_reducible refine (whole_any X HX.out _ (HZ.out.below (N := w.heap.size) (by repeat (first | with_reducible exact Below.refl _ _ | with_reducible assumption | with_reducible refine Below.drew ?_ | with_reducible refine below_drewN ?_ _ | with_reducible refine Below.alloc ?_ ?_ _ | with_reducible refine Below.setCell ?_ ?_ _ | with_reducible refine Below.trans ?_ (Below.mono (by assumption) ?_) | omega | (simp <;> omega))) hzl)).mono ?_); rintro e w2 ⟨T, P, Q, L, rfl, hTz, hT, hS, hb2⟩; have hTl := hT.1.lt; have hzz := hb2.size; have hSV := hS.vs; have hP1 := hT.1; obtain ⟨aq, cq, hq72, hqo⟩ := hT.quietSlice) | (go_at_call 51; (with_reducible refine (solve_any T P Q t HT.out hSV _ hP1).mono ?_); rintro e w3 ⟨rfl, hb3⟩; have hz3 := hb3.size; have hq3 := (hb3.cell (p := ⟨T, 72, none⟩) hTl).trans hq72; have hTl3 : T < w3.heap.size := by omega))
  have h4 : HoldsA w3 27 (w.heap.size + 1 + 1) 0 0 0 0 0 0 := by
    (repeat (first | with_reducible assumption | (with_reducible refine HoldsA.made' ?_; (simp; done)) | with_reducible refine HoldsA.alloc ?_ _ | with_reducible refine HoldsA.drew ?_ | with_reducible refine HoldsA.drewN ?_ _ | (with_reducible refine HoldsA.far ?_ _ _ (by first | (simp; done) | (simp; omega))) | (with_reducible refine HoldsA.below ?_ (by with_reducible assumption) (by first | (simp; done) | (simp; omega) | omega))))
  have hB0 : Below w.heap.size w w2 := (show Below w.heap.size w w1 from (by repeat (first | with_reducible exact Below.refl _ _ | with_reducible assumption | with_reducible refine Below.drew ?_ | with_reducible refine below_drewN ?_ _ | with_reducible refine Below.alloc ?_ ?_ _ | with_reducible refine Below.setCell ?_ ?_ _ | with_reducible refine Below.trans ?_ (Below.mono (by assumption) ?_) | omega | (simp <;> omega)))).trans (hb2.mono (by omega))
  have hB3 : Below w.heap.size w w3 := hB0.trans (hb3.mono (by omega))
  have hS2 := hS.solve t
  have hLd := HD.out.ts hS
  have h0 := hS2.2.2 (by obtain ⟨y, h1, h2⟩ := HC.out; exact ⟨y, (sp_sgl 36 y).2 h1, h2⟩)
  have hdt : decide ((rdN P Q t 0 36).1 = 0) = true := decide_eq_true h0
  rw [hdt]
  clear hdt h0
  have h12i : (12 : Int) < (L.length : Int) := by omega
  have hp0 := h4.c0
  have hp1 := h4.c1
  have hp2 := h4.c2
  have hp3 := h4.c3
  have hp4 := h4.c4
  have hp5 := h4.c5
  have hpf := h4.free
  have hl4 := h4.lt
  clear hS2 HD HC hS hSV hP1 hT hqo
  go_wp2
  exact bodyPost_ret (v := .tuple #[.agg #[.int .i64 0, .int .i64 0, .int .i64 0, .int .i64 0, .int .i64 0, .int .i64 0], .int .i64 0, .bool false]) (by simp [results, Tryd.results31, go_sem, *]) rfl ⟨rfl, (by repeat (first | with_reducible exact Below.refl _ _ | with_reducible assumption | with_reducible refine Below.drew ?_ | with_reducible refine below_drewN ?_ _ | with_reducible refine Below.alloc ?_ ?_ _ | with_reducible refine Below.setCell ?_ ?_ _ | with_reducible refine Below.trans ?_ (Below.mono (by assumption) ?_) | omega | (simp <;> omega)))⟩
set_option maxRecDepth 100000 in
theorem implFewest_no (a0 a1 a2 a3 a4 a5 b0 b1 b2 b3 b4 b5 : Int) (hn : ¬ (Ok6 a0 a1 a2 a3 a4 a5 ∧ Ok6 b0 b1 b2 b3 b4 b5)) (w : World) :
    Calls Tryd.prog 31 #[(.agg #[.int .i64 a0, .int .i64 a1, .int .i64 a2, .int .i64 a3, .int .i64 a4, .int .i64 a5]), (.agg #[.int .i64 b0, .int .i64 b1, .int .i64 b2, .int .i64 b3, .int .i64 b4, .int .i64 b5])] w fun e w' => e = .returned (.tuple #[.agg #[.int .i64 0, .int .i64 0, .int .i64 0, .int .i64 0, .int .i64 0, .int .i64 0], .int .i64 0, .bool false]) ∧ Below w.heap.size w w' := by
  go_enter Tryd.func31, Tryd.ntmps31
  go_wp2_with (go_at_call 49; (with_reducible refine (twoSets_no _ _ _ _ _ _ _ _ _ _ _ _ (by assumption) _).mono ?_); rintro e w1 ⟨x1, y1, rfl, hb⟩; obtain ⟨hc, hf, hT, hz⟩ := bfacts hb; (try simp only [World.size_alloc, World.size_setCell, World.size_drew, size_drewN] at hc hf hT hz); (try (have hzA := Nat.lt_of_succ_le hz)); (try (have hl0 : w.heap.size ≤ w1.heap.size := by omega)); (try (have hz0 : w.heap.size < w1.heap.size := by omega)); (try (have hz1 : w.heap.size + 1 < w1.heap.size := by omega)); (try (have hz2 : w.heap.size + 1 + 1 < w1.heap.size := by omega)); (try (have hz3 : w.heap.size + 1 + 1 + 1 < w1.heap.size := by omega)); (try (have hz4 : w.heap.size + 1 + 1 + 1 + 1 < w1.heap.size := by omega)))
  exact bodyPost_ret (v := .tuple #[.agg #[.int .i64 0, .int .i64 0, .int .i64 0, .int .i64 0, .int .i64 0, .int .i64 0], .int .i64 0, .bool false]) (by simp [results, Tryd.results31, go_sem, *]) rfl ⟨rfl, (by repeat (first | with_reducible exact Below.refl _ _ | with_reducible assumption | with_reducible refine Below.drew ?_ | with_reducible refine below_drewN ?_ _ | with_reducible refine Below.alloc ?_ ?_ _ | with_reducible refine Below.setCell ?_ ?_ _ | with_reducible refine Below.trans ?_ (Below.mono (by assumption) ?_) | omega | (simp <;> omega)))⟩
end Go.Proofs.YtgjgefbcfcomcaaDoor
