/-
  QuietStamps of the reference: contract. No conditions.
-/
import Derived.Test.YtgjgefbcfcomcaaGreatDoorWb
import Derived.Test.YtgjgefbcfcomcaaGreatDoorUe
import Derived.Test.YtgjgefbcfcomcaaGreatDoorUf
import Derived.Deep.CutRange
import Derived.Deep.RegionHeld3
namespace Go.Proofs.YtgjgefbcfcomcaaGreatDoor
open Go.RowKit
set_option linter.unusedSimpArgs false
set_option linter.unusedVariables false

theorem SR.add1n {X : Nat} {G : List Nat} {R : List (Nat × Nat)} {L : List Nat} (h : SR X G R L) {x : Nat} (h0 : ldN (rdL R (x, printS X x)).2 < 36) : SR X (G ++ [x]) (R ++ [rdL R (x, printS X x)]) L := by
  obtain ⟨_, h2, h3⟩ := h.red x (printS X x)
  have hp := h.redp x
  generalize rdL R (x, printS X x) = p at *
  refine ⟨fun s hs => ?_, ?_⟩
  · rcases List.mem_append.1 hs with hs | hs
    · exact h.rows s hs
    · rw [List.mem_singleton.1 hs]
      exact ⟨hp, h0⟩
  · have ha := h.tabl.add1 h2 (k := ldc (ldN p.2)) (by rw [← hp]; exact ldN_bit _ h0) (fun r hr => by rw [← hp]; exact h3 r hr)
    have e : pvR (R ++ [p]) = pvR R ++ [(p.1, ldc (ldN p.2))] := by
      unfold pvR
      rw [List.map_append]
      rfl
    rw [e]
    exact ha
theorem SR.lenG {X : Nat} {G : List Nat} {R : List (Nat × Nat)} {L : List Nat} (h : SR X G R L) : R.length + L.length = G.length := by
  have := h.tabl.len
  rwa [show (pvR R).length = R.length by unfold pvR; rw [List.length_map]] at this
theorem ownsS_mono {w : World} {B B' : Nat} {v : Value} {L : List Nat} (h : OwnsS w B v L) (hB : B' ≤ B) : OwnsS w B' v L := by
  refine ⟨⟨h.1.1, ?_⟩, h.2⟩
  rcases h.1.2 with h1 | ⟨g, cap, cur, h1, h2, h3⟩
  · exact .inl h1
  · exact .inr ⟨g, cap, cur, h1, Nat.le_trans hB h2, h3⟩
def Q1Rel (w : World) (v i : Value) (wr : World) : Prop := ∃ n : Nat, n ≤ 36 ∧ i = .int .i64 (n : Int) ∧ OwnsS wr w.heap.size v (sgl n) ∧ Below w.heap.size w wr
def Q2Rel (Xs : List Nat) (k0 : Nat) (w : World) (v i : Value) (wr : World) : Prop :=
  ∃ (k : Nat) (G : List Nat), k ≤ k0 ∧ i = .int .i64 (k : Int) ∧ OwnsS wr w.heap.size v G ∧ QD (Xs.take k) G ∧ Below w.heap.size w wr
def Q3Rel (X : Nat) (G : List Nat) (wo : World) (vr vq i : Value) (wr : World) : Prop :=
  ∃ (m : Nat) (R : List (Nat × Nat)) (L : List Nat), m ≤ G.length ∧ i = .int .i64 (m : Int) ∧ OwnsR wr wo.heap.size vr R ∧ OwnsS wr wo.heap.size vq L ∧ SR X (G.take m) R L ∧ Below wo.heap.size wo wr
set_option maxRecDepth 100000 in
set_option maxHeartbeats 16000000 in
/-- the first k0 sheets are the stamps Xs; the next one, if there is one, is not valid -/
theorem specQuiet_run (n k0 d : Nat) (Z : List Int) (Xs L0 : List Nat) (hn : n ≤ 6) (hk0 : k0 ≤ n) (hX : Xs.length = k0) (hok : ∀ k, k < k0 → OkAt Z k (Xs.getD k 0)) (hbad : k0 < n → ∀ k, k = k0 → ¬ Ok6 (Z.getD (k * 6) 0) (Z.getD (k * 6 + 1) 0) (Z.getD (k * 6 + 2) 0) (Z.getD (k * 6 + 3) 0) (Z.getD (k * 6 + 4) 0) (Z.getD (k * 6 + 5) 0))
    (hd : QD Xs L0) (hdl : L0.length = d) (res : Value) (h1r : k0 = n → res = .tuple #[.int .i64 (d : Int), .bool true]) (h2r : ¬ k0 = n → res = .tuple #[.int .i64 0, .bool false]) (v : Value) (w : World) (hr : ReadsZ w v n Z) :
    Calls Tryz.prog 26 #[v] w fun e w' => e = .returned res ∧ Below w.heap.size w w' := by
  obtain ⟨i0, hi, iz0, iz1, iz2⟩ := info_parts infoRow
  obtain ⟨j0, hj, jz0, jz1, jz2⟩ := info_parts infoSheet
  obtain ⟨a, c, rfl⟩ := readsZ_form hr
  have hzr : ∀ i, row 0 i = 0 := fun i => by unfold row; simp
  have HOK := Lib.hid hok
  have HBAD := Lib.hid hbad
  have HD := Lib.hid hd
  have hnI : ¬ ((6 : Int) < (n : Int)) := by omega
  clear hok hbad hd
  go_enter Tryz.func26, Tryz.ntmps26
  go_wp2
  go_loopw [4, 5] (Q1Rel w) (fun _ i _ => 36 - (intOf i).toNat)
  case atStart => exact ⟨0, by omega, rfl, ownsS_empty w w.heap.size _ (Nat.le_refl _) rfl, (Below.refl _ _).alloc (Nat.le_refl _) _⟩
  case round =>
    obtain ⟨q, hq, rfl, hO, hbw⟩ := hrel
    have hbsz := hbw.size
    by_cases hlt : q < 36
    · have hlt' : (q : Int) < 36 := by omega
      obtain ⟨x, hxn⟩ : ∃ x, x = q % 6 := ⟨_, rfl⟩
      obtain ⟨y, hyn⟩ : ∃ y, y = q / 6 := ⟨_, rfl⟩
      have hx : ((q : Int) % 6) = (x : Int) := by omega
      have hy : ((q : Int) / 6) = (y : Int) := by omega
      have hfl := l2Flip_any 0 x y (by omega) (by omega)
      rw [show 6 * y + x = q by omega, Nat.zero_xor] at hfl
      simp only [hzr] at hfl
      have hFL := Lib.hid hfl
      clear hxn hyn hfl
      obtain ⟨p1, hp1⟩ : ∃ p1, p1 = 2 ^ q := ⟨_, rfl⟩
      rw [← hp1] at hFL
      have HP := Lib.hid hp1
      clear hp1
      have hsl := sgl_len q
      go_wp2_with (first | (go_at_call 52; (with_reducible refine (hFL.out _).mono ?_); rintro e w1 ⟨rfl, hb⟩; have hbz := hb.size) | (at_builtin; refine wpList_append_own _ rfl _ _ 28 rfl w.heap.size 26 j0 (.agg #[.int .i64 0, .int .i64 0, .int .i64 0, .int .i64 0, .int .i64 0, .int .i64 0]) 6 48 Tryz.underlying28 hj jz0 jz1 jz2 rfl (by decide) _ _ _ rfl ((hO.below hb).1.alloc _) ⟨w1.heap.size, 0, none⟩ 1 1 [.int .i64 (row p1 0), .int .i64 (row p1 1), .int .i64 (row p1 2), .int .i64 (row p1 3), .int .i64 (row p1 4), .int .i64 (row p1 5)] rfl rfl ?c1 ?c2 ?c3 ?c4 ?c5 ?_))
      case c1 =>
        intro j u hj
        match j, hj with
        | 0, hj => simp at hj; subst hj; simp [Addr.add]
        | 1, hj => simp at hj; subst hj; simp [Addr.add]
        | 2, hj => simp at hj; subst hj; simp [Addr.add]
        | 3, hj => simp at hj; subst hj; simp [Addr.add]
        | 4, hj => simp at hj; subst hj; simp [Addr.add]
        | 5, hj => simp at hj; subst hj; simp [Addr.add]
      case c2 =>
        intro u hu
        simp at hu
        rcases hu with rfl | rfl | rfl | rfl | rfl | rfl <;> rfl
      case c3 => unfold maxLen; omega
      case c4 => omega
      case c5 => simp; omega
      intro v' w5 hown' hgrow hnil
      have hN : v' ≠ .slice none 0 0 := fun h => by first | exact hnil h | exact hO.2 (hnil.1 h).1
      have hO' : OwnsS w5 w.heap.size v' (sgl (q + 1)) := by
        refine ⟨?_, hN⟩
        rw [sgl_succ, shI_snoc, List.map_append, List.length_append, hsl, ← HP.out]
        exact hown'
      have hB5 : Below w.heap.size w w5 := ((hbw.trans (hb.mono hbw.size)).alloc (by omega) _).grown hgrow (by simp; omega) (fun j hj => by have := (hO.1.lt j hj).1; omega)
      clear hown' hgrow hnil hN
      go_wp2
      go_roundw
      case rel => exact ⟨q + 1, by omega, by go_num, hO', hB5⟩
      case measure => simp [intOf]; omega
    · have e : q = 36 := by omega
      subst e
      rw [show ((36 : Nat) : Int) = 36 from rfl]
      go_wp2
      go_loopw [4, 6] (Q2Rel Xs k0 w) (fun _ i _ => n - (intOf i).toNat)
      case atStart => exact ⟨0, sgl 36, Nat.zero_le _, rfl, hO, by rw [List.take_zero]; exact QD.start, hbw⟩
      case round =>
        clear hO hbw hbsz
        obtain ⟨k, G, hk, rfl, hO, hQ, hbw⟩ := hrel
        have hbsz := hbw.size
        obtain ⟨g4, cap4, rfl, hg4a, hg4⟩ := hO.form
        have hGl := hQ.le
        by_cases hkn : k < n
        · have hkn' : (k : Int) < (n : Int) := by omega
          rcases hr with ⟨_, h2⟩ | ⟨g, cap, h1, hg, hcell⟩
          · omega
          injection h1 with h2 _ h3
          subst h2 h3
          have e0 := (hbw.cell (p := ⟨g, k * 6, none⟩) hg).trans (hcell (k * 6) (by omega))
          have e1 := (hbw.cell (p := ⟨g, k * 6 + 1, none⟩) hg).trans (hcell (k * 6 + 1) (by omega))
          have e2 := (hbw.cell (p := ⟨g, k * 6 + 2, none⟩) hg).trans (hcell (k * 6 + 2) (by omega))
          have e3 := (hbw.cell (p := ⟨g, k * 6 + 3, none⟩) hg).trans (hcell (k * 6 + 3) (by omega))
          have e4 := (hbw.cell (p := ⟨g, k * 6 + 4, none⟩) hg).trans (hcell (k * 6 + 4) (by omega))
          have e5 := (hbw.cell (p := ⟨g, k * 6 + 5, none⟩) hg).trans (hcell (k * 6 + 5) (by omega))
          by_cases hk1 : k < k0
          · obtain ⟨hXv, r0, r1, r2, r3, r4, r5⟩ := HOK.out k hk1
            rw [r0] at e0
            rw [r1] at e1
            rw [r2] at e2
            rw [r3] at e3
            rw [r4] at e4
            rw [r5] at e5
            have htk := take_snoc Xs 0 k (by omega)
            generalize Xs.getD k 0 = X at *
            have HQ := Lib.hid hQ
            have HT := Lib.hid htk
            clear hQ htk r0 r1 r2 r3 r4 r5
            go_upto_region 14 with (go_at_call 36; (with_reducible refine (l2Sheet_ok _ _).mono ?_); rintro e w1 ⟨rfl, hb⟩; obtain ⟨hc, hf, hT, hz⟩ := bfacts hb; (try simp only [World.size_alloc, World.size_setCell, World.size_drew, size_drewN] at hc hf hT hz); (try (have hzA := Nat.lt_of_succ_le hz)); (try (have hl0 : w.heap.size ≤ w1.heap.size := by omega)); (try (have hz0 : w.heap.size < w1.heap.size := by omega)); (try (have hz1 : w.heap.size + 1 < w1.heap.size := by omega)); (try (have hz2 : w.heap.size + 1 + 1 < w1.heap.size := by omega)); (try (have hz3 : w.heap.size + 1 + 1 + 1 < w1.heap.size := by omega)); (try (have hz4 : w.heap.size + 1 + 1 + 1 + 1 < w1.heap.size := by omega)); (try (have gxg : g < w1.heap.size := by omega)); (try (have gxg4 : g4 < w1.heap.size := by omega)); (try (have gxwrheapsize : wr.heap.size < w1.heap.size := by omega)))
            have hB1 : Below wr.heap.size wr w1 := (by repeat (first | with_reducible exact Below.refl _ _ | with_reducible assumption | with_reducible refine Below.drew ?_ | with_reducible refine below_drewN ?_ _ | with_reducible refine Below.alloc ?_ ?_ _ | with_reducible refine Below.setCell ?_ ?_ _ | with_reducible refine Below.trans ?_ (Below.mono (by assumption) ?_) | omega | (simp <;> omega)))
            have hgw : g < wr.heap.size := by omega
            have o0 := (hB1.cell (p := ⟨g, k * 6, none⟩) hgw).trans e0
            have o1 := (hB1.cell (p := ⟨g, k * 6 + 1, none⟩) hgw).trans e1
            have o2 := (hB1.cell (p := ⟨g, k * 6 + 2, none⟩) hgw).trans e2
            have o3 := (hB1.cell (p := ⟨g, k * 6 + 3, none⟩) hgw).trans e3
            have o4 := (hB1.cell (p := ⟨g, k * 6 + 4, none⟩) hgw).trans e4
            have o5 := (hB1.cell (p := ⟨g, k * 6 + 5, none⟩) hgw).trans e5
            have kO := hO.below hB1
            have hB1w : Below w.heap.size w w1 := hbw.trans (hB1.mono hbsz)
            have hR0 := (ownsR_empty w1 w1.heap.size w1.heap.size (Nat.le_refl _) rfl).alloc (.cells #[] 26)
            have hL0 := ownsS_empty (w1.alloc (.cells #[] 84)) w1.heap.size (w1.heap.size + 1) (by simp) (by simp)
            have hBst : Below w1.heap.size w1 ((w1.alloc (.cells #[] 84)).alloc (.cells #[] 26)) := ((Below.refl _ _).alloc (Nat.le_refl _) _).alloc (by simp) _
            have hsz1 := hB1.size
            have hz1 : g < w1.heap.size := by omega
            have hz4 : g4 < w1.heap.size := by omega
            have hcO := kO.cellsAt
            obtain ⟨wO, rfl⟩ : ∃ wO : World, wO = w1 := ⟨_, rfl⟩
            clear e0 e1 e2 e3 e4 e5 hb hc hf hT hB1 kO hO
            go_wp2
            go_loopw [7, 8, 9] (Q3Rel X G wO) (fun _ _ i _ => G.length - (intOf i).toNat)
            case atStart => exact ⟨0, [], [], Nat.zero_le _, rfl, hR0, hL0, by rw [List.take_zero]; exact SR.start X, hBst⟩
            case round =>
              clear hR0 hL0 hBst
              obtain ⟨m, R, L, hm, rfl, hR, hL, hS, hbi⟩ := hrel
              obtain ⟨wb, rfl⟩ : ∃ wb : World, wb = wr := ⟨_, rfl⟩
              have hbisz := hbi.size
              by_cases hmt : m < G.length
              · have hmt' : (m : Int) < (G.length : Int) := by omega
                have hxm : G.getD m 0 ∈ G := by rw [List.getD_eq_getElem?_getD, List.getElem?_eq_getElem hmt]; exact List.getElem_mem hmt
                have hxv := HQ.out.vs _ hxm
                have htm := take_snoc G 0 m hmt
                obtain ⟨c0, c1, c2, c3, c4, c5⟩ := hcO m hmt
                generalize G.getD m 0 = x at *
                have d0 := (hbi.cell (p := ⟨g4, m * 6, none⟩) hz4).trans c0
                have d1 := (hbi.cell (p := ⟨g4, m * 6 + 1, none⟩) hz4).trans c1
                have d2 := (hbi.cell (p := ⟨g4, m * 6 + 2, none⟩) hz4).trans c2
                have d3 := (hbi.cell (p := ⟨g4, m * 6 + 3, none⟩) hz4).trans c3
                have d4 := (hbi.cell (p := ⟨g4, m * 6 + 4, none⟩) hz4).trans c4
                have d5 := (hbi.cell (p := ⟨g4, m * 6 + 5, none⟩) hz4).trans c5
                have f0 := (hbi.cell (p := ⟨g, k * 6, none⟩) hz1).trans o0
                have f1 := (hbi.cell (p := ⟨g, k * 6 + 1, none⟩) hz1).trans o1
                have f2 := (hbi.cell (p := ⟨g, k * 6 + 2, none⟩) hz1).trans o2
                have f3 := (hbi.cell (p := ⟨g, k * 6 + 3, none⟩) hz1).trans o3
                have f4 := (hbi.cell (p := ⟨g, k * 6 + 4, none⟩) hz1).trans o4
                have f5 := (hbi.cell (p := ⟨g, k * 6 + 5, none⟩) hz1).trans o5
                have hlens := hS.lenG
                rw [List.length_take] at hlens
                have hpr := Lib.hid (l4Print_any X x)
                have hrd := fun W h => l4Reduced_any u7 R (x, printS X x) (fun r hr => (hS.rows r hr).2) (by omega) W h
                dsimp only at hrd
                have ha0 := hS.add0 (x := x)
                have ha1 := hS.add1n (x := x)
                rw [← htm] at ha0 ha1
                generalize rdL R (x, printS X x) = p at *
                obtain ⟨p1, p2⟩ := p
                dsimp only at *
                have hRD := Lib.hid hrd
                have HA0 := Lib.hid ha0
                have HA1 := Lib.hid ha1
                have KR := Lib.hid hR
                have KL := Lib.hid hL
                have hgb : g < wb.heap.size := by omega
                have hgb4 : g4 < wb.heap.size := by omega
                clear hrd ha0 ha1 hR hL hS htm hxm c0 c1 c2 c3 c4 c5
                go_upto_region 17 with fail
                go_cut [10] from 48 to 63 (fun s10 wx => ∃ S8 : Nat, s10 = .pointer (some ⟨S8, 0, none⟩) ∧ wb.heap.size ≤ S8 ∧ HoldsP wx S8 p1 p2 ∧ Below wb.heap.size wb wx)
                case first =>
                  go_region_held3 (fun w' => w'.cell? ⟨g, k * 6, none⟩ = some (.int .i64 (row X 0)) ∧ w'.cell? ⟨g, k * 6 + 1, none⟩ = some (.int .i64 (row X 1)) ∧ w'.cell? ⟨g, k * 6 + 2, none⟩ = some (.int .i64 (row X 2)) ∧ w'.cell? ⟨g, k * 6 + 3, none⟩ = some (.int .i64 (row X 3)) ∧ w'.cell? ⟨g, k * 6 + 4, none⟩ = some (.int .i64 (row X 4)) ∧ w'.cell? ⟨g, k * 6 + 5, none⟩ = some (.int .i64 (row X 5)) ∧ w'.cell? ⟨g4, m * 6, none⟩ = some (.int .i64 (row x 0)) ∧ w'.cell? ⟨g4, m * 6 + 1, none⟩ = some (.int .i64 (row x 1)) ∧ w'.cell? ⟨g4, m * 6 + 2, none⟩ = some (.int .i64 (row x 2)) ∧ w'.cell? ⟨g4, m * 6 + 3, none⟩ = some (.int .i64 (row x 3)) ∧ w'.cell? ⟨g4, m * 6 + 4, none⟩ = some (.int .i64 (row x 4)) ∧ w'.cell? ⟨g4, m * 6 + 5, none⟩ = some (.int .i64 (row x 5))) (simp [*, World.cell?_alloc_some, World.cell?_setCell_far, Nat.ne_of_gt]) (first | (go_at_call 42; (with_reducible refine (hpr.out _).mono ?_); rintro e w1 ⟨rfl, hb⟩; obtain ⟨hc, hf, hT, hz⟩ := bfacts hb; (try simp only [World.size_alloc, World.size_setCell, World.size_drew, size_drewN] at hc hf hT hz); (try (have hzA := Nat.lt_of_succ_le hz)); (try (have hl0 : wb.heap.size ≤ w1.heap.size := by omega)); (try (have hz0 : wb.heap.size < w1.heap.size := by omega)); (try (have hz1 : wb.heap.size + 1 < w1.heap.size := by omega)); (try (have hz2 : wb.heap.size + 1 + 1 < w1.heap.size := by omega)); (try (have hz3 : wb.heap.size + 1 + 1 + 1 < w1.heap.size := by omega)); (try (have hz4 : wb.heap.size + 1 + 1 + 1 + 1 < w1.heap.size := by omega)); (try (have gxg : g < w1.heap.size := by omega)); (try (have gxg4 : g4 < w1.heap.size := by omega))) | (go_at_call 53; (with_reducible refine (hRD.out _ (by exact (KR.out.below (by repeat (first | with_reducible exact Below.refl _ _ | with_reducible assumption | with_reducible refine Below.drew ?_ | with_reducible refine below_drewN ?_ _ | with_reducible refine Below.alloc ?_ ?_ _ | with_reducible refine Below.setCell ?_ ?_ _ | with_reducible refine Below.trans ?_ (Below.mono (by assumption) ?_) | omega | (simp <;> omega)))).reads)).mono ?_); rintro e w1 ⟨rfl, hb⟩; obtain ⟨hc, hf, hT, hz⟩ := bfacts hb; (try simp only [World.size_alloc, World.size_setCell, World.size_drew, size_drewN] at hc hf hT hz); (try (have hzA := Nat.lt_of_succ_le hz)); (try (have hl0 : wb.heap.size ≤ w1.heap.size := by omega)); (try (have hz0 : wb.heap.size < w1.heap.size := by omega)); (try (have hz1 : wb.heap.size + 1 < w1.heap.size := by omega)); (try (have hz2 : wb.heap.size + 1 + 1 < w1.heap.size := by omega)); (try (have hz3 : wb.heap.size + 1 + 1 + 1 < w1.heap.size := by omega)); (try (have hz4 : wb.heap.size + 1 + 1 + 1 + 1 < w1.heap.size := by omega)); (try (have gxg : g < w1.heap.size := by omega)); (try (have gxg4 : g4 < w1.heap.size := by omega))))
                  all_goals
                    go_wp2_with fail
                    go_meet
                    refine ⟨_, rfl, by first | omega | (simp; done) | (simp; omega), ?_, ?_⟩
                    · first
                        | with_reducible exact HoldsP.made' rfl
                        | (with_reducible refine HoldsP.store (X := 0) (Y := 0) ?_ _ _; repeat (first | (with_reducible refine HoldsP.zero hzr ?_; first | (simp; done) | rfl) | with_reducible refine HoldsP.alloc ?_ _ | with_reducible refine HoldsP.drew ?_ | (with_reducible refine HoldsP.below ?_ (by with_reducible assumption) (by first | (simp; done) | (simp; omega) | omega))))
                    · exact (by repeat (first | with_reducible exact Below.refl _ _ | with_reducible assumption | with_reducible refine Below.drew ?_ | with_reducible refine below_drewN ?_ _ | with_reducible refine Below.alloc ?_ ?_ _ | with_reducible refine Below.setCell ?_ ?_ _ | with_reducible refine Below.trans ?_ (Below.mono (by assumption) ?_) | omega | (simp <;> omega)))
                case rest =>
                  obtain ⟨S8, rfl, hS8, h8, hbx⟩ := hcut
                  have jR := KR.out.below hbx
                  have jL := KL.out.below hbx
                  have hBc : Below wO.heap.size wO wc := hbi.trans (hbx.mono hbisz)
                  have hbcsz := hBc.size
                  have hl8 := h8.lt
                  clear KR KL hbx d0 d1 d2 d3 d4 d5 f0 f1 f2 f3 f4 f5
                  have hp0 := h8.c0
                  have hp1 := h8.c1
                  have hp2 := h8.c2
                  have hp3 := h8.c3
                  have hp4 := h8.c4
                  have hp5 := h8.c5
                  have hp6 := h8.c6
                  have hp7 := h8.c7
                  have hp8 := h8.c8
                  have hp9 := h8.c9
                  have hp10 := h8.c10
                  have hp11 := h8.c11
                  have hpf := h8.free
                  have hlead := l4Lead_any p2
                  by_cases hl36 : ldN p2 = 36
                  · rw [hl36, show ((36 : Nat) : Int) = 36 from rfl] at hlead
                    have hLD := Lib.hid hlead
                    clear hlead
                    go_wp2_with (first | (go_at_call 54; (with_reducible refine (hLD.out _).mono ?_); rintro e w1 ⟨rfl, hb⟩; obtain ⟨hc, hf, hT, hz⟩ := bfacts hb; (try simp only [World.size_alloc, World.size_setCell, World.size_drew, size_drewN] at hc hf hT hz); (try (have hzA := Nat.lt_of_succ_le hz)); (try (have hl0 : w.heap.size ≤ w1.heap.size := by omega)); (try (have hz0 : w.heap.size < w1.heap.size := by omega)); (try (have hz1 : w.heap.size + 1 < w1.heap.size := by omega)); (try (have hz2 : w.heap.size + 1 + 1 < w1.heap.size := by omega)); (try (have hz3 : w.heap.size + 1 + 1 + 1 < w1.heap.size := by omega)); (try (have hz4 : w.heap.size + 1 + 1 + 1 + 1 < w1.heap.size := by omega)); (try (have gxS8 : S8 < w1.heap.size := by omega))) | (at_builtin; refine wpList_append_own _ rfl _ _ 28 rfl wO.heap.size 26 j0 (.agg #[.int .i64 0, .int .i64 0, .int .i64 0, .int .i64 0, .int .i64 0, .int .i64 0]) 6 48 Tryz.underlying28 hj jz0 jz1 jz2 rfl (by decide) _ _ _ rfl ((jL.below hb).1.alloc _) ⟨w1.heap.size, 0, none⟩ 1 1 [.int .i64 (row p1 0), .int .i64 (row p1 1), .int .i64 (row p1 2), .int .i64 (row p1 3), .int .i64 (row p1 4), .int .i64 (row p1 5)] rfl rfl ?c1 ?c2 ?c3 ?c4 ?c5 ?_))
                    case c1 =>
                      intro j u hj
                      match j, hj with
                      | 0, hj => simp at hj; subst hj; simp [Addr.add]
                      | 1, hj => simp at hj; subst hj; simp [Addr.add]
                      | 2, hj => simp at hj; subst hj; simp [Addr.add]
                      | 3, hj => simp at hj; subst hj; simp [Addr.add]
                      | 4, hj => simp at hj; subst hj; simp [Addr.add]
                      | 5, hj => simp at hj; subst hj; simp [Addr.add]
                    case c2 =>
                      intro u hu
                      simp at hu
                      rcases hu with rfl | rfl | rfl | rfl | rfl | rfl <;> rfl
                    case c3 => unfold maxLen; omega
                    case c4 => omega
                    case c5 => simp; omega
                    intro v' w2 hown' hgrow hnil
                    have mR := jR.below hb
                    have mL := jL.below hb
                    have hBb := hBc.trans (hb.mono (by omega))
                    have hB : Below wO.heap.size wO w2 := (hBb.alloc hBb.size _).grown hgrow (by simp; omega) (fun j hj => by have := (mL.1.lt j hj).1; omega)
                    have hN : v' ≠ .slice none 0 0 := fun h => by first | exact hnil h | exact mL.2 (hnil.1 h).1
                    have hO : OwnsS w2 wO.heap.size v' (L ++ [p1]) := by
                      refine ⟨?_, hN⟩
                      rw [shI_snoc, List.map_append, List.length_append]
                      exact hown'
                    have hO2 : OwnsR w2 wO.heap.size u7 R := ⟨(mR.1.alloc _).kept hgrow (.inr (owns_apart mR.1 mL.1 mR.2 (by decide))), mR.2⟩
                    have hS' := HA0.out hl36
                    clear hown' hgrow hnil hN mR mL hBb
                    go_wp2
                    go_roundw
                    case rel => exact ⟨m + 1, R, L ++ [p1], by omega, by go_num, hO2, hO, hS', hB⟩
                    case measure => simp [intOf]; omega
                  · have hl36' : ldN p2 < 36 := by have := ldN_le p2; omega
                    have hS' := Lib.hid (HA1.out hl36')
                    obtain ⟨l, hl⟩ : ∃ l, l = ldN p2 := ⟨_, rfl⟩
                    rw [← hl] at hlead hl36 hl36'
                    have hLI : ¬ ((l : Int) = 36) := by omega
                    have hLb : (((l : Nat) : Int) == 36) = false := by rw [beq_eq_false_iff_ne]; exact hLI
                    have hLD := Lib.hid hlead
                    clear hlead hl
                    go_wp2_with (first | (go_at_call 54; (with_reducible refine (hLD.out _).mono ?_); rintro e w1 ⟨rfl, hb⟩; obtain ⟨hc, hf, hT, hz⟩ := bfacts hb; (try simp only [World.size_alloc, World.size_setCell, World.size_drew, size_drewN] at hc hf hT hz); (try (have hzA := Nat.lt_of_succ_le hz)); (try (have hl0 : w.heap.size ≤ w1.heap.size := by omega)); (try (have hz0 : w.heap.size < w1.heap.size := by omega)); (try (have hz1 : w.heap.size + 1 < w1.heap.size := by omega)); (try (have hz2 : w.heap.size + 1 + 1 < w1.heap.size := by omega)); (try (have hz3 : w.heap.size + 1 + 1 + 1 < w1.heap.size := by omega)); (try (have hz4 : w.heap.size + 1 + 1 + 1 + 1 < w1.heap.size := by omega)); (try (have gxS8 : S8 < w1.heap.size := by omega))) | (at_builtin; refine wpList_append_own _ rfl _ _ 82 rfl wO.heap.size 84 i0 (.agg #[.int .i64 0, .int .i64 0, .int .i64 0, .int .i64 0, .int .i64 0, .int .i64 0, .int .i64 0, .int .i64 0, .int .i64 0, .int .i64 0, .int .i64 0, .int .i64 0]) 12 96 Tryz.underlying82 hi iz0 iz1 iz2 rfl (by decide) _ _ _ rfl ((jR.below hb).1.alloc _) ⟨w1.heap.size, 0, none⟩ 1 1 [.int .i64 (row p1 0), .int .i64 (row p1 1), .int .i64 (row p1 2), .int .i64 (row p1 3), .int .i64 (row p1 4), .int .i64 (row p1 5), .int .i64 (row p2 0), .int .i64 (row p2 1), .int .i64 (row p2 2), .int .i64 (row p2 3), .int .i64 (row p2 4), .int .i64 (row p2 5)] rfl rfl ?c1 ?c2 ?c3 ?c4 ?c5 ?_))
                    case c1 =>
                      intro j u hj
                      match j, hj with
                      | 0, hj => simp at hj; subst hj; simp [Addr.add]
                      | 1, hj => simp at hj; subst hj; simp [Addr.add]
                      | 2, hj => simp at hj; subst hj; simp [Addr.add]
                      | 3, hj => simp at hj; subst hj; simp [Addr.add]
                      | 4, hj => simp at hj; subst hj; simp [Addr.add]
                      | 5, hj => simp at hj; subst hj; simp [Addr.add]
                      | 6, hj => simp at hj; subst hj; simp [Addr.add]
                      | 7, hj => simp at hj; subst hj; simp [Addr.add]
                      | 8, hj => simp at hj; subst hj; simp [Addr.add]
                      | 9, hj => simp at hj; subst hj; simp [Addr.add]
                      | 10, hj => simp at hj; subst hj; simp [Addr.add]
                      | 11, hj => simp at hj; subst hj; simp [Addr.add]
                    case c2 =>
                      intro u hu
                      simp at hu
                      rcases hu with rfl | rfl | rfl | rfl | rfl | rfl | rfl | rfl | rfl | rfl | rfl | rfl <;> rfl
                    case c3 => unfold maxLen; omega
                    case c4 => omega
                    case c5 => simp; omega
                    intro v' w2 hown' hgrow hnil
                    have mR := jR.below hb
                    have mL := jL.below hb
                    have hBb := hBc.trans (hb.mono (by omega))
                    have hB : Below wO.heap.size wO w2 := (hBb.alloc hBb.size _).grown hgrow (by simp; omega) (fun j hj => by have := (mR.1.lt j hj).1; omega)
                    have hN : v' ≠ .slice none 0 0 := fun h => by first | exact hnil h | exact mR.2 (hnil.1 h).1
                    have hO : OwnsR w2 wO.heap.size v' (R ++ [(p1, p2)]) := by
                      refine ⟨?_, hN⟩
                      rw [prI_snoc, List.map_append, List.length_append]
                      exact hown'
                    have hO2 : OwnsS w2 wO.heap.size u8 L := ⟨(mL.1.alloc _).kept hgrow (.inr (owns_apart mL.1 mR.1 mL.2 (by decide))), mL.2⟩
                    clear hown' hgrow hnil hN mR mL hBb
                    go_wp2
                    go_roundw
                    case rel => exact ⟨m + 1, R ++ [(p1, p2)], L, by omega, by go_num, hO, hO2, hS'.out, hB⟩
                    case measure => simp [intOf]; omega
              · have e : m = G.length := by omega
                subst e
                rw [List.take_length] at hS
                have hq2 : QD (Xs.take (k + 1)) L := by
                  rw [HT.out]
                  exact HQ.out.step hS.tabl
                have hO2 := ownsS_mono hL hB1w.size
                have hB2 : Below w.heap.size w wb := hB1w.trans (hbi.mono hB1w.size)
                clear hS hR hL hbi
                go_wp2
                go_roundw
                case rel => exact ⟨k + 1, L, by omega, by go_num, hO2, hq2, hB2⟩
                case measure => simp [intOf]; omega
          · have hno := HBAD.out (by omega) k (by omega)
            have hkk : ¬ k0 = n := by omega
            have hres := h2r hkk
            subst hres
            clear h1r h2r hO hQ
            generalize Z.getD (k * 6) 0 = z0 at *
            generalize Z.getD (k * 6 + 1) 0 = z1 at *
            generalize Z.getD (k * 6 + 2) 0 = z2 at *
            generalize Z.getD (k * 6 + 3) 0 = z3 at *
            generalize Z.getD (k * 6 + 4) 0 = z4 at *
            generalize Z.getD (k * 6 + 5) 0 = z5 at *
            go_wp2_with (go_at_call 36; (with_reducible refine (l2Sheet_no _ _ _ _ _ _ (by assumption) _).mono ?_); rintro e w1 ⟨rfl, hb⟩; obtain ⟨hc, hf, hT, hz⟩ := bfacts hb; (try simp only [World.size_alloc, World.size_setCell, World.size_drew, size_drewN] at hc hf hT hz); (try (have hzA := Nat.lt_of_succ_le hz)); (try (have hl0 : w.heap.size ≤ w1.heap.size := by omega)); (try (have hz0 : w.heap.size < w1.heap.size := by omega)); (try (have hz1 : w.heap.size + 1 < w1.heap.size := by omega)); (try (have hz2 : w.heap.size + 1 + 1 < w1.heap.size := by omega)); (try (have hz3 : w.heap.size + 1 + 1 + 1 < w1.heap.size := by omega)); (try (have hz4 : w.heap.size + 1 + 1 + 1 + 1 < w1.heap.size := by omega)); (try (have gxg : g < w1.heap.size := by omega)); (try (have gxwrheapsize : wr.heap.size < w1.heap.size := by omega)))
            go_ret2
            exact ⟨rfl, (by repeat (first | with_reducible exact Below.refl _ _ | with_reducible assumption | with_reducible refine Below.drew ?_ | with_reducible refine below_drewN ?_ _ | with_reducible refine Below.alloc ?_ ?_ _ | with_reducible refine Below.setCell ?_ ?_ _ | with_reducible refine Below.trans ?_ (Below.mono (by assumption) ?_) | omega | (simp <;> omega)))⟩
        · have e : k = n := by omega
          have e2 : k0 = n := by omega
          subst e
          have hres := h1r e2
          subst hres
          rw [List.take_of_length_le (by omega)] at hQ
          have hlq := hQ.len HD.out
          have hLd : G.length = d := hlq.trans hdl
          clear h1r h2r hO hQ hlq
          go_wp2
          go_ret2
          exact ⟨by rw [hLd]; rfl, hbw⟩
end Go.Proofs.YtgjgefbcfcomcaaGreatDoor
