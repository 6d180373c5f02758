/-
  QuietStamps: what is quiet for all stamps of a list; the program's contract. Under: the library's own table of the lowest bits lies as its initialiser lays it.
-/
import Derived.Test.YtgjgefbcfcomcaaGreatDoorJC
import Derived.Test.YtgjgefbcfcomcaaGreatDoorUb
import Derived.Deep.Cut
namespace Go.Proofs.YtgjgefbcfcomcaaGreatDoor
open Go.RowKit
set_option linter.unusedSimpArgs false
set_option linter.unusedVariables false

/-- L is a basis of what is quiet for all of Xs -/
structure QD (Xs : List Nat) (L : List Nat) : Prop where
  ind : Ind L
  vs : ∀ l, l ∈ L → Vs l
  sp : ∀ x, Sp L x ↔ Vs x ∧ ∀ X, X ∈ Xs → printS X x = 0
theorem QD.start : QD [] (sgl 36) := ⟨sgl_ind 36, sgl_vs, fun x => ⟨fun h => ⟨(sp_sgl 36 x).1 h, (fun X hX => by cases hX)⟩, fun h => (sp_sgl 36 x).2 h.1⟩⟩
theorem QD.step {Xs G L : List Nat} {X : Nat} {R : List (Nat × Nat)} (h : QD Xs G) (ht : Tabl (printS X) G R L) : QD (Xs ++ [X]) L := by
  have hk := ht.ker (print_lin X)
  refine ⟨ht.ind h.ind, fun l hl => (((h.sp l).1 ((hk l).1 (sp_mem _ l hl)).1)).1, fun x => ?_⟩
  rw [hk, h.sp]
  constructor
  · rintro ⟨⟨h1, h2⟩, h3⟩
    refine ⟨h1, fun Y hY => ?_⟩
    rcases List.mem_append.1 hY with hY | hY
    · exact h2 Y hY
    · have : Y = X := by simpa using hY
      rw [this]; exact h3
  · rintro ⟨h1, h2⟩
    exact ⟨⟨h1, fun Y hY => h2 Y (List.mem_append_left _ hY)⟩, h2 X (List.mem_append_right _ List.mem_cons_self)⟩
theorem QD.len {Xs L L' : List Nat} (h : QD Xs L) (h' : QD Xs L') : L.length = L'.length := ind_len h.ind h'.ind fun x => (h.sp x).trans (h'.sp x).symm
theorem QD.le {Xs L : List Nat} (h : QD Xs L) : L.length ≤ 36 := by
  have := ind_le h.ind (m := sgl 36) (fun v hv => (sp_sgl 36 v).2 (h.vs v hv))
  rwa [sgl_len] at this
/-- the k-th sheet of the row Z is X -/
def OkAt (Z : List Int) (k X : Nat) : Prop := Vs X ∧ Z.getD (k * 6) 0 = row X 0 ∧ Z.getD (k * 6 + 1) 0 = row X 1 ∧ Z.getD (k * 6 + 2) 0 = row X 2 ∧ Z.getD (k * 6 + 3) 0 = row X 3 ∧ Z.getD (k * 6 + 4) 0 = row X 4 ∧ Z.getD (k * 6 + 5) 0 = row X 5
/-- the slice v holds the n sheets, valid or not, whose numbers are Z -/
def ReadsZ (w : World) (v : Value) (n : Nat) (Z : List Int) : Prop :=
  (v = .slice none 0 0 ∧ n = 0) ∨ ∃ g cap : Nat, v = .slice (some ⟨g, 0, none⟩) n cap ∧ g < w.heap.size ∧ ∀ j, j < n * 6 → w.cell? ⟨g, j, none⟩ = some (.int .i64 (Z.getD j 0))
theorem readsZ_form {w : World} {v : Value} {n : Nat} {Z : List Int} (h : ReadsZ w v n Z) : ∃ a c, v = .slice a n c := by
  rcases h with ⟨rfl, rfl⟩ | ⟨g, cap, rfl, _, _⟩
  · exact ⟨none, 0, rfl⟩
  · exact ⟨_, cap, rfl⟩
theorem readsU_mv {w w' : World} {v : Value} {G : List Nat} (h : ReadsU w v G) (hb : Below w.heap.size w w') : ReadsU w' v G := by
  rcases h with h | ⟨g, cap, h1, h2, h3⟩
  · exact .inl h
  · exact .inr ⟨g, cap, h1, Nat.lt_of_lt_of_le h2 hb.size, fun j hj => (hb.cell (p := ⟨g, j, none⟩) h2).trans (h3 j hj)⟩
theorem readsU_form {w : World} {v : Value} {G : List Nat} (h : ReadsU w v G) : ∃ a c, v = .slice a G.length c := by
  rcases h with ⟨rfl, rfl⟩ | ⟨g, cap, rfl, _, _⟩
  · exact ⟨none, 0, rfl⟩
  · exact ⟨_, cap, rfl⟩
theorem QD.run {Z : List Int} : ∀ (k0 : Nat) (Xs : List Nat), Xs.length = k0 → ∃ L, QD Xs L := by
  intro k0
  induction k0 with
  | zero =>
    intro Xs h
    have := List.eq_nil_of_length_eq_zero h
    subst this
    exact ⟨_, QD.start⟩
  | succ k ih =>
    intro Xs h
    obtain ⟨Ys, X, rfl⟩ : ∃ Ys X, Xs = Ys ++ [X] := by
      rcases List.eq_nil_or_concat Xs with rfl | ⟨Ys, X, e⟩
      · simp at h
      · exact ⟨Ys, X, by simpa using e⟩
    obtain ⟨G, hG⟩ := ih Ys (by simpa using h)
    have key : ∀ m, m ≤ G.length → ∃ P Q L, TS X (G.take m) P Q L := by
      intro m
      induction m with
      | zero => intro _; exact ⟨_, _, _, TS.start X⟩
      | succ m ihm =>
        intro hm
        obtain ⟨P, Q, L, ht⟩ := ihm (by omega)
        rw [take_snoc G 0 m (by omega)]
        have hv : Vs (G.getD m 0) := hG.vs _ (by rw [List.getD_eq_getElem?_getD, List.getElem?_eq_getElem (by omega)]; exact List.getElem_mem _)
        by_cases h0 : (rdN P Q (printS X (G.getD m 0)) (G.getD m 0) 36).1 = 0
        · exact ⟨_, _, _, ht.add0 h0⟩
        · exact ⟨_, _, _, ht.add1 hv h0⟩
    obtain ⟨P, Q, L, ht⟩ := key G.length (Nat.le_refl _)
    rw [List.take_length] at ht
    obtain ⟨R, h1, _⟩ := ht
    exact ⟨L, hG.step h1⟩
def QiRel (Xs : List Nat) (k0 : Nat) (w : World) (v i : Value) (wr : World) : Prop :=
  ∃ (k : Nat) (L : List Nat), k ≤ k0 ∧ i = .int .i64 (k : Int) ∧ ReadsU wr v L ∧ QD (Xs.take k) L ∧ Below w.heap.size w wr
set_option maxRecDepth 100000 in
set_option maxHeartbeats 8000000 in
/-- the first k0 sheets are the stamps Xs; the next one, if there is one, is not valid -/
theorem implQuiet_run (n k0 d : Nat) (Z : List Int) (Xs L0 : List Nat) (hn : n ≤ 6) (hk0 : k0 ≤ n) (hX : Xs.length = k0) (hok : ∀ k, k < k0 → OkAt Z k (Xs.getD k 0)) (hbad : k0 < n → ∀ k, k = k0 → ¬ Ok6 (Z.getD (k * 6) 0) (Z.getD (k * 6 + 1) 0) (Z.getD (k * 6 + 2) 0) (Z.getD (k * 6 + 3) 0) (Z.getD (k * 6 + 4) 0) (Z.getD (k * 6 + 5) 0))
    (hd : QD Xs L0) (hdl : L0.length = d) (res : Value) (h1r : k0 = n → res = .tuple #[.int .i64 (d : Int), .bool true]) (h2r : ¬ k0 = n → res = .tuple #[.int .i64 0, .bool false]) (v : Value) (w : World) (hr : ReadsZ w v n Z) (hz : TabZ w) :
    Calls Tryz.prog 25 #[v] w fun e w' => e = .returned res ∧ Below w.heap.size w w' := by
  obtain ⟨a, c, rfl⟩ := readsZ_form hr
  have hzl := hz.lt
  have HZ := Lib.hid hz
  have HOK := Lib.hid hok
  have HBAD := Lib.hid hbad
  have HD := Lib.hid hd
  have hnI : ¬ ((6 : Int) < (n : Int)) := by omega
  clear hz hok hbad hd
  go_enter Tryz.func25, Tryz.ntmps25
  go_upto_region 5 with (go_at_call 50; (with_reducible refine (singles_any _).mono ?_); rintro e w1 ⟨v1, rfl, hO1, hb1⟩)
  have hR1 := hO1.reads
  clear hO1
  go_loopw [4, 15] (QiRel Xs k0 w) (fun _ i _ => n - (intOf i).toNat)
  case atStart => exact ⟨0, sgl 36, Nat.zero_le _, rfl, hR1, by rw [List.take_zero]; exact QD.start, hb1⟩
  case round =>
    clear hR1 hb1
    obtain ⟨k, L, hk, rfl, hR, hQ, hbw⟩ := hrel
    have hbsz := hbw.size
    by_cases hkn : k < n
    · have hkn' : (k : Int) < (n : Int) := by omega
      rcases hr with ⟨_, h2⟩ | ⟨g, cap, h1, hg, hcell⟩
      · omega
      injection h1 with h2 _ h3
      subst h2 h3
      have e0 := (hbw.cell (p := ⟨g, k * 6, none⟩) hg).trans (hcell (k * 6) (by omega))
      have e1 := (hbw.cell (p := ⟨g, k * 6 + 1, none⟩) hg).trans (hcell (k * 6 + 1) (by omega))
      have e2 := (hbw.cell (p := ⟨g, k * 6 + 2, none⟩) hg).trans (hcell (k * 6 + 2) (by omega))
      have e3 := (hbw.cell (p := ⟨g, k * 6 + 3, none⟩) hg).trans (hcell (k * 6 + 3) (by omega))
      have e4 := (hbw.cell (p := ⟨g, k * 6 + 4, none⟩) hg).trans (hcell (k * 6 + 4) (by omega))
      have e5 := (hbw.cell (p := ⟨g, k * 6 + 5, none⟩) hg).trans (hcell (k * 6 + 5) (by omega))
      by_cases hk1 : k < k0
      · obtain ⟨hXv, r0, r1, r2, r3, r4, r5⟩ := HOK.out k hk1
        rw [r0] at e0
        rw [r1] at e1
        rw [r2] at e2
        rw [r3] at e3
        rw [r4] at e4
        rw [r5] at e5
        have htk := take_snoc Xs 0 k (by omega)
        generalize Xs.getD k 0 = X at *
        have hLl := hQ.le
        have hQv := hQ.vs
        have HQ := Lib.hid hQ
        have HR := Lib.hid hR
        have HT := Lib.hid htk
        clear hQ hR htk r0 r1 r2 r3 r4 r5
        go_wp2_with (first | (go_at_call 31; (with_reducible refine (setOf_ok _ hXv _).mono ?_); rintro e w1 ⟨rfl, hb⟩; obtain ⟨hc, hf, hT, hz⟩ := bfacts hb; (try simp only [World.size_alloc, World.size_setCell, World.size_drew, size_drewN] at hc hf hT hz); (try (have hzA := Nat.lt_of_succ_le hz)); (try (have hl0 : w.heap.size ≤ w1.heap.size := by omega)); (try (have hz0 : w.heap.size < w1.heap.size := by omega)); (try (have hz1 : w.heap.size + 1 < w1.heap.size := by omega)); (try (have hz2 : w.heap.size + 1 + 1 < w1.heap.size := by omega)); (try (have hz3 : w.heap.size + 1 + 1 + 1 < w1.heap.size := by omega)); (try (have hz4 : w.heap.size + 1 + 1 + 1 + 1 < w1.heap.size := by omega)); (try (have gxwrheapsize : wr.heap.size < w1.heap.size := by omega))) | (go_at_call 51; (with_reducible refine (tableOf_any X hXv _ L hQv hLl _ (readsU_mv HR.out (by repeat (first | with_reducible exact Below.refl _ _ | with_reducible assumption | with_reducible refine Below.drew ?_ | with_reducible refine below_drewN ?_ _ | with_reducible refine Below.alloc ?_ ?_ _ | with_reducible refine Below.setCell ?_ ?_ _ | with_reducible refine Below.trans ?_ (Below.mono (by assumption) ?_) | omega | (simp <;> omega)))) (HZ.out.below (N := w.heap.size) (by repeat (first | with_reducible exact Below.refl _ _ | with_reducible assumption | with_reducible refine Below.drew ?_ | with_reducible refine below_drewN ?_ _ | with_reducible refine Below.alloc ?_ ?_ _ | with_reducible refine Below.setCell ?_ ?_ _ | with_reducible refine Below.trans ?_ (Below.mono (by assumption) ?_) | omega | (simp <;> omega))) hzl)).mono ?_); rintro e w2 ⟨P, Q, L2, rfl, hT, hS, hb2⟩; have hTl := hT.1.lt; have zb2 := hb2.size; obtain ⟨aq, cq, hq72, hqo⟩ := hT.quietSlice))
        have hB1 : Below wr.heap.size wr w1 := (by repeat (first | with_reducible exact Below.refl _ _ | with_reducible assumption | with_reducible refine Below.drew ?_ | with_reducible refine below_drewN ?_ _ | with_reducible refine Below.alloc ?_ ?_ _ | with_reducible refine Below.setCell ?_ ?_ _ | with_reducible refine Below.trans ?_ (Below.mono (by assumption) ?_) | omega | (simp <;> omega)))
        have hB2 : Below w.heap.size w w2 := (hbw.trans (hB1.mono hbsz)).trans (hb2.mono (by have := hB1.size; omega))
        have hq2 : QD (Xs.take (k + 1)) L2 := by
          rw [HT.out]
          obtain ⟨R, h1, _⟩ := hS
          exact HQ.out.step h1
        have hRq := hqo.reads
        clear hqo hT hS
        go_roundw
        case rel => exact ⟨k + 1, L2, by omega, by go_num, hRq, hq2, hB2⟩
        case measure => simp [intOf]; omega
      · have hno := HBAD.out (by omega) k (by omega)
        have hkk : ¬ k0 = n := by omega
        have hres := h2r hkk
        subst hres
        clear h1r h2r
        clear hR hQ
        generalize Z.getD (k * 6) 0 = z0 at *
        generalize Z.getD (k * 6 + 1) 0 = z1 at *
        generalize Z.getD (k * 6 + 2) 0 = z2 at *
        generalize Z.getD (k * 6 + 3) 0 = z3 at *
        generalize Z.getD (k * 6 + 4) 0 = z4 at *
        generalize Z.getD (k * 6 + 5) 0 = z5 at *
        go_wp2_with (go_at_call 31; (with_reducible refine (setOf_no _ _ _ _ _ _ (by assumption) _).mono ?_); rintro e w1 ⟨rfl, hb⟩; obtain ⟨hc, hf, hT, hz⟩ := bfacts hb; (try simp only [World.size_alloc, World.size_setCell, World.size_drew, size_drewN] at hc hf hT hz); (try (have hzA := Nat.lt_of_succ_le hz)); (try (have hl0 : w.heap.size ≤ w1.heap.size := by omega)); (try (have hz0 : w.heap.size < w1.heap.size := by omega)); (try (have hz1 : w.heap.size + 1 < w1.heap.size := by omega)); (try (have hz2 : w.heap.size + 1 + 1 < w1.heap.size := by omega)); (try (have hz3 : w.heap.size + 1 + 1 + 1 < w1.heap.size := by omega)); (try (have hz4 : w.heap.size + 1 + 1 + 1 + 1 < w1.heap.size := by omega)); (try (have gxwrheapsize : wr.heap.size < w1.heap.size := by omega)))
        go_ret2
        exact ⟨rfl, (by repeat (first | with_reducible exact Below.refl _ _ | with_reducible assumption | with_reducible refine Below.drew ?_ | with_reducible refine below_drewN ?_ _ | with_reducible refine Below.alloc ?_ ?_ _ | with_reducible refine Below.setCell ?_ ?_ _ | with_reducible refine Below.trans ?_ (Below.mono (by assumption) ?_) | omega | (simp <;> omega)))⟩
    · have e : k = n := by omega
      have e2 : k0 = n := by omega
      subst e
      have hres := h1r e2
      subst hres
      clear h1r h2r
      rw [List.take_of_length_le (by omega)] at hQ
      have hlq := hQ.len HD.out
      obtain ⟨aL, cL, rfl⟩ := readsU_form hR
      have hLd : L.length = d := hlq.trans hdl
      clear hR hQ hlq
      go_wp2
      go_ret2
      exact ⟨by rw [hLd]; rfl, hbw⟩
end Go.Proofs.YtgjgefbcfcomcaaGreatDoor
