/-
  Slices of arrays of 3 whole numbers: contracts of the laws' equality, marking and holding.  The motions that keep a sheet: contracts of keptBy, of the program and of the reference.  The motions that keep a sheet: contracts of the reference's l3Kept, and of KeptBy and CountForms.  Contracts of KeptBy, of the program and of the reference, and of the laws' helpers at an empty slice. No conditions.
-/
import Derived.Test.YtidaoalnngmoaaaMot
import Derived.Test.YtidaoalnngmoaaaCk
import Derived.Deep.RegionHeld3
import Derived.Test.YtidaoalnngmoaaaDi
import Derived.Test.YtidaoalnngmoaaaDk
import Derived.Test.YtidaoalnngmoaaaDe
namespace Go.Proofs.Ytidaoalnngmoaaa
open Go.RowKit
set_option linter.unusedSimpArgs false
set_option linter.unusedVariables false

/-- block g begins with m whole numbers, told by f -/
def SlI (w : World) (g m : Nat) (f : Nat → Int) : Prop := (∀ j, j < m → w.cell? ⟨g, j, none⟩ = some (.int .i64 (f j))) ∧ (∀ o, w.frozen? ⟨g, o, none⟩ = false) ∧ g < w.heap.size
theorem SlI.below {w w' : World} {N g m : Nat} {f : Nat → Int} (h : SlI w g m f) (hb : Below N w w') (hN : g < N) (hs : N ≤ w'.heap.size) : SlI w' g m f :=
  ⟨fun j hj => (hb.cell (p := ⟨g, j, none⟩) hN).trans (h.1 j hj), fun o => (hb.frozen (p := ⟨g, o, none⟩) hN).trans (h.2.1 o), by omega⟩
theorem SlI.alloc {w : World} {g m : Nat} {f : Nat → Int} (h : SlI w g m f) (o : Obj) : SlI (w.alloc o) g m f :=
  h.below ((Below.refl w.heap.size w).alloc (Nat.le_refl _) o) h.2.2 (by simp)

def EqSRel (n : Nat) (w : World) (i : Value) (wr : World) : Prop := ∃ k : Nat, k ≤ n ∧ i = .int .i64 (k : Int) ∧ Below w.heap.size w wr
set_option maxRecDepth 100000 in
theorem eqS_any (g1 g2 n c1 c2 : Nat) (f : Nat → Int) (hn : n ≤ 300) (w : World) (h1 : SlI w g1 (n * 3) f) (h2 : SlI w g2 (n * 3) f) :
    Calls Try.prog 42 #[.slice (some ⟨g1, 0, none⟩) n c1, .slice (some ⟨g2, 0, none⟩) n c2] w fun e w' => e = .returned (.bool true) ∧ Below w.heap.size w w' := by
  have H1 := Lib.hid h1
  have H2 := Lib.hid h2
  have l1 := h1.2.2
  have l2 := h2.2.2
  clear h1 h2
  go_enter Try.func42, Try.ntmps42
  go_wp2
  go_loopw [5] (EqSRel n w) (fun i _ => n - (intOf i).toNat)
  case atStart => exact ⟨0, Nat.zero_le _, rfl, Below.refl _ _⟩
  case round =>
    obtain ⟨k, hk, rfl, hbw⟩ := hrel
    have hbsz := hbw.size
    by_cases hlt : k < n
    · have hlt' : (k : Int) < (n : Int) := by omega
      have k1 : SlI wr g1 (n * 3) f := H1.out.below hbw l1 hbsz
      have k2 : SlI wr g2 (n * 3) f := H2.out.below hbw l2 hbsz
      have a10 := k1.1 (k * 3) (by omega)
      have a11 := k1.1 (k * 3 + 1) (by omega)
      have a12 := k1.1 (k * 3 + 2) (by omega)
      have a20 := k2.1 (k * 3) (by omega)
      have a21 := k2.1 (k * 3 + 1) (by omega)
      have a22 := k2.1 (k * 3 + 2) (by omega)
      have l1w := k1.2.2
      have l2w := k2.2.2
      clear k1 k2
      go_wp2
      go_region_held3 (fun w' => w'.cell? ⟨g1, k * 3, none⟩ = some (.int .i64 (f (k * 3))) ∧ w'.cell? ⟨g1, k * 3 + 1, none⟩ = some (.int .i64 (f (k * 3 + 1))) ∧ w'.cell? ⟨g1, k * 3 + 2, none⟩ = some (.int .i64 (f (k * 3 + 2))) ∧ w'.cell? ⟨g2, k * 3, none⟩ = some (.int .i64 (f (k * 3))) ∧ w'.cell? ⟨g2, k * 3 + 1, none⟩ = some (.int .i64 (f (k * 3 + 1))) ∧ w'.cell? ⟨g2, k * 3 + 2, none⟩ = some (.int .i64 (f (k * 3 + 2)))) (simp [*, World.cell?_alloc_some, World.cell?_setCell_far, Nat.ne_of_gt]) (first | (go_at_call 31; (with_reducible refine (eqIntA3_same _ _ _ _).mono ?_); rintro e w1 ⟨rfl, hb⟩; obtain ⟨hc, hf, hT, hz⟩ := bfacts hb; (try simp only [World.size_alloc, World.size_setCell, World.size_drew, size_drewN] at hc hf hT hz); (try (have hzA := Nat.lt_of_succ_le hz)); (try (have hl0 : w.heap.size ≤ w1.heap.size := by omega)); (try (have hz0 : w.heap.size < w1.heap.size := by omega)); (try (have hz1 : w.heap.size + 1 < w1.heap.size := by omega)); (try (have hz2 : w.heap.size + 1 + 1 < w1.heap.size := by omega)); (try (have hz3 : w.heap.size + 1 + 1 + 1 < w1.heap.size := by omega)); (try (have hz4 : w.heap.size + 1 + 1 + 1 + 1 < w1.heap.size := by omega))))
      all_goals
        go_wp2
        go_roundw
        case rel => exact ⟨k + 1, by omega, by go_num, (by repeat (first | with_reducible exact Below.refl _ _ | with_reducible assumption | with_reducible refine Below.drew ?_ | with_reducible refine below_drewN ?_ _ | with_reducible refine Below.alloc ?_ ?_ _ | with_reducible refine Below.setCell ?_ ?_ _ | with_reducible refine Below.trans ?_ (Below.mono (by assumption) ?_) | omega | (simp <;> omega)))⟩
        case measure => simp [intOf]; omega
    · have e : k = n := by omega
      subst e
      go_wp2
      go_ret
      exact ⟨rfl, hbw⟩

theorem set_at {w : World} {g o : Nat} {v u : Value} (h : w.cell? ⟨g, o, none⟩ = some u) (j : Nat) : (w.setCell ⟨g, o, none⟩ v).cell? ⟨g, j, none⟩ = if j = o then some v else w.cell? ⟨g, j, none⟩ := by
  split
  · rename_i e; subst e; exact World.cell?_setCell_same _ _ _ h
  · rename_i e; exact World.cell?_setCell_other _ _ _ _ (fun x => e (by injection x with _ y; exact y.symm))
/-- a row of m numbers of which the first t are marked -/
def MkMem (g m t : Nat) (w wr : World) : Prop :=
  (∀ j, j < m → ∃ u, wr.cell? ⟨g, j, none⟩ = some u) ∧ (∀ j, j < t → wr.cell? ⟨g, j, none⟩ = some (.int .i64 ((j : Int) + 1))) ∧ (∀ o, wr.frozen? ⟨g, o, none⟩ = false) ∧ Below g w wr ∧ w.heap.size ≤ wr.heap.size
theorem MkMem.store {g m t : Nat} {w wr : World} (h : MkMem g m t w wr) (ht : t < m) (hg : g < w.heap.size) : MkMem g m (t + 1) w (wr.setCell ⟨g, t, none⟩ (.int .i64 ((t : Int) + 1))) := by
  obtain ⟨h1, h2, h3, h4, h5⟩ := h
  obtain ⟨u, hu⟩ := h1 t ht
  refine ⟨fun j hj => ?_, fun j hj => ?_, fun o => by rw [World.frozen?_setCell]; exact h3 o, h4.setCell (Nat.le_refl _) _, by simpa using h5⟩
  · rw [set_at hu]; split
    · exact ⟨_, rfl⟩
    · exact h1 j hj
  · rw [set_at hu]; split
    · rename_i e; subst e; rfl
    · exact h2 j (by omega)
def MkRelY (g n : Nat) (w : World) (q i : Value) (wr : World) : Prop := ∃ k : Nat, k ≤ n ∧ i = .int .i64 (k : Int) ∧ q = .int .i64 (((k * 3 : Nat) : Int) + 1) ∧ MkMem g (n * 3) (k * 3) w wr
def MkRel (g n k : Nat) (w : World) (q j : Value) (wr : World) : Prop := ∃ l : Nat, l ≤ 3 ∧ j = .int .i64 (l : Int) ∧ q = .int .i64 (((k * 3 + l : Nat) : Int) + 1) ∧ MkMem g (n * 3) (k * 3 + l) w wr
/-- what marking leaves -/
def MkEnd (g n : Nat) (w : World) (e : Ending) (w' : World) : Prop := e = .returned (.int .i64 (((n * 3 : Nat) : Int) + 1)) ∧ MkMem g (n * 3) (n * 3) w w'
set_option maxRecDepth 100000 in
theorem mark_any (g n c : Nat) (f : Nat → Int) (hn : n ≤ 300) (w : World) (h1 : SlI w g (n * 3) f) :
    Calls Try.prog 43 #[.slice (some ⟨g, 0, none⟩) n c, .int .i64 1] w (MkEnd g n w) := by
  have l1 := h1.2.2
  have hm : MkMem g (n * 3) 0 w w := ⟨fun j hj => ⟨_, h1.1 j hj⟩, fun j hj => by omega, h1.2.1, Below.refl _ _, Nat.le_refl _⟩
  clear h1
  go_enter Try.func43, Try.ntmps43
  go_wp2
  go_loopw [1, 5] (MkRelY g n w) (fun _ i _ => n - (intOf i).toNat)
  case atStart => exact ⟨0, Nat.zero_le _, rfl, rfl, by rw [Nat.zero_mul]; exact hm⟩
  case round =>
    clear hm
    obtain ⟨k, hk, rfl, rfl, hm⟩ := hrel
    by_cases hlt : k < n
    · have hlt' : (k : Int) < (n : Int) := by omega
      go_wp2
      obtain ⟨wo, rfl⟩ : ∃ wo : World, wo = wr := ⟨_, rfl⟩
      go_loopw [1, 6] (MkRel g n k w) (fun _ j _ => 3 - (intOf j).toNat)
      case atStart => exact ⟨0, Nat.zero_le _, rfl, rfl, hm⟩
      case round =>
        clear hm
        obtain ⟨l, hl, rfl, rfl, hm⟩ := hrel
        by_cases hlj : l < 3
        · have hlj' : (l : Int) < 3 := by omega
          have hbnd : k * 3 + l < n * 3 := by omega
          have hst := hm.store hbnd l1
          obtain ⟨u, hu⟩ := hm.1 (k * 3 + l) hbnd
          have hfz := hm.2.2.1 (k * 3 + l)
          have HST := Lib.hid hst
          clear hst hm
          go_wp2
          go_roundw
          case rel => exact ⟨l + 1, by omega, by go_num, by first | rfl | go_num, by rw [← Nat.add_assoc]; exact HST.out⟩
          case measure => simp [intOf]; omega
        · have e : l = 3 := by omega
          subst e
          go_wp2
          go_roundw
          case rel => exact ⟨k + 1, by omega, by go_num, by rw [Nat.succ_mul], by rw [Nat.succ_mul]; exact hm⟩
          case measure => simp [intOf]; omega
    · have e : k = n := by omega
      subst e
      go_wp2
      go_ret
      exact ⟨rfl, hm⟩
def HdRelY (n : Nat) (w : World) (q i : Value) (wr : World) : Prop := ∃ k : Nat, k ≤ n ∧ i = .int .i64 (k : Int) ∧ q = .int .i64 (((k * 3 : Nat) : Int) + 1) ∧ w = wr
def HdRel (k : Nat) (w : World) (q j : Value) (wr : World) : Prop := ∃ l : Nat, l ≤ 3 ∧ j = .int .i64 (l : Int) ∧ q = .int .i64 (((k * 3 + l : Nat) : Int) + 1) ∧ w = wr
set_option maxRecDepth 100000 in
theorem held_any (g n c : Nat) (hn : n ≤ 300) (w : World) (h1 : SlI w g (n * 3) fun j => (j : Int) + 1) :
    Calls Try.prog 44 #[.slice (some ⟨g, 0, none⟩) n c, .int .i64 1] w fun e w' => e = .returned (.int .i64 (((n * 3 : Nat) : Int) + 1)) ∧ w = w' := by
  have H1 := Lib.hid h1
  clear h1
  go_enter Try.func44, Try.ntmps44
  go_wp2
  go_loopw [1, 5] (HdRelY n w) (fun _ i _ => n - (intOf i).toNat)
  case atStart => exact ⟨0, Nat.zero_le _, rfl, rfl, rfl⟩
  case round =>
    obtain ⟨k, hk, rfl, rfl, rfl⟩ := hrel
    by_cases hlt : k < n
    · have hlt' : (k : Int) < (n : Int) := by omega
      go_wp2
      go_loopw [1, 6] (HdRel k w) (fun _ j _ => 3 - (intOf j).toNat)
      case atStart => exact ⟨0, Nat.zero_le _, rfl, rfl, rfl⟩
      case round =>
        obtain ⟨l, hl, rfl, rfl, rfl⟩ := hrel
        by_cases hlj : l < 3
        · have hlj' : (l : Int) < 3 := by omega
          have hbnd : k * 3 + l < n * 3 := by omega
          have hu := H1.out.1 (k * 3 + l) hbnd
          dsimp only at hu
          go_wp2
          go_roundw
          case rel => exact ⟨l + 1, by omega, by go_num, by first | rfl | go_num, rfl⟩
          case measure => simp [intOf]; omega
        · have e : l = 3 := by omega
          subst e
          go_wp2
          go_roundw
          case rel => exact ⟨k + 1, by omega, by go_num, by rw [Nat.succ_mul], rfl⟩
          case measure => simp [intOf]; omega
    · have e : k = n := by omega
      subst e
      go_wp2
      go_ret
      exact ⟨rfl, rfl⟩
end Go.Proofs.Ytidaoalnngmoaaa
namespace Go.Proofs.Ytidaoalnngmoaaa
open Go.RowKit
set_option linter.unusedSimpArgs false
set_option linter.unusedVariables false

/-- the numbers below n of the motions that keep X -/
def kpN (X : Nat) : Nat → List Nat
  | 0 => []
  | k + 1 => if mvN X k = X then kpN X k ++ [k] else kpN X k
def kpL (X : Nat) : List Nat := kpN X 288
theorem kpN_len (X : Nat) : ∀ n, (kpN X n).length ≤ n
  | 0 => Nat.le_refl _
  | n + 1 => by
      have := kpN_len X n
      unfold kpN
      split
      · rw [List.length_append]; simp; omega
      · omega
/-- motions as numbers one behind another -/
def trI (L : List Nat) : List Int := L.flatMap fun n : Nat => [(n : Int) / 36, (n : Int) % 36 / 6, (n : Int) % 6]
theorem trI_snoc (L : List Nat) (n : Nat) : trI (L ++ [n]) = trI L ++ [(n : Int) / 36, (n : Int) % 36 / 6, (n : Int) % 6] := by
  unfold trI; simp
theorem trI_len (L : List Nat) : (trI L).length = L.length * 3 := by
  unfold trI
  induction L with
  | nil => rfl
  | cons a L ih =>
    rw [List.flatMap_cons, List.length_append, ih]
    simp only [List.length_cons, List.length_nil]
    omega
theorem infoTri : (Try.prog.info? 39).map (fun i => (i.zero, i.size, i.bytes)) = some (some (.agg #[.int .i64 0, .int .i64 0, .int .i64 0]), 3, 24) := by kernel_rfl
/-- the slice value v is no nil slice and holds the motions of L -/
def OwnsT (w : World) (B : Nat) (v : Value) (L : List Nat) : Prop :=
  w.ownsRow B 39 3 v L.length ((trI L).map (Value.int .i64)) ∧ v ≠ .slice none 0 0
theorem ownsT_empty (w : World) (B g : Nat) (hB : B ≤ w.heap.size) (hg : g = w.heap.size) : OwnsT (w.alloc (.cells #[] 39)) B (.slice (some ⟨g, 0, none⟩) 0 0) [] := by
  subst hg
  exact ⟨World.ownsRow_lit (e := 39) w #[] 0 hB (by unfold maxLen; omega) (by simp), by simp⟩
/-- the j-th number of these motions -/
def trF (L : List Nat) (j : Nat) : Int := (trI L).getD j 0
theorem OwnsT.row {w : World} {B : Nat} {v : Value} {L : List Nat} (h : OwnsT w B v L) :
    ∃ g cap, v = .slice (some ⟨g, 0, none⟩) L.length cap ∧ L.length ≤ cap ∧ cap ≤ maxLen ∧ B ≤ g ∧ SlI w g (L.length * 3) (trF L) := by
  obtain ⟨hown, hnn⟩ := h
  have hlen := trI_len L
  rcases hown.2 with ⟨h1, _⟩ | ⟨g, cap, cur, hv, hg, hh, hc1, hc2, hc3, hc4⟩
  · exact absurd h1 hnn
  · refine ⟨g, cap, hv, hc1, hc2, hg, ?_, fun o => by simp [World.frozen?, hh], (Array.getElem?_eq_some_iff.1 hh).1⟩
    intro j hj
    have h5 : (List.take (L.length * 3) cur.toList)[j]? = some (.int .i64 (trF L j)) := by
      rw [hc4, List.getElem?_map, List.getElem?_eq_getElem (by omega)]
      unfold trF
      rw [List.getD_eq_getElem?_getD, List.getElem?_eq_getElem (by omega)]
      rfl
    rw [List.getElem?_take, if_pos hj] at h5
    simpa [World.cell?, hh] using h5
/-- what keptBy leaves -/
def KeptEnd (X : Nat) (w : World) (e : Ending) (w' : World) : Prop :=
  ∃ g cap : Nat, e = .returned (.slice (some ⟨g, 0, none⟩) (kpL X).length cap) ∧ (kpL X).length ≤ cap ∧ cap ≤ maxLen ∧ w.heap.size ≤ g ∧ SlI w' g ((kpL X).length * 3) (trF (kpL X)) ∧ Below w.heap.size w w'

def KbRel (X : Nat) (w : World) (o i : Value) (wr : World) : Prop :=
  ∃ k : Nat, k ≤ 288 ∧ i = .int .i64 (k : Int) ∧ OwnsT wr w.heap.size o (kpN X k) ∧ Below w.heap.size w wr
set_option maxRecDepth 100000 in
set_option maxHeartbeats 1600000 in
theorem keptBy_any (X : Nat) (hX : Vs X) (w : World) : Calls Try.prog 95 #[.int .u64 (X : Int)] w (KeptEnd X w) := by
  obtain ⟨i0, hi, iz0, iz1, iz2⟩ := info_parts infoTri
  go_enter Try.func95, Try.ntmps95
  go_wp2
  go_loopw [3, 7] (KbRel X w) (fun _ i _ => 288 - (intOf i).toNat)
  case atStart => exact ⟨0, Nat.zero_le _, rfl, ownsT_empty w w.heap.size _ (Nat.le_refl _) rfl, (by repeat (first | with_reducible exact Below.refl _ _ | with_reducible assumption | with_reducible refine Below.drew ?_ | with_reducible refine below_drewN ?_ _ | with_reducible refine Below.alloc ?_ ?_ _ | with_reducible refine Below.setCell ?_ ?_ _ | with_reducible refine Below.trans ?_ (Below.mono (by assumption) ?_) | omega | (simp <;> omega)))⟩
  case round =>
    obtain ⟨k, hk, rfl, ⟨hown, hnn⟩, hbw⟩ := hrel
    have hle := kpN_len X k
    have hbsz := hbw.size
    by_cases hlt : k < 288
    · have hlt' : (k : Int) < 288 := by omega
      by_cases hkm : mvN X k = X
      · have hb0 := behind_at X k hX hlt
        rw [hkm] at hb0
        have hBE := Lib.hid hb0
        have hKM := Lib.hid hkm
        clear hb0 hkm
        go_wp2_with (go_at_call 117; (with_reducible refine (motionAt_any k hlt _).mono ?_); rintro e w1 ⟨rfl, hb⟩; obtain ⟨hc, hf, hT, hz⟩ := bfacts hb; (try simp only [World.size_alloc, World.size_setCell, World.size_drew, size_drewN] at hc hf hT hz); (try (have hzA := Nat.lt_of_succ_le hz)); (try (have hl0 : w.heap.size ≤ w1.heap.size := by omega)); (try (have hz0 : w.heap.size < w1.heap.size := by omega)); (try (have hz1 : w.heap.size + 1 < w1.heap.size := by omega)); (try (have hz2 : w.heap.size + 1 + 1 < w1.heap.size := by omega)); (try (have hz3 : w.heap.size + 1 + 1 + 1 < w1.heap.size := by omega)); (try (have hz4 : w.heap.size + 1 + 1 + 1 + 1 < w1.heap.size := by omega)))
        have hown1 := owns_below hb hown
        have hBa := hbw.trans (hb.mono hbw.size)
        obtain ⟨wa, rfl⟩ : ∃ wa : World, wa = w1 := ⟨_, rfl⟩
        go_wp2_with (first | (go_at_call 88; (with_reducible refine (hBE.out _).mono ?_); rintro e w1 ⟨rfl, hb⟩; obtain ⟨hc, hf, hT, hz⟩ := bfacts hb; (try simp only [World.size_alloc, World.size_setCell, World.size_drew, size_drewN] at hc hf hT hz); (try (have hzA := Nat.lt_of_succ_le hz)); (try (have hl0 : w.heap.size ≤ w1.heap.size := by omega)); (try (have hz0 : w.heap.size < w1.heap.size := by omega)); (try (have hz1 : w.heap.size + 1 < w1.heap.size := by omega)); (try (have hz2 : w.heap.size + 1 + 1 < w1.heap.size := by omega)); (try (have hz3 : w.heap.size + 1 + 1 + 1 < w1.heap.size := by omega)); (try (have hz4 : w.heap.size + 1 + 1 + 1 + 1 < w1.heap.size := by omega)); (try (have gxwaheapsize : wa.heap.size < w1.heap.size := by omega))) | (at_builtin; refine wpList_append_own _ rfl _ _ 52 rfl w.heap.size 39 i0 (.agg #[.int .i64 0, .int .i64 0, .int .i64 0]) 3 24 Try.underlying52 hi iz0 iz1 iz2 rfl (by decide) _ _ _ rfl ((owns_below hb (hown1.alloc _)).alloc _) ⟨w1.heap.size, 0, none⟩ 1 1 [.int .i64 ((k : Int) / 36), .int .i64 ((k : Int) % 36 / 6), .int .i64 ((k : Int) % 6)] rfl rfl ?c1 ?c2 ?c3 ?c4 ?c5 ?_))
        case c1 =>
          intro j u hj
          match j, hj with
          | 0, hj => simp at hj; subst hj; simp [Addr.add]
          | 1, hj => simp at hj; subst hj; simp [Addr.add]
          | 2, hj => simp at hj; subst hj; simp [Addr.add]
        case c2 =>
          intro u hu
          simp at hu
          rcases hu with rfl | rfl | rfl <;> rfl
        case c3 => unfold maxLen; omega
        case c4 => omega
        case c5 => have := hBa.size; simp; omega
        intro v' w2 hown' hgrow hnil
        have hBb : Below w.heap.size w w1 := (by repeat (first | with_reducible exact Below.refl _ _ | with_reducible assumption | with_reducible refine Below.drew ?_ | with_reducible refine below_drewN ?_ _ | with_reducible refine Below.alloc ?_ ?_ _ | with_reducible refine Below.setCell ?_ ?_ _ | with_reducible refine Below.trans ?_ (Below.mono (by assumption) ?_) | omega | (simp <;> omega)))
        have hsz1 := hBb.size
        have hB : Below w.heap.size w w2 := (hBb.alloc hBb.size _).grown hgrow (by simp; omega) (fun j hj => by have := (hown.lt j hj).1; omega)
        have hN : v' ≠ .slice none 0 0 := fun h => by first | exact hnil h | exact hnn (hnil.1 h).1
        have hO : OwnsT w2 w.heap.size v' (kpN X (k + 1)) := by
          unfold kpN OwnsT
          rw [if_pos hKM.out, trI_snoc]
          exact ⟨by simpa using hown', hN⟩
        clear hown' hgrow hnil hown hnn hN hown1
        go_wp2
        go_roundw
        case rel => exact ⟨k + 1, by omega, by go_num, hO, hB⟩
        case measure => simp [intOf]; omega
      · have hb0 := behind_at X k hX hlt
        have hne : ¬ (((mvN X k : Nat) : Int) = (X : Int)) := by omega
        have hd : (((mvN X k : Nat) : Int) == (X : Int)) = false := by rw [beq_eq_false_iff_ne]; exact hne
        have hBE := Lib.hid hb0
        have hO : kpN X (k + 1) = kpN X k := by rw [kpN, if_neg hkm]
        have hOO := Lib.hid hO
        clear hb0 hkm hO
        go_wp2_with (go_at_call 117; (with_reducible refine (motionAt_any k hlt _).mono ?_); rintro e w1 ⟨rfl, hb⟩; obtain ⟨hc, hf, hT, hz⟩ := bfacts hb; (try simp only [World.size_alloc, World.size_setCell, World.size_drew, size_drewN] at hc hf hT hz); (try (have hzA := Nat.lt_of_succ_le hz)); (try (have hl0 : w.heap.size ≤ w1.heap.size := by omega)); (try (have hz0 : w.heap.size < w1.heap.size := by omega)); (try (have hz1 : w.heap.size + 1 < w1.heap.size := by omega)); (try (have hz2 : w.heap.size + 1 + 1 < w1.heap.size := by omega)); (try (have hz3 : w.heap.size + 1 + 1 + 1 < w1.heap.size := by omega)); (try (have hz4 : w.heap.size + 1 + 1 + 1 + 1 < w1.heap.size := by omega)))
        have hown1 := owns_below hb hown
        have hBa := hbw.trans (hb.mono hbw.size)
        go_wp2_with (go_at_call 88; (with_reducible refine (hBE.out _).mono ?_); rintro e w1 ⟨rfl, hb⟩; obtain ⟨hc, hf, hT, hz⟩ := bfacts hb; (try simp only [World.size_alloc, World.size_setCell, World.size_drew, size_drewN] at hc hf hT hz); (try (have hzA := Nat.lt_of_succ_le hz)); (try (have hl0 : w.heap.size ≤ w1.heap.size := by omega)); (try (have hz0 : w.heap.size < w1.heap.size := by omega)); (try (have hz1 : w.heap.size + 1 < w1.heap.size := by omega)); (try (have hz2 : w.heap.size + 1 + 1 < w1.heap.size := by omega)); (try (have hz3 : w.heap.size + 1 + 1 + 1 < w1.heap.size := by omega)); (try (have hz4 : w.heap.size + 1 + 1 + 1 + 1 < w1.heap.size := by omega)))
        have hown2 := owns_below hb (hown1.alloc _)
        have hBb : Below w.heap.size w w1 := (by repeat (first | with_reducible exact Below.refl _ _ | with_reducible assumption | with_reducible refine Below.drew ?_ | with_reducible refine below_drewN ?_ _ | with_reducible refine Below.alloc ?_ ?_ _ | with_reducible refine Below.setCell ?_ ?_ _ | with_reducible refine Below.trans ?_ (Below.mono (by assumption) ?_) | omega | (simp <;> omega)))
        go_roundw
        case rel => exact ⟨k + 1, by omega, by go_num, by rw [hOO.out]; exact ⟨hown2, hnn⟩, hBb⟩
        case measure => simp [intOf]; omega
    · have e : k = 288 := by omega
      subst e
      obtain ⟨g, cap, rfl, q1, q2, q3, q4⟩ := OwnsT.row ⟨hown, hnn⟩
      go_wp2
      go_ret
      exact ⟨g, cap, rfl, q1, q2, q3, q4, hbw⟩
end Go.Proofs.Ytidaoalnngmoaaa
namespace Go.Proofs.Ytidaoalnngmoaaa
open Go.RowKit
set_option linter.unusedSimpArgs false
set_option linter.unusedVariables false

theorem l3Move_at (X k x y : Nat) (hX : Vs X) (hk : k < 8) (hx : x < 6) (hy : y < 6) (w : World) : Calls Try.prog 87 #[(.agg #[.int .i64 (row X 0), .int .i64 (row X 1), .int .i64 (row X 2), .int .i64 (row X 3), .int .i64 (row X 4), .int .i64 (row X 5)]), .agg #[.int .i64 (k : Int), .int .i64 (x : Int), .int .i64 (y : Int)]] w fun e w' => e = .returned (.agg #[.int .i64 (row (mvN X (36 * k + 6 * x + y)) 0), .int .i64 (row (mvN X (36 * k + 6 * x + y)) 1), .int .i64 (row (mvN X (36 * k + 6 * x + y)) 2), .int .i64 (row (mvN X (36 * k + 6 * x + y)) 3), .int .i64 (row (mvN X (36 * k + 6 * x + y)) 4), .int .i64 (row (mvN X (36 * k + 6 * x + y)) 5)]) ∧ Below w.heap.size w w' := by
  have h := l3Move_any X k x y hX hk hx hy w
  have e : moveS k x y X = mvN X (36 * k + 6 * x + y) := by
    unfold mvN
    rw [show (36 * k + 6 * x + y) / 36 = k by omega, show (36 * k + 6 * x + y) % 36 / 6 = x by omega, show (36 * k + 6 * x + y) % 6 = y by omega]
  rw [e] at h
  exact h
def KpMem (X n : Nat) (w : World) (o : Value) (wr : World) : Prop := OwnsT wr (w.heap.size + 1) o (kpN X n) ∧ Below w.heap.size w wr ∧ HoldsA wr 33 (w.heap.size) (row X 0) (row X 1) (row X 2) (row X 3) (row X 4) (row X 5)
def KpRelK (X : Nat) (w : World) (o i : Value) (wr : World) : Prop := ∃ k : Nat, k ≤ 8 ∧ i = .int .i64 (k : Int) ∧ KpMem X (36 * k) w o wr
def KpRelX (X k : Nat) (w : World) (o i : Value) (wr : World) : Prop := ∃ x : Nat, x ≤ 6 ∧ i = .int .i64 (x : Int) ∧ KpMem X (36 * k + 6 * x) w o wr
def KpRelY (X k x : Nat) (w : World) (o i : Value) (wr : World) : Prop := ∃ y : Nat, y ≤ 6 ∧ i = .int .i64 (y : Int) ∧ KpMem X (36 * k + 6 * x + y) w o wr
set_option maxRecDepth 100000 in
set_option maxHeartbeats 3200000 in
theorem l3Kept_any (X : Nat) (hX : Vs X) (w : World) : Calls Try.prog 93 #[(.agg #[.int .i64 (row X 0), .int .i64 (row X 1), .int .i64 (row X 2), .int .i64 (row X 3), .int .i64 (row X 4), .int .i64 (row X 5)])] w (KeptEnd X w) := by
  obtain ⟨i0, hi, iz0, iz1, iz2⟩ := info_parts infoTri
  go_enter Try.func93, Try.ntmps93
  go_wp2
  go_loopw [3, 4] (KpRelK X w) (fun _ i _ => 8 - (intOf i).toNat)
  case atStart => exact ⟨0, Nat.zero_le _, rfl, ownsT_empty (w.alloc _) (w.heap.size + 1) _ (by simp) (by simp), (by repeat (first | with_reducible exact Below.refl _ _ | with_reducible assumption | with_reducible refine Below.drew ?_ | with_reducible refine below_drewN ?_ _ | with_reducible refine Below.alloc ?_ ?_ _ | with_reducible refine Below.setCell ?_ ?_ _ | with_reducible refine Below.trans ?_ (Below.mono (by assumption) ?_) | omega | (simp <;> omega))), (HoldsA.made _ _ _ _ _ _ _ _).alloc _⟩
  case round =>
    obtain ⟨k, hk, rfl, hm⟩ := hrel
    by_cases hlt : k < 8
    · have hlt' : (k : Int) < 8 := by omega
      go_wp2
      obtain ⟨wo, rfl⟩ : ∃ wo : World, wo = wr := ⟨_, rfl⟩
      go_loopw [3, 5] (KpRelX X k w) (fun _ i _ => 6 - (intOf i).toNat)
      case atStart => exact ⟨0, Nat.zero_le _, rfl, hm⟩
      case round =>
        clear hm
        obtain ⟨x, hx, rfl, hm⟩ := hrel
        by_cases hlx : x < 6
        · have hlx' : (x : Int) < 6 := by omega
          go_wp2
          obtain ⟨wo2, rfl⟩ : ∃ wo2 : World, wo2 = wr := ⟨_, rfl⟩
          go_loopw [3, 6] (KpRelY X k x w) (fun _ i _ => 6 - (intOf i).toNat)
          case atStart => exact ⟨0, Nat.zero_le _, rfl, hm⟩
          case round =>
            clear hm
            obtain ⟨y, hy, rfl, ⟨hown, hnn⟩, hbw, h0⟩ := hrel
            have hle := kpN_len X (36 * k + 6 * x + y)
            have hbsz := hbw.size
            have hlw := h0.lt
            by_cases hly : y < 6
            · have hly' : (y : Int) < 6 := by omega
              have hx0 := h0.c0
              have hx1 := h0.c1
              have hx2 := h0.c2
              have hx3 := h0.c3
              have hx4 := h0.c4
              have hx5 := h0.c5
              have hxf := h0.free
              have hMV := Lib.hid (l3Move_at X k x y hX hlt hlx hly)
              by_cases hkm : mvN X (36 * k + 6 * x + y) = X
              · have hd := rows_yes (mvN X (36 * k + 6 * x + y)) X (mvN_vs _ _) hX hkm
                have hKM := Lib.hid hkm
                clear hkm
                go_wp2
                go_region_held3 (fun w' => w'.cell? ⟨w.heap.size, 0, none⟩ = some (.int .i64 (row X 0)) ∧ w'.cell? ⟨w.heap.size, 1, none⟩ = some (.int .i64 (row X 1)) ∧ w'.cell? ⟨w.heap.size, 2, none⟩ = some (.int .i64 (row X 2)) ∧ w'.cell? ⟨w.heap.size, 3, none⟩ = some (.int .i64 (row X 3)) ∧ w'.cell? ⟨w.heap.size, 4, none⟩ = some (.int .i64 (row X 4)) ∧ w'.cell? ⟨w.heap.size, 5, none⟩ = some (.int .i64 (row X 5)) ∧ w'.cell? ⟨wr.heap.size, 0, none⟩ = some (.int .i64 (↑k)) ∧ w'.cell? ⟨wr.heap.size, 1, none⟩ = some (.int .i64 (↑x)) ∧ w'.cell? ⟨wr.heap.size, 2, none⟩ = some (.int .i64 (↑y))) (simp [*, World.cell?_alloc_some, World.cell?_setCell_far, Nat.ne_of_gt]) (first | (first | (go_at_call 87; (with_reducible refine (hMV.out _).mono ?_); rintro e w1 ⟨rfl, hb⟩; obtain ⟨hc, hf, hT, hz⟩ := bfacts hb; (try simp only [World.size_alloc, World.size_setCell, World.size_drew, size_drewN] at hc hf hT hz); (try (have hzA := Nat.lt_of_succ_le hz)); (try (have hl0 : w.heap.size ≤ w1.heap.size := by omega)); (try (have hz0 : w.heap.size < w1.heap.size := by omega)); (try (have hz1 : w.heap.size + 1 < w1.heap.size := by omega)); (try (have hz2 : w.heap.size + 1 + 1 < w1.heap.size := by omega)); (try (have hz3 : w.heap.size + 1 + 1 + 1 < w1.heap.size := by omega)); (try (have hz4 : w.heap.size + 1 + 1 + 1 + 1 < w1.heap.size := by omega)))))
                all_goals
                  have hBB : Below wr.heap.size wr w1 := (by repeat (first | with_reducible exact Below.refl _ _ | with_reducible assumption | with_reducible refine Below.drew ?_ | with_reducible refine below_drewN ?_ _ | with_reducible refine Below.alloc ?_ ?_ _ | with_reducible refine Below.setCell ?_ ?_ _ | with_reducible refine Below.trans ?_ (Below.mono (by assumption) ?_) | omega | (simp <;> omega)))
                  have hown1 := owns_below hBB hown
                  have e0 := h0.below hBB h0.lt
                  have hBw := hbw.trans (hBB.mono hbw.size)
                  have hzz := hBB.size
                  have hlm : wr.heap.size < w1.heap.size := by omega
                  go_wp2_with (at_builtin; refine wpList_append_own _ rfl _ _ 52 rfl (w.heap.size + 1) 39 i0 (.agg #[.int .i64 0, .int .i64 0, .int .i64 0]) 3 24 Try.underlying52 hi iz0 iz1 iz2 rfl (by decide) _ _ _ rfl (hown1.alloc _) ⟨w1.heap.size, 0, none⟩ 1 1 [.int .i64 (k : Int), .int .i64 (x : Int), .int .i64 (y : Int)] rfl rfl ?c1 ?c2 ?c3 ?c4 ?c5 ?_)
                  case c1 =>
                    intro j u hj
                    match j, hj with
                    | 0, hj => simp at hj; subst hj; simp [Addr.add]
                    | 1, hj => simp at hj; subst hj; simp [Addr.add]
                    | 2, hj => simp at hj; subst hj; simp [Addr.add]
                  case c2 =>
                    intro u hu
                    simp at hu
                    rcases hu with rfl | rfl | rfl <;> rfl
                  case c3 => unfold maxLen; omega
                  case c4 => omega
                  case c5 => simp; omega
                  intro v' w2 hown' hgrow hnil
                  have hB : Below w.heap.size w w2 := (hBw.alloc hBw.size _).grown hgrow (by simp; omega) (fun j hj => by have := (hown.lt j hj).1; omega)
                  have hN : v' ≠ .slice none 0 0 := fun h => by first | exact hnil h | exact hnn (hnil.1 h).1
                  have hO : OwnsT w2 (w.heap.size + 1) v' (kpN X (36 * k + 6 * x + (y + 1))) := by
                    rw [← Nat.add_assoc]
                    unfold kpN OwnsT
                    rw [if_pos hKM.out, trI_snoc, show ((36 * k + 6 * x + y : Nat) : Int) / 36 = (k : Int) by omega, show ((36 * k + 6 * x + y : Nat) : Int) % 36 / 6 = (x : Int) by omega, show ((36 * k + 6 * x + y : Nat) : Int) % 6 = (y : Int) by omega]
                    exact ⟨by simpa using hown', hN⟩
                  have hH : HoldsA w2 33 (w.heap.size) (row X 0) (row X 1) (row X 2) (row X 3) (row X 4) (row X 5) := by
                    have h3 : w2.heap[w.heap.size]? = (w1.alloc (.cells #[.int .i64 (k : Int), .int .i64 (x : Int), .int .i64 (y : Int)] 39)).heap[w.heap.size]? :=
                      hgrow.block _ (by simp; omega) (fun e => by have := (hown.lt _ e.symm).1; omega)
                    exact h3.trans (e0.alloc _)
                  clear hown' hgrow hnil hown hnn hN hown1
                  go_wp2
                  go_roundw
                  case rel => exact ⟨y + 1, by omega, by go_num, hO, hB, hH⟩
                  case measure => simp [intOf]; omega
              · have hd := rows_no (mvN X (36 * k + 6 * x + y)) X (mvN_vs _ _) hX hkm
                have hO : kpN X (36 * k + 6 * x + (y + 1)) = kpN X (36 * k + 6 * x + y) := by rw [← Nat.add_assoc, kpN, if_neg hkm]
                have hOO := Lib.hid hO
                clear hkm hO
                go_wp2
                go_region_held3 (fun w' => w'.cell? ⟨w.heap.size, 0, none⟩ = some (.int .i64 (row X 0)) ∧ w'.cell? ⟨w.heap.size, 1, none⟩ = some (.int .i64 (row X 1)) ∧ w'.cell? ⟨w.heap.size, 2, none⟩ = some (.int .i64 (row X 2)) ∧ w'.cell? ⟨w.heap.size, 3, none⟩ = some (.int .i64 (row X 3)) ∧ w'.cell? ⟨w.heap.size, 4, none⟩ = some (.int .i64 (row X 4)) ∧ w'.cell? ⟨w.heap.size, 5, none⟩ = some (.int .i64 (row X 5)) ∧ w'.cell? ⟨wr.heap.size, 0, none⟩ = some (.int .i64 (↑k)) ∧ w'.cell? ⟨wr.heap.size, 1, none⟩ = some (.int .i64 (↑x)) ∧ w'.cell? ⟨wr.heap.size, 2, none⟩ = some (.int .i64 (↑y))) (simp [*, World.cell?_alloc_some, World.cell?_setCell_far, Nat.ne_of_gt]) (first | (first | (go_at_call 87; (with_reducible refine (hMV.out _).mono ?_); rintro e w1 ⟨rfl, hb⟩; obtain ⟨hc, hf, hT, hz⟩ := bfacts hb; (try simp only [World.size_alloc, World.size_setCell, World.size_drew, size_drewN] at hc hf hT hz); (try (have hzA := Nat.lt_of_succ_le hz)); (try (have hl0 : w.heap.size ≤ w1.heap.size := by omega)); (try (have hz0 : w.heap.size < w1.heap.size := by omega)); (try (have hz1 : w.heap.size + 1 < w1.heap.size := by omega)); (try (have hz2 : w.heap.size + 1 + 1 < w1.heap.size := by omega)); (try (have hz3 : w.heap.size + 1 + 1 + 1 < w1.heap.size := by omega)); (try (have hz4 : w.heap.size + 1 + 1 + 1 + 1 < w1.heap.size := by omega)))))
                all_goals
                  have hBB : Below wr.heap.size wr w1 := (by repeat (first | with_reducible exact Below.refl _ _ | with_reducible assumption | with_reducible refine Below.drew ?_ | with_reducible refine below_drewN ?_ _ | with_reducible refine Below.alloc ?_ ?_ _ | with_reducible refine Below.setCell ?_ ?_ _ | with_reducible refine Below.trans ?_ (Below.mono (by assumption) ?_) | omega | (simp <;> omega)))
                  have hown1 := owns_below hBB hown
                  have e0 := h0.below hBB h0.lt
                  have hBw := hbw.trans (hBB.mono hbw.size)
                  go_wp2
                  go_roundw
                  case rel => exact ⟨y + 1, by omega, by go_num, by rw [hOO.out]; exact ⟨hown1, hnn⟩, hBw, e0⟩
                  case measure => simp [intOf]; omega
            · have e : y = 6 := by omega
              subst e
              go_wp2
              go_roundw
              case rel => exact ⟨x + 1, by omega, by go_num, by rw [show 36 * k + 6 * (x + 1) = 36 * k + 6 * x + 6 by omega]; exact ⟨hown, hnn⟩, hbw, h0⟩
              case measure => simp [intOf]; omega
        · have e : x = 6 := by omega
          subst e
          go_wp2
          go_roundw
          case rel => exact ⟨k + 1, by omega, by go_num, by rw [show 36 * (k + 1) = 36 * k + 6 * 6 by omega]; exact hm⟩
          case measure => simp [intOf]; omega
    · have e : k = 8 := by omega
      subst e
      obtain ⟨⟨hown, hnn⟩, hbw, h0⟩ := hm
      obtain ⟨g, cap, rfl, q1, q2, q3, q4⟩ := OwnsT.row ⟨hown, hnn⟩
      go_wp2
      go_ret
      exact ⟨g, cap, rfl, q1, q2, by omega, q4, hbw⟩
end Go.Proofs.Ytidaoalnngmoaaa
namespace Go.Proofs.Ytidaoalnngmoaaa
open Go.RowKit
set_option linter.unusedSimpArgs false
set_option linter.unusedVariables false

def KeptByOk (X : Nat) (w : World) (e : Ending) (w' : World) : Prop :=
  ∃ g cap : Nat, e = .returned (.tuple #[.slice (some ⟨g, 0, none⟩) (kpL X).length cap, .bool true]) ∧ w.heap.size ≤ g ∧ SlI w' g ((kpL X).length * 3) (trF (kpL X)) ∧ Below w.heap.size w w'
def KeptByNo (w : World) (e : Ending) (w' : World) : Prop :=
  ∃ (a : Option Addr) (c : Nat), e = .returned (.tuple #[.slice a 0 c, .bool false]) ∧ Below w.heap.size w w'
theorem clip_any (g n cap : Nat) (h : n ≤ cap) (hn : 0 < n) (hn2 : n ≤ 300) (w : World) : Calls Try.prog 94 #[.slice (some ⟨g, 0, none⟩) n cap] w fun e w' => e = .returned (.slice (some ⟨g, 0, none⟩) n n) ∧ w = w' := by
  go_enter Try.func94, Try.ntmps94
  go_wp2
  go_ret
  exact ⟨by simp, rfl⟩
theorem mvN_zero (X : Nat) (hX : Vs X) : mvN X 0 = X := by
  show shiftN (turnS 0 X) 0 0 = X
  rw [turnS_zero X hX, shiftN_zero X hX]
theorem kpN_pos (X : Nat) (hX : Vs X) : ∀ n, 0 < n → 0 < (kpN X n).length
  | 0, h => by omega
  | n + 1, _ => by
      unfold kpN
      by_cases e : n = 0
      · subst e
        rw [if_pos (mvN_zero X hX)]
        simp
      · have := kpN_pos X hX n (by omega)
        split
        · rw [List.length_append]; omega
        · exact this
theorem kpL_pos (X : Nat) (hX : Vs X) : 0 < (kpL X).length := kpN_pos X hX 288 (by omega)
theorem kpL_le (X : Nat) : (kpL X).length ≤ 288 := kpN_len X 288
set_option maxRecDepth 100000 in
theorem implKeptBy_ok (X : Nat) (hX : Vs X) (w : World) : Calls Try.prog 41 #[(.agg #[.int .i64 (row X 0), .int .i64 (row X 1), .int .i64 (row X 2), .int .i64 (row X 3), .int .i64 (row X 4), .int .i64 (row X 5)])] w (KeptByOk X w) := by
  have hp := kpL_pos X hX
  have hl := kpL_le X
  go_enter Try.func41, Try.ntmps41
  go_wp2_with (first | (go_at_call 79; (with_reducible refine (setOf_ok _ hX _).mono ?_); rintro e w1 ⟨rfl, hb⟩; obtain ⟨hc, hf, hT, hz⟩ := bfacts hb; (try simp only [World.size_alloc, World.size_setCell, World.size_drew, size_drewN] at hc hf hT hz); (try (have hzA := Nat.lt_of_succ_le hz)); (try (have hl0 : w.heap.size ≤ w1.heap.size := by omega)); (try (have hz0 : w.heap.size < w1.heap.size := by omega)); (try (have hz1 : w.heap.size + 1 < w1.heap.size := by omega)); (try (have hz2 : w.heap.size + 1 + 1 < w1.heap.size := by omega)); (try (have hz3 : w.heap.size + 1 + 1 + 1 < w1.heap.size := by omega)); (try (have hz4 : w.heap.size + 1 + 1 + 1 + 1 < w1.heap.size := by omega))) | (go_at_call 95; (with_reducible refine (keptBy_any X hX _).mono ?_); rintro e w1 ⟨g1, cap1, rfl, q1, q2, q3, q4, hb⟩; obtain ⟨hc, hf, hT, hz⟩ := bfacts hb; (try simp only [World.size_alloc, World.size_setCell, World.size_drew, size_drewN] at hc hf hT hz); (try (have hzA := Nat.lt_of_succ_le hz)); (try (have hl0 : w.heap.size ≤ w1.heap.size := by omega)); (try (have hz0 : w.heap.size < w1.heap.size := by omega)); (try (have hz1 : w.heap.size + 1 < w1.heap.size := by omega)); (try (have hz2 : w.heap.size + 1 + 1 < w1.heap.size := by omega)); (try (have hz3 : w.heap.size + 1 + 1 + 1 < w1.heap.size := by omega)); (try (have hz4 : w.heap.size + 1 + 1 + 1 + 1 < w1.heap.size := by omega))) | (go_at_call 94; (with_reducible refine (clip_any g1 (kpL X).length cap1 (by assumption) hp (by omega) _).mono ?_); rintro e w1 ⟨rfl, rfl⟩))
  go_ret2
  exact ⟨_, _, rfl, by omega, q4, (by repeat (first | with_reducible exact Below.refl _ _ | with_reducible assumption | with_reducible refine Below.drew ?_ | with_reducible refine below_drewN ?_ _ | with_reducible refine Below.alloc ?_ ?_ _ | with_reducible refine Below.setCell ?_ ?_ _ | with_reducible refine Below.trans ?_ (Below.mono (by assumption) ?_) | omega | (simp <;> omega)))⟩
set_option maxRecDepth 100000 in
theorem specKeptBy_ok (X : Nat) (hX : Vs X) (w : World) : Calls Try.prog 40 #[(.agg #[.int .i64 (row X 0), .int .i64 (row X 1), .int .i64 (row X 2), .int .i64 (row X 3), .int .i64 (row X 4), .int .i64 (row X 5)])] w (KeptByOk X w) := by
  go_enter Try.func40, Try.ntmps40
  go_wp2_with (first | (go_at_call 77; (with_reducible refine (l2Sheet_ok _ _).mono ?_); rintro e w1 ⟨rfl, hb⟩; obtain ⟨hc, hf, hT, hz⟩ := bfacts hb; (try simp only [World.size_alloc, World.size_setCell, World.size_drew, size_drewN] at hc hf hT hz); (try (have hzA := Nat.lt_of_succ_le hz)); (try (have hl0 : w.heap.size ≤ w1.heap.size := by omega)); (try (have hz0 : w.heap.size < w1.heap.size := by omega)); (try (have hz1 : w.heap.size + 1 < w1.heap.size := by omega)); (try (have hz2 : w.heap.size + 1 + 1 < w1.heap.size := by omega)); (try (have hz3 : w.heap.size + 1 + 1 + 1 < w1.heap.size := by omega)); (try (have hz4 : w.heap.size + 1 + 1 + 1 + 1 < w1.heap.size := by omega))) | (go_at_call 93; (with_reducible refine (l3Kept_any X hX _).mono ?_); rintro e w1 ⟨g1, cap1, rfl, q1, q2, q3, q4, hb⟩; obtain ⟨hc, hf, hT, hz⟩ := bfacts hb; (try simp only [World.size_alloc, World.size_setCell, World.size_drew, size_drewN] at hc hf hT hz); (try (have hzA := Nat.lt_of_succ_le hz)); (try (have hl0 : w.heap.size ≤ w1.heap.size := by omega)); (try (have hz0 : w.heap.size < w1.heap.size := by omega)); (try (have hz1 : w.heap.size + 1 < w1.heap.size := by omega)); (try (have hz2 : w.heap.size + 1 + 1 < w1.heap.size := by omega)); (try (have hz3 : w.heap.size + 1 + 1 + 1 < w1.heap.size := by omega)); (try (have hz4 : w.heap.size + 1 + 1 + 1 + 1 < w1.heap.size := by omega))))
  go_ret2
  exact ⟨_, _, rfl, by omega, q4, (by repeat (first | with_reducible exact Below.refl _ _ | with_reducible assumption | with_reducible refine Below.drew ?_ | with_reducible refine below_drewN ?_ _ | with_reducible refine Below.alloc ?_ ?_ _ | with_reducible refine Below.setCell ?_ ?_ _ | with_reducible refine Below.trans ?_ (Below.mono (by assumption) ?_) | omega | (simp <;> omega)))⟩

set_option maxRecDepth 100000 in
theorem implKeptBy_no (a0 a1 a2 a3 a4 a5 : Int) (hn : ¬ Ok6 a0 a1 a2 a3 a4 a5) (w : World) : Calls Try.prog 41 #[(.agg #[.int .i64 a0, .int .i64 a1, .int .i64 a2, .int .i64 a3, .int .i64 a4, .int .i64 a5])] w (KeptByNo w) := by
  go_enter Try.func41, Try.ntmps41
  go_wp2_with (go_at_call 79; (with_reducible refine (setOf_no _ _ _ _ _ _ (by assumption) _).mono ?_); rintro e w1 ⟨rfl, hb⟩; obtain ⟨hc, hf, hT, hz⟩ := bfacts hb; (try simp only [World.size_alloc, World.size_setCell, World.size_drew, size_drewN] at hc hf hT hz); (try (have hzA := Nat.lt_of_succ_le hz)); (try (have hl0 : w.heap.size ≤ w1.heap.size := by omega)); (try (have hz0 : w.heap.size < w1.heap.size := by omega)); (try (have hz1 : w.heap.size + 1 < w1.heap.size := by omega)); (try (have hz2 : w.heap.size + 1 + 1 < w1.heap.size := by omega)); (try (have hz3 : w.heap.size + 1 + 1 + 1 < w1.heap.size := by omega)); (try (have hz4 : w.heap.size + 1 + 1 + 1 + 1 < w1.heap.size := by omega)))
  go_ret2
  exact ⟨_, _, rfl, (by repeat (first | with_reducible exact Below.refl _ _ | with_reducible assumption | with_reducible refine Below.drew ?_ | with_reducible refine below_drewN ?_ _ | with_reducible refine Below.alloc ?_ ?_ _ | with_reducible refine Below.setCell ?_ ?_ _ | with_reducible refine Below.trans ?_ (Below.mono (by assumption) ?_) | omega | (simp <;> omega)))⟩

set_option maxRecDepth 100000 in
theorem specKeptBy_no (a0 a1 a2 a3 a4 a5 : Int) (hn : ¬ Ok6 a0 a1 a2 a3 a4 a5) (w : World) : Calls Try.prog 40 #[(.agg #[.int .i64 a0, .int .i64 a1, .int .i64 a2, .int .i64 a3, .int .i64 a4, .int .i64 a5])] w (KeptByNo w) := by
  go_enter Try.func40, Try.ntmps40
  go_wp2_with (go_at_call 77; (with_reducible refine (l2Sheet_no _ _ _ _ _ _ (by assumption) _).mono ?_); rintro e w1 ⟨rfl, hb⟩; obtain ⟨hc, hf, hT, hz⟩ := bfacts hb; (try simp only [World.size_alloc, World.size_setCell, World.size_drew, size_drewN] at hc hf hT hz); (try (have hzA := Nat.lt_of_succ_le hz)); (try (have hl0 : w.heap.size ≤ w1.heap.size := by omega)); (try (have hz0 : w.heap.size < w1.heap.size := by omega)); (try (have hz1 : w.heap.size + 1 < w1.heap.size := by omega)); (try (have hz2 : w.heap.size + 1 + 1 < w1.heap.size := by omega)); (try (have hz3 : w.heap.size + 1 + 1 + 1 < w1.heap.size := by omega)); (try (have hz4 : w.heap.size + 1 + 1 + 1 + 1 < w1.heap.size := by omega)))
  go_ret2
  exact ⟨_, _, rfl, (by repeat (first | with_reducible exact Below.refl _ _ | with_reducible assumption | with_reducible refine Below.drew ?_ | with_reducible refine below_drewN ?_ _ | with_reducible refine Below.alloc ?_ ?_ _ | with_reducible refine Below.setCell ?_ ?_ _ | with_reducible refine Below.trans ?_ (Below.mono (by assumption) ?_) | omega | (simp <;> omega)))⟩

theorem eqS_nil (a b : Option Addr) (c d : Nat) (w : World) : Calls Try.prog 42 #[.slice a 0 c, .slice b 0 d] w fun e w' => e = .returned (.bool true) ∧ w = w' := by
  go_enter Try.func42, Try.ntmps42
  go_wp2
  refine wp_loop_rounds 1 ?_
  rw [rounds_succ]
  go_wp2
  go_ret
  exact ⟨rfl, rfl⟩
theorem mark_nil (a : Option Addr) (c : Nat) (w : World) : Calls Try.prog 43 #[.slice a 0 c, .int .i64 1] w fun e w' => e = .returned (.int .i64 1) ∧ w = w' := by
  go_enter Try.func43, Try.ntmps43
  go_wp2
  refine wp_loop_rounds 1 ?_
  rw [rounds_succ]
  go_wp2
  go_ret
  exact ⟨rfl, rfl⟩
theorem held_nil (a : Option Addr) (c : Nat) (w : World) : Calls Try.prog 44 #[.slice a 0 c, .int .i64 1] w fun e w' => e = .returned (.int .i64 1) ∧ w = w' := by
  go_enter Try.func44, Try.ntmps44
  go_wp2
  refine wp_loop_rounds 1 ?_
  rw [rounds_succ]
  go_wp2
  go_ret
  exact ⟨rfl, rfl⟩

set_option maxRecDepth 100000 in
theorem implCountForms_ok (X : Nat) (hX : Vs X) (w : World) : Calls Try.prog 46 #[(.agg #[.int .i64 (row X 0), .int .i64 (row X 1), .int .i64 (row X 2), .int .i64 (row X 3), .int .i64 (row X 4), .int .i64 (row X 5)])] w fun e w' => e = .returned (.tuple #[.int .i64 (288 / ((kpL X).length : Int)), .bool true]) ∧ Below w.heap.size w w' := by
  have hp := kpL_pos X hX
  have hp' : 1 ≤ ((kpL X).length : Int) := by omega
  have hl := kpL_le X
  go_enter Try.func46, Try.ntmps46
  go_wp2_with (first | (go_at_call 79; (with_reducible refine (setOf_ok _ hX _).mono ?_); rintro e w1 ⟨rfl, hb⟩; obtain ⟨hc, hf, hT, hz⟩ := bfacts hb; (try simp only [World.size_alloc, World.size_setCell, World.size_drew, size_drewN] at hc hf hT hz); (try (have hzA := Nat.lt_of_succ_le hz)); (try (have hl0 : w.heap.size ≤ w1.heap.size := by omega)); (try (have hz0 : w.heap.size < w1.heap.size := by omega)); (try (have hz1 : w.heap.size + 1 < w1.heap.size := by omega)); (try (have hz2 : w.heap.size + 1 + 1 < w1.heap.size := by omega)); (try (have hz3 : w.heap.size + 1 + 1 + 1 < w1.heap.size := by omega)); (try (have hz4 : w.heap.size + 1 + 1 + 1 + 1 < w1.heap.size := by omega))) | (go_at_call 95; (with_reducible refine (keptBy_any X hX _).mono ?_); rintro e w1 ⟨g1, cap1, rfl, q1, q2, q3, q4, hb⟩; obtain ⟨hc, hf, hT, hz⟩ := bfacts hb; (try simp only [World.size_alloc, World.size_setCell, World.size_drew, size_drewN] at hc hf hT hz); (try (have hzA := Nat.lt_of_succ_le hz)); (try (have hl0 : w.heap.size ≤ w1.heap.size := by omega)); (try (have hz0 : w.heap.size < w1.heap.size := by omega)); (try (have hz1 : w.heap.size + 1 < w1.heap.size := by omega)); (try (have hz2 : w.heap.size + 1 + 1 < w1.heap.size := by omega)); (try (have hz3 : w.heap.size + 1 + 1 + 1 < w1.heap.size := by omega)); (try (have hz4 : w.heap.size + 1 + 1 + 1 + 1 < w1.heap.size := by omega))))
  go_ret2
  exact ⟨by simp, (by repeat (first | with_reducible exact Below.refl _ _ | with_reducible assumption | with_reducible refine Below.drew ?_ | with_reducible refine below_drewN ?_ _ | with_reducible refine Below.alloc ?_ ?_ _ | with_reducible refine Below.setCell ?_ ?_ _ | with_reducible refine Below.trans ?_ (Below.mono (by assumption) ?_) | omega | (simp <;> omega)))⟩
set_option maxRecDepth 100000 in
theorem specCountForms_ok (X : Nat) (hX : Vs X) (w : World) : Calls Try.prog 45 #[(.agg #[.int .i64 (row X 0), .int .i64 (row X 1), .int .i64 (row X 2), .int .i64 (row X 3), .int .i64 (row X 4), .int .i64 (row X 5)])] w fun e w' => e = .returned (.tuple #[.int .i64 (288 / ((kpL X).length : Int)), .bool true]) ∧ Below w.heap.size w w' := by
  have hp := kpL_pos X hX
  have hp' : 1 ≤ ((kpL X).length : Int) := by omega
  have hl := kpL_le X
  go_enter Try.func45, Try.ntmps45
  go_wp2_with (first | (go_at_call 77; (with_reducible refine (l2Sheet_ok _ _).mono ?_); rintro e w1 ⟨rfl, hb⟩; obtain ⟨hc, hf, hT, hz⟩ := bfacts hb; (try simp only [World.size_alloc, World.size_setCell, World.size_drew, size_drewN] at hc hf hT hz); (try (have hzA := Nat.lt_of_succ_le hz)); (try (have hl0 : w.heap.size ≤ w1.heap.size := by omega)); (try (have hz0 : w.heap.size < w1.heap.size := by omega)); (try (have hz1 : w.heap.size + 1 < w1.heap.size := by omega)); (try (have hz2 : w.heap.size + 1 + 1 < w1.heap.size := by omega)); (try (have hz3 : w.heap.size + 1 + 1 + 1 < w1.heap.size := by omega)); (try (have hz4 : w.heap.size + 1 + 1 + 1 + 1 < w1.heap.size := by omega))) | (go_at_call 93; (with_reducible refine (l3Kept_any X hX _).mono ?_); rintro e w1 ⟨g1, cap1, rfl, q1, q2, q3, q4, hb⟩; obtain ⟨hc, hf, hT, hz⟩ := bfacts hb; (try simp only [World.size_alloc, World.size_setCell, World.size_drew, size_drewN] at hc hf hT hz); (try (have hzA := Nat.lt_of_succ_le hz)); (try (have hl0 : w.heap.size ≤ w1.heap.size := by omega)); (try (have hz0 : w.heap.size < w1.heap.size := by omega)); (try (have hz1 : w.heap.size + 1 < w1.heap.size := by omega)); (try (have hz2 : w.heap.size + 1 + 1 < w1.heap.size := by omega)); (try (have hz3 : w.heap.size + 1 + 1 + 1 < w1.heap.size := by omega)); (try (have hz4 : w.heap.size + 1 + 1 + 1 + 1 < w1.heap.size := by omega))))
  go_ret2
  exact ⟨by simp, (by repeat (first | with_reducible exact Below.refl _ _ | with_reducible assumption | with_reducible refine Below.drew ?_ | with_reducible refine below_drewN ?_ _ | with_reducible refine Below.alloc ?_ ?_ _ | with_reducible refine Below.setCell ?_ ?_ _ | with_reducible refine Below.trans ?_ (Below.mono (by assumption) ?_) | omega | (simp <;> omega)))⟩
set_option maxRecDepth 100000 in
theorem implCountForms_no (a0 a1 a2 a3 a4 a5 : Int) (hn : ¬ Ok6 a0 a1 a2 a3 a4 a5) (w : World) : Calls Try.prog 46 #[(.agg #[.int .i64 a0, .int .i64 a1, .int .i64 a2, .int .i64 a3, .int .i64 a4, .int .i64 a5])] w fun e w' => e = .returned (.tuple #[.int .i64 0, .bool false]) ∧ Below w.heap.size w w' := by
  go_enter Try.func46, Try.ntmps46
  go_wp2_with (go_at_call 79; (with_reducible refine (setOf_no _ _ _ _ _ _ (by assumption) _).mono ?_); rintro e w1 ⟨rfl, hb⟩; obtain ⟨hc, hf, hT, hz⟩ := bfacts hb; (try simp only [World.size_alloc, World.size_setCell, World.size_drew, size_drewN] at hc hf hT hz); (try (have hzA := Nat.lt_of_succ_le hz)); (try (have hl0 : w.heap.size ≤ w1.heap.size := by omega)); (try (have hz0 : w.heap.size < w1.heap.size := by omega)); (try (have hz1 : w.heap.size + 1 < w1.heap.size := by omega)); (try (have hz2 : w.heap.size + 1 + 1 < w1.heap.size := by omega)); (try (have hz3 : w.heap.size + 1 + 1 + 1 < w1.heap.size := by omega)); (try (have hz4 : w.heap.size + 1 + 1 + 1 + 1 < w1.heap.size := by omega)))
  go_ret2
  exact ⟨rfl, (by repeat (first | with_reducible exact Below.refl _ _ | with_reducible assumption | with_reducible refine Below.drew ?_ | with_reducible refine below_drewN ?_ _ | with_reducible refine Below.alloc ?_ ?_ _ | with_reducible refine Below.setCell ?_ ?_ _ | with_reducible refine Below.trans ?_ (Below.mono (by assumption) ?_) | omega | (simp <;> omega)))⟩
set_option maxRecDepth 100000 in
theorem specCountForms_no (a0 a1 a2 a3 a4 a5 : Int) (hn : ¬ Ok6 a0 a1 a2 a3 a4 a5) (w : World) : Calls Try.prog 45 #[(.agg #[.int .i64 a0, .int .i64 a1, .int .i64 a2, .int .i64 a3, .int .i64 a4, .int .i64 a5])] w fun e w' => e = .returned (.tuple #[.int .i64 0, .bool false]) ∧ Below w.heap.size w w' := by
  go_enter Try.func45, Try.ntmps45
  go_wp2_with (go_at_call 77; (with_reducible refine (l2Sheet_no _ _ _ _ _ _ (by assumption) _).mono ?_); rintro e w1 ⟨rfl, hb⟩; obtain ⟨hc, hf, hT, hz⟩ := bfacts hb; (try simp only [World.size_alloc, World.size_setCell, World.size_drew, size_drewN] at hc hf hT hz); (try (have hzA := Nat.lt_of_succ_le hz)); (try (have hl0 : w.heap.size ≤ w1.heap.size := by omega)); (try (have hz0 : w.heap.size < w1.heap.size := by omega)); (try (have hz1 : w.heap.size + 1 < w1.heap.size := by omega)); (try (have hz2 : w.heap.size + 1 + 1 < w1.heap.size := by omega)); (try (have hz3 : w.heap.size + 1 + 1 + 1 < w1.heap.size := by omega)); (try (have hz4 : w.heap.size + 1 + 1 + 1 + 1 < w1.heap.size := by omega)))
  go_ret2
  exact ⟨rfl, (by repeat (first | with_reducible exact Below.refl _ _ | with_reducible assumption | with_reducible refine Below.drew ?_ | with_reducible refine below_drewN ?_ _ | with_reducible refine Below.alloc ?_ ?_ _ | with_reducible refine Below.setCell ?_ ?_ _ | with_reducible refine Below.trans ?_ (Below.mono (by assumption) ?_) | omega | (simp <;> omega)))⟩
end Go.Proofs.Ytidaoalnngmoaaa
