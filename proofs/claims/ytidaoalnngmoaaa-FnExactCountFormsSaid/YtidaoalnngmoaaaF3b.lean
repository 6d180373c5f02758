/-
  The motions that keep a sheet: contracts of keptBy, of the program and of the reference. No conditions.
-/
import Derived.Test.YtidaoalnngmoaaaF3a
import Derived.Test.YtidaoalnngmoaaaDi
import Derived.Test.YtidaoalnngmoaaaDk
namespace Go.Proofs.Ytidaoalnngmoaaa
open Go.RowKit
set_option linter.unusedSimpArgs false
set_option linter.unusedVariables false

/-- the numbers below n of the motions that keep X -/
def kpN (X : Nat) : Nat → List Nat
  | 0 => []
  | k + 1 => if mvN X k = X then kpN X k ++ [k] else kpN X k
def kpL (X : Nat) : List Nat := kpN X 288
theorem kpN_len (X : Nat) : ∀ n, (kpN X n).length ≤ n
  | 0 => Nat.le_refl _
  | n + 1 => by
      have := kpN_len X n
      unfold kpN
      split
      · rw [List.length_append]; simp; omega
      · omega
/-- motions as numbers one behind another -/
def trI (L : List Nat) : List Int := L.flatMap fun n : Nat => [(n : Int) / 36, (n : Int) % 36 / 6, (n : Int) % 6]
theorem trI_snoc (L : List Nat) (n : Nat) : trI (L ++ [n]) = trI L ++ [(n : Int) / 36, (n : Int) % 36 / 6, (n : Int) % 6] := by
  unfold trI; simp
theorem trI_len (L : List Nat) : (trI L).length = L.length * 3 := by
  unfold trI
  induction L with
  | nil => rfl
  | cons a L ih =>
    rw [List.flatMap_cons, List.length_append, ih]
    simp only [List.length_cons, List.length_nil]
    omega
theorem infoTri : (Try.prog.info? 39).map (fun i => (i.zero, i.size, i.bytes)) = some (some (.agg #[.int .i64 0, .int .i64 0, .int .i64 0]), 3, 24) := by kernel_rfl
/-- the slice value v is no nil slice and holds the motions of L -/
def OwnsT (w : World) (B : Nat) (v : Value) (L : List Nat) : Prop :=
  w.ownsRow B 39 3 v L.length ((trI L).map (Value.int .i64)) ∧ v ≠ .slice none 0 0
theorem ownsT_empty (w : World) (B g : Nat) (hB : B ≤ w.heap.size) (hg : g = w.heap.size) : OwnsT (w.alloc (.cells #[] 39)) B (.slice (some ⟨g, 0, none⟩) 0 0) [] := by
  subst hg
  exact ⟨World.ownsRow_lit (e := 39) w #[] 0 hB (by unfold maxLen; omega) (by simp), by simp⟩
/-- the j-th number of these motions -/
def trF (L : List Nat) (j : Nat) : Int := (trI L).getD j 0
theorem OwnsT.row {w : World} {B : Nat} {v : Value} {L : List Nat} (h : OwnsT w B v L) :
    ∃ g cap, v = .slice (some ⟨g, 0, none⟩) L.length cap ∧ L.length ≤ cap ∧ cap ≤ maxLen ∧ B ≤ g ∧ SlI w g (L.length * 3) (trF L) := by
  obtain ⟨hown, hnn⟩ := h
  have hlen := trI_len L
  rcases hown.2 with ⟨h1, _⟩ | ⟨g, cap, cur, hv, hg, hh, hc1, hc2, hc3, hc4⟩
  · exact absurd h1 hnn
  · refine ⟨g, cap, hv, hc1, hc2, hg, ?_, fun o => by simp [World.frozen?, hh], (Array.getElem?_eq_some_iff.1 hh).1⟩
    intro j hj
    have h5 : (List.take (L.length * 3) cur.toList)[j]? = some (.int .i64 (trF L j)) := by
      rw [hc4, List.getElem?_map, List.getElem?_eq_getElem (by omega)]
      unfold trF
      rw [List.getD_eq_getElem?_getD, List.getElem?_eq_getElem (by omega)]
      rfl
    rw [List.getElem?_take, if_pos hj] at h5
    simpa [World.cell?, hh] using h5
/-- what keptBy leaves -/
def KeptEnd (X : Nat) (w : World) (e : Ending) (w' : World) : Prop :=
  ∃ g cap : Nat, e = .returned (.slice (some ⟨g, 0, none⟩) (kpL X).length cap) ∧ (kpL X).length ≤ cap ∧ cap ≤ maxLen ∧ w.heap.size ≤ g ∧ SlI w' g ((kpL X).length * 3) (trF (kpL X)) ∧ Below w.heap.size w w'

def KbRel (X : Nat) (w : World) (o i : Value) (wr : World) : Prop :=
  ∃ k : Nat, k ≤ 288 ∧ i = .int .i64 (k : Int) ∧ OwnsT wr w.heap.size o (kpN X k) ∧ Below w.heap.size w wr
set_option maxRecDepth 100000 in
set_option maxHeartbeats 1600000 in
theorem keptBy_any (X : Nat) (hX : Vs X) (w : World) : Calls Try.prog 95 #[.int .u64 (X : Int)] w (KeptEnd X w) := by
  obtain ⟨i0, hi, iz0, iz1, iz2⟩ := info_parts infoTri
  go_enter Try.func95, Try.ntmps95
  go_wp2
  go_loopw [3, 7] (KbRel X w) (fun _ i _ => 288 - (intOf i).toNat)
  case atStart => exact ⟨0, Nat.zero_le _, rfl, ownsT_empty w w.heap.size _ (Nat.le_refl _) rfl, (by repeat (first | with_reducible exact Below.refl _ _ | with_reducible assumption | with_reducible refine Below.drew ?_ | with_reducible refine below_drewN ?_ _ | with_reducible refine Below.alloc ?_ ?_ _ | with_reducible refine Below.setCell ?_ ?_ _ | with_reducible refine Below.trans ?_ (Below.mono (by assumption) ?_) | omega | (simp <;> omega)))⟩
  case round =>
    obtain ⟨k, hk, rfl, ⟨hown, hnn⟩, hbw⟩ := hrel
    have hle := kpN_len X k
    have hbsz := hbw.size
    by_cases hlt : k < 288
    · have hlt' : (k : Int) < 288 := by omega
      by_cases hkm : mvN X k = X
      · have hb0 := behind_at X k hX hlt
        rw [hkm] at hb0
        have hBE := Lib.hid hb0
        have hKM := Lib.hid hkm
        clear hb0 hkm
        go_wp2_with (go_at_call 117; (with_reducible refine (motionAt_any k hlt _).mono ?_); rintro e w1 ⟨rfl, hb⟩; obtain ⟨hc, hf, hT, hz⟩ := bfacts hb; (try simp only [World.size_alloc, World.size_setCell, World.size_drew, size_drewN] at hc hf hT hz); (try (have hzA := Nat.lt_of_succ_le hz)); (try (have hl0 : w.heap.size ≤ w1.heap.size := by omega)); (try (have hz0 : w.heap.size < w1.heap.size := by omega)); (try (have hz1 : w.heap.size + 1 < w1.heap.size := by omega)); (try (have hz2 : w.heap.size + 1 + 1 < w1.heap.size := by omega)); (try (have hz3 : w.heap.size + 1 + 1 + 1 < w1.heap.size := by omega)); (try (have hz4 : w.heap.size + 1 + 1 + 1 + 1 < w1.heap.size := by omega)))
        have hown1 := owns_below hb hown
        have hBa := hbw.trans (hb.mono hbw.size)
        obtain ⟨wa, rfl⟩ : ∃ wa : World, wa = w1 := ⟨_, rfl⟩
        go_wp2_with (first | (go_at_call 88; (with_reducible refine (hBE.out _).mono ?_); rintro e w1 ⟨rfl, hb⟩; obtain ⟨hc, hf, hT, hz⟩ := bfacts hb; (try simp only [World.size_alloc, World.size_setCell, World.size_drew, size_drewN] at hc hf hT hz); (try (have hzA := Nat.lt_of_succ_le hz)); (try (have hl0 : w.heap.size ≤ w1.heap.size := by omega)); (try (have hz0 : w.heap.size < w1.heap.size := by omega)); (try (have hz1 : w.heap.size + 1 < w1.heap.size := by omega)); (try (have hz2 : w.heap.size + 1 + 1 < w1.heap.size := by omega)); (try (have hz3 : w.heap.size + 1 + 1 + 1 < w1.heap.size := by omega)); (try (have hz4 : w.heap.size + 1 + 1 + 1 + 1 < w1.heap.size := by omega)); (try (have gxwaheapsize : wa.heap.size < w1.heap.size := by omega))) | (at_builtin; refine wpList_append_own _ rfl _ _ 52 rfl w.heap.size 39 i0 (.agg #[.int .i64 0, .int .i64 0, .int .i64 0]) 3 24 Try.underlying52 hi iz0 iz1 iz2 rfl (by decide) _ _ _ rfl ((owns_below hb (hown1.alloc _)).alloc _) ⟨w1.heap.size, 0, none⟩ 1 1 [.int .i64 ((k : Int) / 36), .int .i64 ((k : Int) % 36 / 6), .int .i64 ((k : Int) % 6)] rfl rfl ?c1 ?c2 ?c3 ?c4 ?c5 ?_))
        case c1 =>
          intro j u hj
          match j, hj with
          | 0, hj => simp at hj; subst hj; simp [Addr.add]
          | 1, hj => simp at hj; subst hj; simp [Addr.add]
          | 2, hj => simp at hj; subst hj; simp [Addr.add]
        case c2 =>
          intro u hu
          simp at hu
          rcases hu with rfl | rfl | rfl <;> rfl
        case c3 => unfold maxLen; omega
        case c4 => omega
        case c5 => have := hBa.size; simp; omega
        intro v' w2 hown' hgrow hnil
        have hBb : Below w.heap.size w w1 := (by repeat (first | with_reducible exact Below.refl _ _ | with_reducible assumption | with_reducible refine Below.drew ?_ | with_reducible refine below_drewN ?_ _ | with_reducible refine Below.alloc ?_ ?_ _ | with_reducible refine Below.setCell ?_ ?_ _ | with_reducible refine Below.trans ?_ (Below.mono (by assumption) ?_) | omega | (simp <;> omega)))
        have hsz1 := hBb.size
        have hB : Below w.heap.size w w2 := (hBb.alloc hBb.size _).grown hgrow (by simp; omega) (fun j hj => by have := (hown.lt j hj).1; omega)
        have hN : v' ≠ .slice none 0 0 := fun h => by first | exact hnil h | exact hnn (hnil.1 h).1
        have hO : OwnsT w2 w.heap.size v' (kpN X (k + 1)) := by
          unfold kpN OwnsT
          rw [if_pos hKM.out, trI_snoc]
          exact ⟨by simpa using hown', hN⟩
        clear hown' hgrow hnil hown hnn hN hown1
        go_wp2
        go_roundw
        case rel => exact ⟨k + 1, by omega, by go_num, hO, hB⟩
        case measure => simp [intOf]; omega
      · have hb0 := behind_at X k hX hlt
        have hne : ¬ (((mvN X k : Nat) : Int) = (X : Int)) := by omega
        have hd : (((mvN X k : Nat) : Int) == (X : Int)) = false := by rw [beq_eq_false_iff_ne]; exact hne
        have hBE := Lib.hid hb0
        have hO : kpN X (k + 1) = kpN X k := by rw [kpN, if_neg hkm]
        have hOO := Lib.hid hO
        clear hb0 hkm hO
        go_wp2_with (go_at_call 117; (with_reducible refine (motionAt_any k hlt _).mono ?_); rintro e w1 ⟨rfl, hb⟩; obtain ⟨hc, hf, hT, hz⟩ := bfacts hb; (try simp only [World.size_alloc, World.size_setCell, World.size_drew, size_drewN] at hc hf hT hz); (try (have hzA := Nat.lt_of_succ_le hz)); (try (have hl0 : w.heap.size ≤ w1.heap.size := by omega)); (try (have hz0 : w.heap.size < w1.heap.size := by omega)); (try (have hz1 : w.heap.size + 1 < w1.heap.size := by omega)); (try (have hz2 : w.heap.size + 1 + 1 < w1.heap.size := by omega)); (try (have hz3 : w.heap.size + 1 + 1 + 1 < w1.heap.size := by omega)); (try (have hz4 : w.heap.size + 1 + 1 + 1 + 1 < w1.heap.size := by omega)))
        have hown1 := owns_below hb hown
        have hBa := hbw.trans (hb.mono hbw.size)
        go_wp2_with (go_at_call 88; (with_reducible refine (hBE.out _).mono ?_); rintro e w1 ⟨rfl, hb⟩; obtain ⟨hc, hf, hT, hz⟩ := bfacts hb; (try simp only [World.size_alloc, World.size_setCell, World.size_drew, size_drewN] at hc hf hT hz); (try (have hzA := Nat.lt_of_succ_le hz)); (try (have hl0 : w.heap.size ≤ w1.heap.size := by omega)); (try (have hz0 : w.heap.size < w1.heap.size := by omega)); (try (have hz1 : w.heap.size + 1 < w1.heap.size := by omega)); (try (have hz2 : w.heap.size + 1 + 1 < w1.heap.size := by omega)); (try (have hz3 : w.heap.size + 1 + 1 + 1 < w1.heap.size := by omega)); (try (have hz4 : w.heap.size + 1 + 1 + 1 + 1 < w1.heap.size := by omega)))
        have hown2 := owns_below hb (hown1.alloc _)
        have hBb : Below w.heap.size w w1 := (by repeat (first | with_reducible exact Below.refl _ _ | with_reducible assumption | with_reducible refine Below.drew ?_ | with_reducible refine below_drewN ?_ _ | with_reducible refine Below.alloc ?_ ?_ _ | with_reducible refine Below.setCell ?_ ?_ _ | with_reducible refine Below.trans ?_ (Below.mono (by assumption) ?_) | omega | (simp <;> omega)))
        go_roundw
        case rel => exact ⟨k + 1, by omega, by go_num, by rw [hOO.out]; exact ⟨hown2, hnn⟩, hBb⟩
        case measure => simp [intOf]; omega
    · have e : k = 288 := by omega
      subst e
      obtain ⟨g, cap, rfl, q1, q2, q3, q4⟩ := OwnsT.row ⟨hown, hnn⟩
      go_wp2
      go_ret
      exact ⟨g, cap, rfl, q1, q2, q3, q4, hbw⟩
end Go.Proofs.Ytidaoalnngmoaaa
