/-
  The black cells as pairs: contracts of the program's cellOf and cellsOf. No conditions.
-/
import Derived.Test.YtphoapmmliiimaaF2a
namespace Go.Proofs.Ytphoapmmliiimaa
open Go.RowKit
set_option linter.unusedSimpArgs false
set_option linter.unusedVariables false

/-- cells as numbers one behind another -/
def prI (L : List Nat) : List Int := L.flatMap fun n : Nat => [((n % 6 : Nat) : Int), ((n / 6 : Nat) : Int)]
theorem pairs_prI (L : List Nat) : pairs L = (prI L).map (Value.int .i64) := by
  unfold pairs prI
  rw [List.map_flatMap]
  rfl
theorem prI_len (L : List Nat) : (prI L).length = L.length * 2 := by
  have h := pairs_len L
  rw [pairs_prI, List.length_map] at h
  exact h
/-- the j-th number of these cells -/
def prF (L : List Nat) (j : Nat) : Int := (prI L).getD j 0
theorem OwnsPairs.row {w : World} {B : Nat} {v : Value} {L : List Nat} (h : OwnsPairs w B v L) :
    ∃ g cap, v = .slice (some ⟨g, 0, none⟩) L.length cap ∧ L.length ≤ cap ∧ cap ≤ maxLen ∧ B ≤ g ∧ SlI w g (L.length * 2) (prF L) := by
  obtain ⟨hown, hnn⟩ := h
  have hlen := prI_len L
  rcases hown.2 with ⟨h1, _⟩ | ⟨g, cap, cur, hv, hg, hh, hc1, hc2, hc3, hc4⟩
  · exact absurd h1 hnn
  · refine ⟨g, cap, hv, hc1, hc2, hg, ?_, fun o => by simp [World.frozen?, hh], (Array.getElem?_eq_some_iff.1 hh).1⟩
    intro j hj
    have h5 : (List.take (L.length * 2) cur.toList)[j]? = some (.int .i64 (prF L j)) := by
      rw [hc4, pairs_prI, List.getElem?_map, List.getElem?_eq_getElem (by omega)]
      unfold prF
      rw [List.getD_eq_getElem?_getD, List.getElem?_eq_getElem (by omega)]
      rfl
    rw [List.getElem?_take, if_pos hj] at h5
    simpa [World.cell?, hh] using h5
theorem OwnsInts.row {w : World} {B : Nat} {v : Value} {L : List Nat} (h : OwnsInts w B v L) :
    ∃ g cap, v = .slice (some ⟨g, 0, none⟩) L.length cap ∧ g < w.heap.size ∧ ∀ j c : Nat, L[j]? = some c → w.cell? ⟨g, j, none⟩ = some (.int .i64 (c : Int)) := by
  obtain ⟨hown, hnn⟩ := h
  rcases hown.2 with ⟨h1, _⟩ | ⟨g, cap, cur, hv, hg, hh, hc1, hc2, hc3, hc4⟩
  · exact absurd h1 hnn
  · refine ⟨g, cap, hv, (Array.getElem?_eq_some_iff.1 hh).1, ?_⟩
    intro j c hj
    have hjl : j < L.length := (List.getElem?_eq_some_iff.1 hj).1
    have h5 : (List.take (L.length * 1) cur.toList)[j]? = some (.int .i64 (c : Int)) := by
      rw [hc4, List.getElem?_map, hj]
      rfl
    rw [List.getElem?_take, if_pos (by omega)] at h5
    simpa [World.cell?, hh] using h5
set_option maxRecDepth 100000 in
theorem cellOf_any (k : Nat) (hk : k < 36) (w : World) : Calls Try.prog 72 #[.int .i64 (k : Int)] w fun e w' => e = .returned (.agg #[.int .i64 ((k : Int) % 6), .int .i64 ((k : Int) / 6)]) ∧ Below w.heap.size w w' := by
  go_enter Try.func72, Try.ntmps72
  go_wp2
  exact bodyPost_ret (v := .agg #[.int .i64 ((k : Int) % 6), .int .i64 ((k : Int) / 6)]) (by simp [results, Try.results72, go_sem]) rfl ⟨rfl, (by repeat (first | with_reducible exact Below.refl _ _ | with_reducible assumption | with_reducible refine Below.drew ?_ | with_reducible refine below_drewN ?_ _ | with_reducible refine Below.alloc ?_ ?_ _ | with_reducible refine Below.setCell ?_ ?_ _ | with_reducible refine Below.trans ?_ (Below.mono (by assumption) ?_) | omega | (simp <;> omega)))⟩
/-- what cellsOf leaves -/
def CoEnd (L : List Nat) (w : World) (e : Ending) (w' : World) : Prop :=
  ∃ g cap : Nat, e = .returned (.slice (some ⟨g, 0, none⟩) L.length cap) ∧ w.heap.size ≤ g ∧ SlI w' g (L.length * 2) (prF L) ∧ Below w.heap.size w w'
def CoRel (L : List Nat) (w : World) (o i : Value) (wr : World) : Prop :=
  ∃ k : Nat, k ≤ L.length ∧ i = .int .i64 (k : Int) ∧ OwnsPairs wr w.heap.size o (L.take k) ∧ Below w.heap.size w wr
set_option maxRecDepth 100000 in
set_option maxHeartbeats 1600000 in
theorem cellsOf_any (v : Value) (L : List Nat) (hL : L.length ≤ 36) (hlt : ∀ c ∈ L, c < 36) (w : World) (B : Nat) (ho : OwnsInts w B v L) : Calls Try.prog 59 #[v] w (CoEnd L w) := by
  obtain ⟨i0, hi, iz0, iz1, iz2⟩ := info_parts infoPair
  obtain ⟨gl, cl, rfl, hgl, hcl⟩ := OwnsInts.row ho
  have HC := Lib.hid hcl
  have HL := Lib.hid hlt
  clear hcl ho hlt
  go_enter Try.func59, Try.ntmps59
  go_wp2
  go_loopw [3, 9] (CoRel L w) (fun _ i _ => L.length - (intOf i).toNat)
  case atStart => exact ⟨0, Nat.zero_le _, rfl, ownsP_empty w w.heap.size _ (Nat.le_refl _) rfl, (by repeat (first | with_reducible exact Below.refl _ _ | with_reducible assumption | with_reducible refine Below.drew ?_ | with_reducible refine below_drewN ?_ _ | with_reducible refine Below.alloc ?_ ?_ _ | with_reducible refine Below.setCell ?_ ?_ _ | with_reducible refine Below.trans ?_ (Below.mono (by assumption) ?_) | omega | (simp <;> omega)))⟩
  case round =>
    obtain ⟨k, hk, rfl, ⟨hown, hnn⟩, hbw⟩ := hrel
    have hbsz := hbw.size
    have hle : (L.take k).length ≤ 36 := by rw [List.length_take]; omega
    by_cases hk2 : k < L.length
    · have hk2' : (k : Int) < (L.length : Int) := by omega
      obtain ⟨c, ec⟩ : ∃ c, L[k]? = some c := ⟨L[k], List.getElem?_eq_getElem hk2⟩
      have hc36 : c < 36 := HL.out c (List.mem_of_getElem? ec)
      have hcell : wr.cell? ⟨gl, k, none⟩ = some (.int .i64 (c : Int)) := (hbw.cell (p := ⟨gl, k, none⟩) hgl).trans (HC.out k c ec)
      have htk : L.take (k + 1) = L.take k ++ [c] := by rw [List.take_add_one, ec]; rfl
      have HT := Lib.hid htk
      clear htk ec
      go_wp2_with (first | (go_at_call 72; (with_reducible refine (cellOf_any c hc36 _).mono ?_); rintro e w1 ⟨rfl, hb⟩; obtain ⟨hc, hf, hT, hz⟩ := bfacts hb; (try simp only [World.size_alloc, World.size_setCell, World.size_drew, size_drewN] at hc hf hT hz); (try (have hzA := Nat.lt_of_succ_le hz)); (try (have hl0 : w.heap.size ≤ w1.heap.size := by omega)); (try (have hz0 : w.heap.size < w1.heap.size := by omega)); (try (have hz1 : w.heap.size + 1 < w1.heap.size := by omega)); (try (have hz2 : w.heap.size + 1 + 1 < w1.heap.size := by omega)); (try (have hz3 : w.heap.size + 1 + 1 + 1 < w1.heap.size := by omega)); (try (have hz4 : w.heap.size + 1 + 1 + 1 + 1 < w1.heap.size := by omega))) | (at_builtin; refine wpList_append_own _ rfl _ _ 40 rfl w.heap.size 68 i0 (.agg #[.int .i64 0, .int .i64 0]) 2 16 Try.underlying40 hi iz0 iz1 iz2 rfl (by decide) _ _ _ rfl ((owns_below hb hown).alloc _) ⟨w1.heap.size, 0, none⟩ 1 1 [.int .i64 ((c : Int) % 6), .int .i64 ((c : Int) / 6)] rfl rfl ?c1 ?c2 ?c3 ?c4 ?c5 ?_))
      case c1 =>
        intro j u hj
        match j, hj with
        | 0, hj => simp at hj; subst hj; simp [Addr.add]
        | 1, hj => simp at hj; subst hj; simp [Addr.add]
      case c2 =>
        intro u hu
        simp at hu
        rcases hu with rfl | rfl <;> rfl
      case c3 => unfold maxLen; omega
      case c4 => omega
      case c5 => have := hb.size; simp; omega
      intro v' w2 hown' hgrow hnil
      have hB : Below w.heap.size w w2 := ((hbw.trans (hb.mono hbw.size)).alloc (by have := hb.size; omega) _).grown hgrow (by have := hb.size; simp; omega) (fun j hj => (hown.lt j hj).1)
      have hN : v' ≠ .slice none 0 0 := fun h => by first | exact hnil h | exact hnn (hnil.1 h).1
      have hO : OwnsPairs w2 w.heap.size v' (L.take (k + 1)) := by
        unfold OwnsPairs
        have hlk : (L.take k).length = k := by rw [List.length_take]; omega
        have h6 := hown'
        rw [HT.out, pairs_snoc, List.length_append, hlk]
        refine ⟨?_, hN⟩
        rw [show ((c % 6 : Nat) : Int) = (c : Int) % 6 from rfl, show ((c / 6 : Nat) : Int) = (c : Int) / 6 from rfl]
        exact h6
      clear hown' hgrow hnil hown hnn hN
      go_wp2
      go_roundw
      case rel => exact ⟨k + 1, by omega, by go_num, hO, hB⟩
      case measure => simp [intOf]; omega
    · have e : k = L.length := by omega
      subst e
      have hr := OwnsPairs.row ⟨hown, hnn⟩
      rw [List.take_length] at hr
      obtain ⟨g, cap, rfl, q1, q2, q3, q4⟩ := hr
      go_wp2
      go_ret
      exact ⟨g, cap, rfl, q3, q4, hbw⟩
end Go.Proofs.Ytphoapmmliiimaa
