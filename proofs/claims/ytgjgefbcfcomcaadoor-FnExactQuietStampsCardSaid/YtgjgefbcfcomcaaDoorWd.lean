/-
  The law's helpers on a slice of sheets that is an argument: its size, its copy: contracts. No conditions.
-/
import Derived.Test.YtgjgefbcfcomcaaDoorWb
import Derived.Test.YtgjgefbcfcomcaaDoorUc
import Derived.Deep.CutRange
namespace Go.Proofs.YtgjgefbcfcomcaaDoor
open Go.RowKit
set_option linter.unusedSimpArgs false
set_option linter.unusedVariables false

set_option maxRecDepth 100000 in
theorem sz_any (a : Option Addr) (n c : Nat) (hn : n ≤ maxLen) (w : World) : Calls Tryd.prog 22 #[.slice a n c, .int .i64 1048576] w fun e w' => e = .returned (.int .i64 (if (1048576 : Int) < (n : Int) then -1 else 1048576 - (n : Int))) ∧ w = w' := by
  by_cases h : (1048576 : Int) < (n : Int)
  · have h1 : (1048576 : Int) - (n : Int) < 0 := by omega
    have h2 : (n : Int) ≤ 9223372036854775807 := by unfold maxLen at hn; omega
    rw [if_pos h]
    go_enter Tryd.func22, Tryd.ntmps22
    go_wp2
    go_ret
    exact ⟨by first | rfl | simp, rfl⟩
  · have h1 : ¬ (1048576 : Int) - (n : Int) < 0 := by omega
    have h2 : (n : Int) ≤ 1048576 := by omega
    rw [if_neg h]
    go_enter Tryd.func22, Tryd.ntmps22
    go_wp2
    go_ret
    exact ⟨by first | rfl | simp, rfl⟩
/-- the first m cells of the block g hold the numbers Z; n cells are there -/
structure CpZ (w : World) (g n m : Nat) (Z : List Int) : Prop where
  held : ∀ j, j < m → w.cell? ⟨g, j, none⟩ = some (.int .i64 (Z.getD j 0))
  some : ∀ j, j < n → ∃ u, w.cell? ⟨g, j, none⟩ = some u
  free : ∀ j, w.frozen? ⟨g, j, none⟩ = false
theorem CpZ.set {w : World} {g n m : Nat} {Z : List Int} (h : CpZ w g n m Z) (hm : m < n) {z : Int} (hz : Z.getD m 0 = z) : CpZ (w.setCell ⟨g, m, none⟩ (.int .i64 z)) g n (m + 1) Z := by
  obtain ⟨u, hu⟩ := h.some m hm
  refine ⟨fun j hj => ?_, fun j hj => ?_, fun j => by rw [World.frozen?_setCell]; exact h.free j⟩
  · rw [set_at hu j]
    by_cases e : j = m
    · rw [if_pos e, e, hz]
    · rw [if_neg e]; exact h.held j (by omega)
  · rw [set_at hu j]
    by_cases e : j = m
    · rw [if_pos e]; exact ⟨_, rfl⟩
    · rw [if_neg e]; exact h.some j hj
theorem CpZ.below {w w' : World} {N g n m : Nat} {Z : List Int} (h : CpZ w g n m Z) (hb : Below N w w') (hg : g < N) : CpZ w' g n m Z := by
  have hc : ∀ o, w'.cell? ⟨g, o, none⟩ = w.cell? ⟨g, o, none⟩ := fun o => hb.cell (p := ⟨g, o, none⟩) hg
  exact ⟨fun j hj => by rw [hc]; exact h.held j hj, fun j hj => by rw [hc]; exact h.some j hj, fun j => by rw [hb.frozen (p := ⟨g, j, none⟩) hg]; exact h.free j⟩
theorem cpZ_start {w : World} {B g n cap : Nat} {e : TypeId} {xs : List Value} {Z : List Int} (h : w.ownsRow B e 6 (.slice (some ⟨g, 0, none⟩) n cap) n xs) : CpZ w g (n * 6) 0 Z := by
  refine ⟨fun j hj => by omega, fun j hj => ?_, fun j => World.ownsRow.frozenAt h j⟩
  have hl : j < xs.length := by rw [h.1]; exact hj
  have := h.cells (g := g) rfl j xs[j] (List.getElem?_eq_getElem hl)
  have e1 : (⟨g, 0, none⟩ : Addr).add j = ⟨g, j, none⟩ := by
    unfold Addr.add
    split <;> simp_all
  rw [e1] at this
  exact ⟨_, this⟩
/-- the argument: n sheets, valid or not, whose numbers are Z -/
def ReadsA (w : World) (a : Option Addr) (n : Nat) (Z : List Int) : Prop := 0 < n → ∃ g o : Nat, a = some ⟨g, o, none⟩ ∧ g < w.heap.size ∧ ∀ j, j < n * 6 → w.cell? ⟨g, o + j, none⟩ = some (.int .i64 (Z.getD j 0))
theorem ReadsA.below {w w' : World} {a : Option Addr} {n : Nat} {Z : List Int} (h : ReadsA w a n Z) (hb : Below w.heap.size w w') : ReadsA w' a n Z := fun hn => by
  obtain ⟨g, o, h1, h2, h3⟩ := h hn
  exact ⟨g, o, h1, Nat.lt_of_lt_of_le h2 hb.size, fun j hj => (hb.cell (p := ⟨g, o + j, none⟩) h2).trans (h3 j hj)⟩
theorem readsZ_mv {w w' : World} {v : Value} {n : Nat} {Z : List Int} (h : ReadsZ w v n Z) (hb : Below w.heap.size w w') : ReadsZ w' v n Z := by
  rcases h with h | ⟨g, cap, h1, h2, h3⟩
  · exact .inl h
  · exact .inr ⟨g, cap, h1, Nat.lt_of_lt_of_le h2 hb.size, fun j hj => (hb.cell (p := ⟨g, j, none⟩) h2).trans (h3 j hj)⟩
def ToRel (g n : Nat) (Z : List Int) (w : World) (i : Value) (wr : World) : Prop := ∃ k : Nat, k ≤ n ∧ i = .int .i64 (k : Int) ∧ CpZ wr g (n * 6) (k * 6) Z ∧ g < wr.heap.size ∧ Below w.heap.size w wr
set_option maxRecDepth 100000 in
set_option maxHeartbeats 8000000 in
theorem toSheetS_any (a : Option Addr) (n c : Nat) (Z : List Int) (hn : n ≤ 1048576) (w : World) (hr : ReadsA w a n Z) :
    Calls Tryd.prog 24 #[.slice a n c] w fun e w' => e = .returned (.slice (some ⟨w.heap.size, 0, none⟩) n n) ∧ ReadsZ w' (.slice (some ⟨w.heap.size, 0, none⟩) n n) n Z ∧ Below w.heap.size w w' := by
  obtain ⟨j0, hj, jz0, jz1, jz2⟩ := info_parts infoSheet
  obtain ⟨wm, hmk, hown, hgr⟩ := run_makeSlice_full (P := Tryd.prog) (w := w) w.heap.size 37 27 j0 (.agg #[.int .i64 0, .int .i64 0, .int .i64 0, .int .i64 0, .int .i64 0, .int .i64 0]) 6 Tryd.underlying37 hj jz0 jz1 .i64 .i64 n (by omega) (by rw [jz2]; omega) (by unfold maxLen; omega) (Nat.le_refl _)
  have hC0 : CpZ wm w.heap.size (n * 6) 0 Z := cpZ_start hown
  have hgm : w.heap.size < wm.heap.size := (hown.lt _ rfl).2
  have hB0 : Below w.heap.size w wm := ⟨hgr.os, hgr.tape, hgr.output, hgr.size, fun k hk => hgr.block k hk (by simp)⟩
  clear hown hgr
  go_enter Tryd.func24, Tryd.ntmps24
  go_wp2
  go_loopw [4] (ToRel w.heap.size n Z w) (fun i _ => n - (intOf i).toNat)
  case atStart => exact ⟨0, Nat.zero_le _, rfl, hC0, hgm, hB0⟩
  case round =>
    clear hC0 hgm hB0
    obtain ⟨k, hk, rfl, hC, hgw, hbw⟩ := hrel
    by_cases hlt : k < n
    · have hlt' : (k : Int) < (n : Int) := by omega
      have hnI : (n : Int) ≤ 1048576 := by omega
      obtain ⟨g, o, rfl, hg, hcell⟩ := hr (by omega)
      have e0 : wr.cell? ⟨g, o + k * 6, none⟩ = some (.int .i64 (Z.getD (k * 6) 0)) := by
        have h9 := (hbw.cell (p := ⟨g, o + (k * 6), none⟩) hg).trans (hcell (k * 6) (by omega))
        first | exact h9 | (rw [← Nat.add_assoc] at h9; exact h9)
      have e1 : wr.cell? ⟨g, o + k * 6 + 1, none⟩ = some (.int .i64 (Z.getD (k * 6 + 1) 0)) := by
        have h9 := (hbw.cell (p := ⟨g, o + (k * 6 + 1), none⟩) hg).trans (hcell (k * 6 + 1) (by omega))
        first | exact h9 | (rw [← Nat.add_assoc] at h9; exact h9)
      have e2 : wr.cell? ⟨g, o + k * 6 + 2, none⟩ = some (.int .i64 (Z.getD (k * 6 + 2) 0)) := by
        have h9 := (hbw.cell (p := ⟨g, o + (k * 6 + 2), none⟩) hg).trans (hcell (k * 6 + 2) (by omega))
        first | exact h9 | (rw [← Nat.add_assoc] at h9; exact h9)
      have e3 : wr.cell? ⟨g, o + k * 6 + 3, none⟩ = some (.int .i64 (Z.getD (k * 6 + 3) 0)) := by
        have h9 := (hbw.cell (p := ⟨g, o + (k * 6 + 3), none⟩) hg).trans (hcell (k * 6 + 3) (by omega))
        first | exact h9 | (rw [← Nat.add_assoc] at h9; exact h9)
      have e4 : wr.cell? ⟨g, o + k * 6 + 4, none⟩ = some (.int .i64 (Z.getD (k * 6 + 4) 0)) := by
        have h9 := (hbw.cell (p := ⟨g, o + (k * 6 + 4), none⟩) hg).trans (hcell (k * 6 + 4) (by omega))
        first | exact h9 | (rw [← Nat.add_assoc] at h9; exact h9)
      have e5 : wr.cell? ⟨g, o + k * 6 + 5, none⟩ = some (.int .i64 (Z.getD (k * 6 + 5) 0)) := by
        have h9 := (hbw.cell (p := ⟨g, o + (k * 6 + 5), none⟩) hg).trans (hcell (k * 6 + 5) (by omega))
        first | exact h9 | (rw [← Nat.add_assoc] at h9; exact h9)
      have hgg : g < wr.heap.size := by have := hbw.size; omega
      obtain ⟨u90, hu0⟩ := hC.some (k * 6) (by omega)
      have hf0 := hC.free (k * 6)
      obtain ⟨u91, hu1⟩ := hC.some (k * 6 + 1) (by omega)
      have hf1 := hC.free (k * 6 + 1)
      obtain ⟨u92, hu2⟩ := hC.some (k * 6 + 2) (by omega)
      have hf2 := hC.free (k * 6 + 2)
      obtain ⟨u93, hu3⟩ := hC.some (k * 6 + 3) (by omega)
      have hf3 := hC.free (k * 6 + 3)
      obtain ⟨u94, hu4⟩ := hC.some (k * 6 + 4) (by omega)
      have hf4 := hC.free (k * 6 + 4)
      obtain ⟨u95, hu5⟩ := hC.some (k * 6 + 5) (by omega)
      have hf5 := hC.free (k * 6 + 5)
      go_wp2_with (go_at_call 14; (with_reducible refine (toSheet_any _ _ _ _ _ _ _).mono ?_); rintro e w1 ⟨rfl, hb⟩; obtain ⟨hc, hf, hT, hz⟩ := bfacts hb; (try simp only [World.size_alloc, World.size_setCell, World.size_drew, size_drewN] at hc hf hT hz); (try (have hzA := Nat.lt_of_succ_le hz)); (try (have hl0 : w.heap.size ≤ w1.heap.size := by omega)); (try (have hz0 : w.heap.size < w1.heap.size := by omega)); (try (have hz1 : w.heap.size + 1 < w1.heap.size := by omega)); (try (have hz2 : w.heap.size + 1 + 1 < w1.heap.size := by omega)); (try (have hz3 : w.heap.size + 1 + 1 + 1 < w1.heap.size := by omega)); (try (have hz4 : w.heap.size + 1 + 1 + 1 + 1 < w1.heap.size := by omega)); (try (have gxg : g < w1.heap.size := by omega)); (try (have gxwrheapsize : wr.heap.size < w1.heap.size := by omega)); (try (have gxwheapsize : w.heap.size < w1.heap.size := by omega)))
      have hC1 := hC.below hb hgw
      have hC6 := ((((((hC1.set (m := k * 6) (by omega) rfl).set (m := k * 6 + 1) (by omega) rfl).set (m := k * 6 + 2) (by omega) rfl).set (m := k * 6 + 3) (by omega) rfl).set (m := k * 6 + 4) (by omega) rfl).set (m := k * 6 + 5) (by omega) rfl)
      have hg1 : w.heap.size < w1.heap.size := by have := hb.size; omega
      have hB6 : Below w.heap.size w w1 := hbw.trans (hb.mono hbw.size)
      go_roundw
      case rel => exact ⟨k + 1, by omega, by go_num, by rw [show (k + 1) * 6 = k * 6 + 5 + 1 by omega]; exact hC6, by simpa [World.setCell] using hg1, by (repeat (with_reducible refine Below.setCell ?_ ?_ _)); (all_goals (first | with_reducible exact hB6 | exact Nat.le_refl _))⟩
      case measure => simp [intOf]; omega
    · have e : k = n := by omega
      subst e
      go_wp2
      go_ret
      exact ⟨rfl, .inr ⟨_, _, rfl, hgw, fun j hj => hC.held j hj⟩, hbw⟩
def EzRel (n : Nat) (w : World) (i : Value) (wr : World) : Prop := ∃ k : Nat, k ≤ n ∧ i = .int .i64 (k : Int) ∧ Below w.heap.size w wr
set_option maxRecDepth 100000 in
set_option maxHeartbeats 8000000 in
theorem eqSheetZ_any (n : Nat) (Z : List Int) (v v' : Value) (hn : n ≤ 1048576) (w : World) (hr : ReadsZ w v n Z) (hr' : ReadsZ w v' n Z) :
    Calls Tryd.prog 26 #[v, v'] w fun e w' => e = .returned (.bool true) ∧ Below w.heap.size w w' := by
  obtain ⟨a, c, rfl⟩ := readsZ_form hr
  obtain ⟨a', c', rfl⟩ := readsZ_form hr'
  go_enter Tryd.func26, Tryd.ntmps26
  go_wp2
  go_loopw [5] (EzRel n w) (fun i _ => n - (intOf i).toNat)
  case atStart => exact ⟨0, Nat.zero_le _, rfl, Below.refl _ _⟩
  case round =>
    obtain ⟨k, hk, rfl, hbw⟩ := hrel
    have hbsz := hbw.size
    by_cases hlt : k < n
    · have hlt' : (k : Int) < (n : Int) := by omega
      have hnI : (n : Int) ≤ 1048576 := by omega
      rcases hr with ⟨_, h2⟩ | ⟨g, cap, h1, hg, hcell⟩
      · omega
      injection h1 with h2 _ h3
      subst h2 h3
      rcases hr' with ⟨_, h2⟩ | ⟨g', cap', h1, hg', hcell'⟩
      · omega
      injection h1 with h2 _ h3
      subst h2 h3
      have e0 := (hbw.cell (p := ⟨g, k * 6, none⟩) hg).trans (hcell (k * 6) (by omega))
      have f0 := (hbw.cell (p := ⟨g', k * 6, none⟩) hg').trans (hcell' (k * 6) (by omega))
      have e1 := (hbw.cell (p := ⟨g, k * 6 + 1, none⟩) hg).trans (hcell (k * 6 + 1) (by omega))
      have f1 := (hbw.cell (p := ⟨g', k * 6 + 1, none⟩) hg').trans (hcell' (k * 6 + 1) (by omega))
      have e2 := (hbw.cell (p := ⟨g, k * 6 + 2, none⟩) hg).trans (hcell (k * 6 + 2) (by omega))
      have f2 := (hbw.cell (p := ⟨g', k * 6 + 2, none⟩) hg').trans (hcell' (k * 6 + 2) (by omega))
      have e3 := (hbw.cell (p := ⟨g, k * 6 + 3, none⟩) hg).trans (hcell (k * 6 + 3) (by omega))
      have f3 := (hbw.cell (p := ⟨g', k * 6 + 3, none⟩) hg').trans (hcell' (k * 6 + 3) (by omega))
      have e4 := (hbw.cell (p := ⟨g, k * 6 + 4, none⟩) hg).trans (hcell (k * 6 + 4) (by omega))
      have f4 := (hbw.cell (p := ⟨g', k * 6 + 4, none⟩) hg').trans (hcell' (k * 6 + 4) (by omega))
      have e5 := (hbw.cell (p := ⟨g, k * 6 + 5, none⟩) hg).trans (hcell (k * 6 + 5) (by omega))
      have f5 := (hbw.cell (p := ⟨g', k * 6 + 5, none⟩) hg').trans (hcell' (k * 6 + 5) (by omega))
      generalize Z.getD (k * 6) 0 = z0 at e0 f0
      generalize Z.getD (k * 6 + 1) 0 = z1 at e1 f1
      generalize Z.getD (k * 6 + 2) 0 = z2 at e2 f2
      generalize Z.getD (k * 6 + 3) 0 = z3 at e3 f3
      generalize Z.getD (k * 6 + 4) 0 = z4 at e4 f4
      generalize Z.getD (k * 6 + 5) 0 = z5 at e5 f5
      have hgw : g < wr.heap.size := by omega
      have hgw' : g' < wr.heap.size := by omega
      go_upto_region 6 with fail
      go_cut [26] from 17 to 26 (fun s26 wc => s26 = .bool false ∧ Below wr.heap.size wr wc)
      case first =>
        go_region_with (go_at_call 29; (try simp only [List.getElem?_cons_succ, List.getElem?_cons_zero, Option.getD_some]); (with_reducible refine (eqSheet_same z0 z1 z2 z3 z4 z5 _).mono ?_); rintro e w1 ⟨rfl, hb⟩)
        all_goals
          go_wp2
          go_meet
          case rel => exact ⟨rfl, (Below.refl wr.heap.size wr).drew.trans hb⟩
      case rest =>
        obtain ⟨rfl, hbc⟩ := hcut
        go_wp2
        go_roundw
        case rel => exact ⟨k + 1, by omega, by go_num, hbw.trans (hbc.mono hbw.size)⟩
        case measure => simp [intOf]; omega
    · have e : k = n := by omega
      subst e
      go_wp2
      go_ret
      exact ⟨rfl, hbw⟩
set_option maxRecDepth 100000 in
theorem implQuiet_long (a : Option Addr) (n c : Nat) (hn : 6 < n) (w : World) : Calls Tryd.prog 25 #[.slice a n c] w fun e w' => e = .returned (.tuple #[.int .i64 0, .bool false]) ∧ Below w.heap.size w w' := by
  have h : (6 : Int) < (n : Int) := by omega
  go_enter Tryd.func25, Tryd.ntmps25
  go_wp2
  go_ret2
  exact ⟨rfl, Below.refl _ _⟩
set_option maxRecDepth 100000 in
theorem specQuiet_long (a : Option Addr) (n c : Nat) (hn : 6 < n) (w : World) : Calls Tryd.prog 23 #[.slice a n c] w fun e w' => e = .returned (.tuple #[.int .i64 0, .bool false]) ∧ Below w.heap.size w w' := by
  have h : (6 : Int) < (n : Int) := by omega
  go_enter Tryd.func23, Tryd.ntmps23
  go_wp2
  go_ret2
  exact ⟨rfl, Below.refl _ _⟩
/-- the valid sheets at the head of a row -/
theorem pre_ex (Z : List Int) : ∀ n, ∃ (k0 : Nat) (Xs : List Nat), k0 ≤ n ∧ Xs.length = k0 ∧ (∀ k, k < k0 → OkAt Z k (Xs.getD k 0)) ∧ (k0 < n → ∀ k, k = k0 → ¬ Ok6 (Z.getD (k * 6) 0) (Z.getD (k * 6 + 1) 0) (Z.getD (k * 6 + 2) 0) (Z.getD (k * 6 + 3) 0) (Z.getD (k * 6 + 4) 0) (Z.getD (k * 6 + 5) 0))
  | 0 => ⟨0, [], Nat.le_refl _, rfl, fun k hk => by omega, fun h => by omega⟩
  | n + 1 => by
    obtain ⟨k0, Xs, h1, h2, h3, h4⟩ := pre_ex Z n
    by_cases hlt : k0 < n
    · exact ⟨k0, Xs, by omega, h2, h3, fun _ => h4 hlt⟩
    · have e : k0 = n := by omega
      by_cases hok : ∀ k, k = n → Ok6 (Z.getD (k * 6) 0) (Z.getD (k * 6 + 1) 0) (Z.getD (k * 6 + 2) 0) (Z.getD (k * 6 + 3) 0) (Z.getD (k * 6 + 4) 0) (Z.getD (k * 6 + 5) 0)
      · have ho := hok n rfl
        obtain ⟨X, hX, r⟩ := set_of_rows (Z.getD (n * 6) 0) (Z.getD (n * 6 + 1) 0) (Z.getD (n * 6 + 2) 0) (Z.getD (n * 6 + 3) 0) (Z.getD (n * 6 + 4) 0) (Z.getD (n * 6 + 5) 0) ho.1 ho.2.1 ho.2.2.1 ho.2.2.2.1 ho.2.2.2.2.1 ho.2.2.2.2.2
        refine ⟨n + 1, Xs ++ [X], Nat.le_refl _, by rw [List.length_append, h2, e]; rfl, fun k hk => ?_, fun h => by omega⟩
        by_cases hkn : k < n
        · have := h3 k (by omega)
          rwa [List.getD_eq_getElem?_getD, List.getElem?_append_left (by omega), ← List.getD_eq_getElem?_getD]
        · have hk2 : k = n := by omega
          subst hk2
          rw [List.getD_eq_getElem?_getD, List.getElem?_append_right (by omega), show k - Xs.length = 0 by omega]
          exact ⟨hX, r⟩
      · refine ⟨k0, Xs, by omega, h2, h3, fun _ k hk ho => hok fun k' hk' => ?_⟩
        rw [hk', ← e, ← hk]
        exact ho
end Go.Proofs.YtgjgefbcfcomcaaDoor
