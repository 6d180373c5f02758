/-
  The law's helpers on slices of sheets: alike, marked, held: contracts. No conditions.
-/
import Derived.Test.YtgjgefbcfcomcaaDoorVe
import Derived.Deep.CutRange
namespace Go.Proofs.YtgjgefbcfcomcaaDoor
open Go.RowKit
set_option linter.unusedSimpArgs false
set_option linter.unusedVariables false

theorem readsS_form {w : World} {v : Value} {L : List Nat} (h : ReadsS w v L) : ∃ a c, v = .slice a L.length c := by
  rcases h with ⟨rfl, rfl⟩ | ⟨g, cap, rfl, _, _⟩
  · exact ⟨none, 0, rfl⟩
  · exact ⟨_, cap, rfl⟩
theorem readsS_below {w w' : World} {v : Value} {L : List Nat} (h : ReadsS w v L) {N : Nat} (hb : Below N w w') (hN : ∀ g, v.ownBlock = some g → g < N) : ReadsS w' v L := by
  rcases h with h | ⟨g, cap, rfl, h2, h3⟩
  · exact .inl h
  · have hg := hN g rfl
    refine .inr ⟨g, cap, rfl, Nat.lt_of_lt_of_le h2 hb.size, fun j hj => ?_⟩
    obtain ⟨c0, c1, c2, c3, c4, c5⟩ := h3 j hj
    have hc : ∀ o, w'.cell? ⟨g, o, none⟩ = w.cell? ⟨g, o, none⟩ := fun o => hb.cell (p := ⟨g, o, none⟩) hg
    rw [hc, hc, hc, hc, hc, hc]
    exact ⟨c0, c1, c2, c3, c4, c5⟩
def EqRel (L : List Nat) (w : World) (i : Value) (wr : World) : Prop := ∃ k : Nat, k ≤ L.length ∧ i = .int .i64 (k : Int) ∧ Below w.heap.size w wr
set_option maxRecDepth 100000 in
set_option maxHeartbeats 8000000 in
theorem eqSheetS_any (L : List Nat) (v v' : Value) (hL : L.length ≤ 36) (w : World) (hr : ReadsS w v L) (hr' : ReadsS w v' L) :
    Calls Tryd.prog 26 #[v, v'] w fun e w' => e = .returned (.bool true) ∧ Below w.heap.size w w' := by
  obtain ⟨a, c, rfl⟩ := readsS_form hr
  obtain ⟨a', c', rfl⟩ := readsS_form hr'
  go_enter Tryd.func26, Tryd.ntmps26
  go_wp2
  go_loopw [5] (EqRel L w) (fun i _ => L.length - (intOf i).toNat)
  case atStart => exact ⟨0, Nat.zero_le _, rfl, Below.refl _ _⟩
  case round =>
    obtain ⟨k, hk, rfl, hbw⟩ := hrel
    have hbsz := hbw.size
    by_cases hlt : k < L.length
    · have hlt' : (k : Int) < (L.length : Int) := by omega
      rcases hr with ⟨h1, _⟩ | ⟨g, cap, h1, hg, hcell⟩
      · injection h1 with _ h2 _
        omega
      injection h1 with h2 _ h3
      subst h2 h3
      rcases hr' with ⟨h1, _⟩ | ⟨g', cap', h1, hg', hcell'⟩
      · injection h1 with _ h2 _
        omega
      injection h1 with h2 _ h3
      subst h2 h3
      obtain ⟨c0, c1, c2, c3, c4, c5⟩ := hcell k hlt
      obtain ⟨d0, d1, d2, d3, d4, d5⟩ := hcell' k hlt
      generalize L.getD k 0 = q at *
      have e0 := (hbw.cell (p := ⟨g, k * 6, none⟩) hg).trans c0
      have e1 := (hbw.cell (p := ⟨g, k * 6 + 1, none⟩) hg).trans c1
      have e2 := (hbw.cell (p := ⟨g, k * 6 + 2, none⟩) hg).trans c2
      have e3 := (hbw.cell (p := ⟨g, k * 6 + 3, none⟩) hg).trans c3
      have e4 := (hbw.cell (p := ⟨g, k * 6 + 4, none⟩) hg).trans c4
      have e5 := (hbw.cell (p := ⟨g, k * 6 + 5, none⟩) hg).trans c5
      have f0 := (hbw.cell (p := ⟨g', k * 6, none⟩) hg').trans d0
      have f1 := (hbw.cell (p := ⟨g', k * 6 + 1, none⟩) hg').trans d1
      have f2 := (hbw.cell (p := ⟨g', k * 6 + 2, none⟩) hg').trans d2
      have f3 := (hbw.cell (p := ⟨g', k * 6 + 3, none⟩) hg').trans d3
      have f4 := (hbw.cell (p := ⟨g', k * 6 + 4, none⟩) hg').trans d4
      have f5 := (hbw.cell (p := ⟨g', k * 6 + 5, none⟩) hg').trans d5
      clear c0 c1 c2 c3 c4 c5 d0 d1 d2 d3 d4 d5
      have hgw : g < wr.heap.size := by omega
      have hgw' : g' < wr.heap.size := by omega
      go_upto_region 6 with fail
      go_cut [26] from 17 to 26 (fun s26 wc => s26 = .bool false ∧ Below wr.heap.size wr wc)
      case first =>
        go_region_with (go_at_call 29; (try simp only [List.getElem?_cons_succ, List.getElem?_cons_zero, Option.getD_some]); (with_reducible refine (eqSheet_same (row q 0) (row q 1) (row q 2) (row q 3) (row q 4) (row q 5) _).mono ?_); rintro e w1 ⟨rfl, hb⟩)
        all_goals
          go_wp2
          go_meet
          case rel => exact ⟨rfl, (Below.refl wr.heap.size wr).drew.trans hb⟩
      case rest =>
        obtain ⟨rfl, hbc⟩ := hcut
        go_wp2
        go_roundw
        case rel => exact ⟨k + 1, by omega, by go_num, hbw.trans (hbc.mono hbw.size)⟩
        case measure => simp [intOf]; omega
    · have e : k = L.length := by omega
      subst e
      go_wp2
      go_ret
      exact ⟨rfl, hbw⟩
/-- the first m cells of the block g hold 1, 2 ..; n cells are there -/
structure Mrk (w : World) (g n m : Nat) : Prop where
  held : ∀ j, j < m → w.cell? ⟨g, j, none⟩ = some (.int .i64 ((j : Int) + 1))
  some : ∀ j, j < n → ∃ u, w.cell? ⟨g, j, none⟩ = some u
  free : ∀ j, w.frozen? ⟨g, j, none⟩ = false
theorem Mrk.set {w : World} {g n m : Nat} (h : Mrk w g n m) (hm : m < n) : Mrk (w.setCell ⟨g, m, none⟩ (.int .i64 ((m : Int) + 1))) g n (m + 1) := by
  obtain ⟨u, hu⟩ := h.some m hm
  refine ⟨fun j hj => ?_, fun j hj => ?_, fun j => by rw [World.frozen?_setCell]; exact h.free j⟩
  · rw [set_at hu j]
    by_cases e : j = m
    · rw [if_pos e, e]
    · rw [if_neg e]; exact h.held j (by omega)
  · rw [set_at hu j]
    by_cases e : j = m
    · rw [if_pos e]; exact ⟨_, rfl⟩
    · rw [if_neg e]; exact h.some j hj
theorem Mrk.below {w w' : World} {N g n m : Nat} (h : Mrk w g n m) (hb : Below N w w') (hg : g < N) : Mrk w' g n m := by
  have hc : ∀ o, w'.cell? ⟨g, o, none⟩ = w.cell? ⟨g, o, none⟩ := fun o => hb.cell (p := ⟨g, o, none⟩) hg
  exact ⟨fun j hj => by rw [hc]; exact h.held j hj, fun j hj => by rw [hc]; exact h.some j hj, fun j => by rw [hb.frozen (p := ⟨g, j, none⟩) hg]; exact h.free j⟩
theorem mrk_start {w : World} {B g n cap : Nat} {L : List Nat} (h : OwnsS w B (.slice (some ⟨g, 0, none⟩) n cap) L) (hn : n = L.length) : Mrk w g (n * 6) 0 := by
  refine ⟨fun j hj => by omega, fun j hj => ?_, fun j => h.free hn j⟩
  subst hn
  obtain ⟨c0, c1, c2, c3, c4, c5⟩ := h.cellsAt (j / 6) (by omega)
  obtain ⟨q, r, hj', hr⟩ : ∃ q r, j = q * 6 + r ∧ r < 6 := ⟨j / 6, j % 6, by omega, by omega⟩
  have hq : j / 6 = q := by omega
  rw [hq] at c0 c1 c2 c3 c4 c5
  subst hj'
  rcases (by omega : r = 0 ∨ r = 1 ∨ r = 2 ∨ r = 3 ∨ r = 4 ∨ r = 5) with rfl | rfl | rfl | rfl | rfl | rfl
  · exact ⟨_, c0⟩
  · exact ⟨_, c1⟩
  · exact ⟨_, c2⟩
  · exact ⟨_, c3⟩
  · exact ⟨_, c4⟩
  · exact ⟨_, c5⟩
def MkRel (g n : Nat) (w : World) (kv i : Value) (wr : World) : Prop := ∃ k : Nat, k ≤ n ∧ i = .int .i64 (k : Int) ∧ kv = .int .i64 (((k * 6 : Nat) : Int) + 1) ∧ Mrk wr g (n * 6) (k * 6) ∧ g < wr.heap.size ∧ Below g w wr
def MkIn (g n k : Nat) (w : World) (kv j : Value) (wr : World) : Prop := ∃ m : Nat, m ≤ 6 ∧ j = .int .i64 (m : Int) ∧ kv = .int .i64 (((k * 6 + m : Nat) : Int) + 1) ∧ Mrk wr g (n * 6) (k * 6 + m) ∧ g < wr.heap.size ∧ Below g w wr
set_option maxRecDepth 100000 in
set_option maxHeartbeats 8000000 in
theorem mark_any (g n cap : Nat) (hn : n ≤ 36) (w : World) (h : Mrk w g (n * 6) 0) (hg : g < w.heap.size) :
    Calls Tryd.prog 36 #[.slice (some ⟨g, 0, none⟩) n cap, .int .i64 1] w fun e w' => e = .returned (.int .i64 (((n * 6 : Nat) : Int) + 1)) ∧ Mrk w' g (n * 6) (n * 6) ∧ g < w'.heap.size ∧ Below g w w' := by
  go_enter Tryd.func36, Tryd.ntmps36
  go_wp2
  go_loopw [1, 5] (MkRel g n w) (fun _ i _ => n - (intOf i).toNat)
  case atStart => exact ⟨0, Nat.zero_le _, rfl, rfl, h, hg, Below.refl _ _⟩
  case round =>
    obtain ⟨k, hk, rfl, rfl, hM, hgw, hbw⟩ := hrel
    by_cases hlt : k < n
    · have hlt' : (k : Int) < (n : Int) := by omega
      go_wp2
      go_loopw [1, 6] (MkIn g n k w) (fun _ j _ => 6 - (intOf j).toNat)
      case atStart => exact ⟨0, by omega, rfl, rfl, hM, hgw, hbw⟩
      case round =>
        clear hM hgw hbw
        obtain ⟨m, hm, rfl, rfl, hM, hgw, hbw⟩ := hrel
        by_cases hmt : m < 6
        · have hmt' : (m : Int) < 6 := by omega
          obtain ⟨u, hu⟩ := hM.some (k * 6 + m) (by omega)
          have hfr := hM.free (k * 6 + m)
          have hMS := Lib.hid (hM.set (by omega))
          have hb2 := hbw.setCell (Nat.le_refl g) (p := ⟨g, k * 6 + m, none⟩) (.int .i64 (((k * 6 + m : Nat) : Int) + 1))
          have HB2 := Lib.hid hb2
          have hkI : (k : Int) < 36 := by omega
          have hcast : ((k * 6 + m : Nat) : Int) = (k : Int) * 6 + (m : Int) := by simp
          have HCA := Lib.hid hcast
          clear hM hb2 hcast
          go_wp2
          go_roundw
          case rel => exact ⟨m + 1, by omega, by go_num, by first | rfl | go_num, by have h2 := hMS.out; rw [HCA.out] at h2; exact h2, by simpa [World.setCell] using hgw, by have h2 := HB2.out; rw [HCA.out] at h2; exact h2⟩
          case measure => simp [intOf]; omega
        · have e : m = 6 := by omega
          subst e
          have hkI : (k : Int) < 36 := by omega
          go_wp2
          go_roundw
          case rel => exact ⟨k + 1, by omega, by go_num, by first | rfl | go_num, by rw [show (k + 1) * 6 = k * 6 + 6 by omega]; exact hM, hgw, hbw⟩
          case measure => simp [intOf]; omega
    · have e : k = n := by omega
      subst e
      go_wp2
      go_ret
      exact ⟨rfl, hM, hgw, hbw⟩
def HdRel (n : Nat) (kv i : Value) : Prop := ∃ k : Nat, k ≤ n ∧ i = .int .i64 (k : Int) ∧ kv = .int .i64 (((k * 6 : Nat) : Int) + 1)
def HdIn (k : Nat) (kv j : Value) : Prop := ∃ m : Nat, m ≤ 6 ∧ j = .int .i64 (m : Int) ∧ kv = .int .i64 (((k * 6 + m : Nat) : Int) + 1)
set_option maxRecDepth 100000 in
set_option maxHeartbeats 8000000 in
theorem held_any (g n cap : Nat) (hn : n ≤ 36) (w : World) (h : Mrk w g (n * 6) (n * 6)) (hg : g < w.heap.size) :
    Calls Tryd.prog 37 #[.slice (some ⟨g, 0, none⟩) n cap, .int .i64 1] w fun e w' => e = .returned (.int .i64 (((n * 6 : Nat) : Int) + 1)) ∧ w = w' := by
  go_enter Tryd.func37, Tryd.ntmps37
  go_wp2
  go_loop [1, 5] (HdRel n) (fun _ i => n - (intOf i).toNat)
  case atStart => exact ⟨0, Nat.zero_le _, rfl, rfl⟩
  case round =>
    obtain ⟨k, hk, rfl, rfl⟩ := hrel
    by_cases hlt : k < n
    · have hlt' : (k : Int) < (n : Int) := by omega
      go_wp2
      go_loop [1, 6] (HdIn k) (fun _ j => 6 - (intOf j).toNat)
      case atStart => exact ⟨0, by omega, rfl, rfl⟩
      case round =>
        obtain ⟨m, hm, rfl, rfl⟩ := hrel
        by_cases hmt : m < 6
        · have hmt' : (m : Int) < 6 := by omega
          have hu := h.held (k * 6 + m) (by omega)
          have hkI : (k : Int) < 36 := by omega
          go_wp2
          go_round
          case rel => exact ⟨m + 1, by omega, by go_num, by first | rfl | go_num⟩
          case measure => simp [intOf]; omega
        · have e : m = 6 := by omega
          subst e
          have hkI : (k : Int) < 36 := by omega
          go_wp2
          go_round
          case rel => exact ⟨k + 1, by omega, by go_num, by first | rfl | go_num⟩
          case measure => simp [intOf]; omega
    · have e : k = n := by omega
      subst e
      go_wp2
      go_ret
      exact ⟨rfl, rfl⟩
theorem mark_nil (w : World) : Calls Tryd.prog 36 #[.slice none 0 0, .int .i64 1] w fun e w' => e = .returned (.int .i64 1) ∧ w = w' := by
  go_enter Tryd.func36, Tryd.ntmps36
  go_wp2
  refine wp_loop_rounds 2 ?_
  rw [rounds_succ]
  go_wp2
  go_ret
  exact ⟨rfl, rfl⟩
theorem held_nil (w : World) : Calls Tryd.prog 37 #[.slice none 0 0, .int .i64 1] w fun e w' => e = .returned (.int .i64 1) ∧ w = w' := by
  go_enter Tryd.func37, Tryd.ntmps37
  go_wp2
  refine wp_loop_rounds 2 ?_
  rw [rounds_succ]
  go_wp2
  go_ret
  exact ⟨rfl, rfl⟩
end Go.Proofs.YtgjgefbcfcomcaaDoor
