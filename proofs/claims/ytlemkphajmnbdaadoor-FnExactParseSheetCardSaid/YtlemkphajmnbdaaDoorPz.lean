/-
  The program's reading of a text of six rows: contract of ParseSheet. Conditions: the text is of 41 bytes, and the library's variable MaxLen holds an int.
-/
import Derived.Test.YtlemkphajmnbdaaDoorPy
namespace Go.Proofs.YtlemkphajmnbdaaDoor
open Go.RowKit
set_option linter.unusedSimpArgs false
set_option linter.unusedVariables false

set_option maxRecDepth 100000 in
set_option maxHeartbeats 1600000 in
theorem parse_ok (s : ByteArray) (hs : s.size ≤ 1048576) (m : Int) (ht : Text6 5 s.data.toList) (w : World) (hm : w.cell? ⟨0, 0, none⟩ = some (.int .i64 m)) : Calls Tryd.prog 5 #[.string s] w fun e w' => e = .returned (.tuple #[(.agg #[.int .i64 (row (psN s.data.toList 41) 0), .int .i64 (row (psN s.data.toList 41) 1), .int .i64 (row (psN s.data.toList 41) 2), .int .i64 (row (psN s.data.toList 41) 3), .int .i64 (row (psN s.data.toList 41) 4), .int .i64 (row (psN s.data.toList 41) 5)]), .bool true]) ∧ Below w.heap.size w w' := by
  obtain ⟨zs, hz, hl, hr, hsp⟩ := split_any s hs
  have h6r := (rows_text 5 _).2 ht
  have hrow := rows_of s zs hz h6r
  obtain ⟨h61, h62⟩ := (cut_rows 5 _).2 h6r
  have h6 : zs.length = 6 := by rw [← List.length_map (f := fun r : ByteArray => r.data.toList), hz, h61]
  have hany : zs.any badR = false := (any_bad zs).2 (by rw [hz]; exact h62)
  have hcf := contains_any zs hl hr
  have HSP := Lib.hid (hsp m)
  have HCF := Lib.hid hcf
  have HC := Lib.hid (cells_strings zs 9)
  have h0 := World.block_lt_of_cell? w _ hm
  have hm0 := fun o : Obj => (World.cell?_alloc_old w o ⟨0, 0, none⟩ (Nat.ne_of_lt h0)).trans hm
  have hcf1 : ∀ o : Obj, Calls Tryd.prog 9 #[.slice (some ⟨w.heap.size + 1, 0, none⟩) 6 6, .func (.func 10) #[] #[]] ((w.alloc o).alloc (.cells (zs.map Value.string).toArray 9)) fun e w' => e = .returned (.bool false) ∧ Below ((w.alloc o).alloc (.cells (zs.map Value.string).toArray 9)).heap.size ((w.alloc o).alloc (.cells (zs.map Value.string).toArray 9)) w' := fun o => by
    have h := HCF.out (w.heap.size + 1) ((w.alloc o).alloc (.cells (zs.map Value.string).toArray 9)) (by simp) (fun j r h => by have := HC.out (w.alloc o) j r h; rw [World.size_alloc] at this; exact this)
    rw [hany, h6] at h
    exact h
  have HCG := Lib.hid hcf1
  have h6' : (zs.length : Int) = 6 := by omega
  have hcz : ∀ (o : Obj) (j : Nat) r, zs[j]? = some r → ((w.alloc o).alloc (.cells (zs.map Value.string).toArray 9)).cell? ⟨w.heap.size + 1, j, none⟩ = some (.string r) := fun o j r h => by
    have := HC.out (w.alloc o) j r h
    rw [World.size_alloc] at this
    exact this
  have HCZ := Lib.hid hcz
  have HROW := Lib.hid hrow
  have HT := Lib.hid ht
  clear ht hz hr hsp hcf hcf1 hany h61 h62 hrow h6r hcz HCF HC
  go_enter Tryd.func5, Tryd.ntmps5
  go_wp2_with (first | (go_at_call 8; (with_reducible refine (HSP.out _ (hm0 _)).mono ?_); rintro e w1 ⟨rfl, rfl⟩) | (go_at_call 9; (with_reducible refine (HCG.out _).mono ?_); rintro e w1 ⟨rfl, hb⟩))
  have hH : HoldsA w1 24 (w.heap.size) 0 0 0 0 0 0 := by
    refine HoldsA.below (HoldsA.alloc (HoldsA.made' rfl) _) hb (by simp)
  have hcl : ∀ (j : Nat) r, zs[j]? = some r → w1.cell? ⟨w.heap.size + 1, j, none⟩ = some (.string r) := fun j r h => (hb.cell (p := ⟨w.heap.size + 1, j, none⟩) (by simp)).trans (HCZ.out _ j r h)
  have hB : Below w.heap.size w w1 := (by repeat (first | with_reducible exact Below.refl _ _ | with_reducible assumption | with_reducible refine Below.drew ?_ | with_reducible refine below_drewN ?_ _ | with_reducible refine Below.alloc ?_ ?_ _ | with_reducible refine Below.setCell ?_ ?_ _ | with_reducible refine Below.trans ?_ (Below.mono (by assumption) ?_) | omega | (simp <;> omega)))
  have hz1 : w.heap.size + 1 < w1.heap.size := by have := hb.size; simp at this; omega
  have HCL := Lib.hid hcl
  clear hb hcl HCZ HCG HSP hm0
  go_loopw [5, 21] (fun s5 s21 wr => ∃ y : Nat, y ≤ 6 ∧ s21 = .int .i64 (y : Int) ∧ s5 = .int .u64 ((psN s.data.toList (7 * y) : Nat) : Int) ∧ Below w1.heap.size w1 wr) (fun _ i _ => 6 - (intOf i).toNat)
  case atStart => exact ⟨0, by omega, rfl, by simp [psN], Below.refl _ _⟩
  case round =>
    obtain ⟨y, hy, rfl, rfl, hbw⟩ := hrel
    by_cases hlt : y < 6
    · have hlt' : (y : Int) < 6 := by omega
      obtain ⟨r, hr1, hr6, hrx⟩ := HROW.out y hlt
      have hcr : wr.cell? ⟨w.heap.size + 1, y, none⟩ = some (.string r) := (hbw.cell (p := ⟨w.heap.size + 1, y, none⟩) hz1).trans (HCL.out y r hr1)
      have HRX := Lib.hid hrx
      clear hr1 hrx
      go_wp2
      go_loopg [5] 6 (fun gg s5 wx => ∃ x : Nat, x + gg = 6 ∧ s5 = .int .u64 ((psN s.data.toList (7 * y + x) : Nat) : Int) ∧ wx = wr.iter r x)
      case atStart => exact ⟨0, by omega, rfl, rfl⟩
      case round =>
        obtain ⟨x, hxg, rfl, rfl⟩ := hrel
        cases gk with
        | zero =>
          obtain rfl : x = 6 := by omega
          have hnx := fun ty => run_next_end (P := Tryd.prog) wr r 6 ty (by omega)
          go_wp2
          go_roundw
          case rel => exact ⟨y + 1, by omega, by go_num, by rw [ps_row], (show Below _ _ (wr.alloc _) from hbw.alloc hbw.size _)⟩
          case measure => simp [intOf]; omega
        | succ gg =>
          have hx : x < 6 := by omega
          have hx' : (x : Int) < 6 := by omega
          have hxs : x < r.size := by omega
          have hxs' : (x : Int) < (r.size : Int) := by omega
          have hrx := HRX.out x hx
          have hT := (HT.out.2 (7 * y + x) (by omega)).2 (by omega)
          have hby := byte_at r x hxs
          rcases hT with hq | hq
          · have hz : ((r[x]'hxs).toNat : Int) = 35 := hby 35 (by rw [hrx]; exact hq)
            have hnx := fun ty => run_next_ascii (P := Tryd.prog) wr r x ty hxs (by omega)
            have HQ := Lib.hid hq
            clear hby hrx hq
            go_wp2
            go_roundg gg
            case measure => omega
            case rel =>
              exact ⟨x + 1, by omega, by rw [ps_close s.data.toList (7 * y + x) (y * 6 + x) (by omega) HQ.out (by omega) (by omega)]; rfl, rfl⟩
          · have hz : ((r[x]'hxs).toNat : Int) = 46 := hby 46 (by rw [hrx]; exact hq)
            have hnx := fun ty => run_next_ascii (P := Tryd.prog) wr r x ty hxs (by omega)
            have hp := psN_skip s.data.toList (7 * y + x) (by rw [hq]; decide)
            have HP := Lib.hid hp
            clear hby hrx hq hp
            go_wp2
            go_roundg gg
            case measure => omega
            case rel => exact ⟨x + 1, by omega, by rw [← Nat.add_assoc, HP.out], rfl⟩
    · have e : y = 6 := by omega
      subst e
      have hL := hH.lt
      have h2 := hH.below hbw hL
      have hvs := psN_vs s.data.toList 41 (by omega)
      rw [ps_42]
      have hr0 := h2.c0
      have hr1 := h2.c1
      have hr2 := h2.c2
      have hr3 := h2.c3
      have hr4 := h2.c4
      have hr5 := h2.c5
      have hrf := h2.free
      have hbs := hbw.size
      have hlr : w.heap.size < wr.heap.size := h2.lt
      have hBw : Below w.heap.size w wr := hB.trans (hbw.mono hB.size)
      clear hH hB hbw HROW HT HCL h6 h6' hm h0
      go_wp2_with (go_at_call 12; (with_reducible refine (sheet_any _ (by assumption) _).mono ?_); rintro e w1 ⟨rfl, hb⟩; obtain ⟨hc, hf, hT, hz⟩ := bfacts hb; (try simp only [World.size_alloc, World.size_setCell, World.size_drew, size_drewN] at hc hf hT hz); (try (have hzA := Nat.lt_of_succ_le hz)); (try (have hl0 : w.heap.size ≤ w1.heap.size := by omega)); (try (have hz0 : w.heap.size < w1.heap.size := by omega)); (try (have hz1 : w.heap.size + 1 < w1.heap.size := by omega)); (try (have hz2 : w.heap.size + 1 + 1 < w1.heap.size := by omega)); (try (have hz3 : w.heap.size + 1 + 1 + 1 < w1.heap.size := by omega)); (try (have hz4 : w.heap.size + 1 + 1 + 1 + 1 < w1.heap.size := by omega)))
      exact bodyPost_ret (v := .tuple #[(.agg #[.int .i64 (row (psN s.data.toList 41) 0), .int .i64 (row (psN s.data.toList 41) 1), .int .i64 (row (psN s.data.toList 41) 2), .int .i64 (row (psN s.data.toList 41) 3), .int .i64 (row (psN s.data.toList 41) 4), .int .i64 (row (psN s.data.toList 41) 5)]), .bool true]) (by simp [results, Tryd.results5, go_sem, *]) rfl ⟨rfl, (by repeat (first | with_reducible exact Below.refl _ _ | with_reducible assumption | with_reducible refine Below.drew ?_ | with_reducible refine below_drewN ?_ _ | with_reducible refine Below.alloc ?_ ?_ _ | with_reducible refine Below.setCell ?_ ?_ _ | with_reducible refine Below.trans ?_ (Below.mono (by assumption) ?_) | omega | (simp <;> omega)))⟩
end Go.Proofs.YtlemkphajmnbdaaDoor
