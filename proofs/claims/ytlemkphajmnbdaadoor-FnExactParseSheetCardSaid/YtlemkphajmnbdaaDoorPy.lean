/-
  The program's reading of a text: contracts of ParseSheet. Conditions: the text is of at most 2^20 bytes, and the library's variable MaxLen holds an int.
-/
import Derived.Test.YtlemkphajmnbdaaDoorPx
import Derived.Test.YtlemkphajmnbdaaDoorPu
import Derived.Laws.RangeString
namespace Go.Proofs.YtlemkphajmnbdaaDoor
open Go.RowKit
set_option linter.unusedSimpArgs false
set_option linter.unusedVariables false

theorem enters10 : ∀ args w, (callFunc 10 args).run Tryd.prog w = .ok (.enter 10 args) w := enters_of Tryd.func10 (by kernel_rfl) rfl
/-- the rows that strings.Split leaves, looked through -/
theorem contains_any (zs : List ByteArray) (hz : zs.length ≤ 1048577) (hr : ∀ r ∈ zs, r.size ≤ 1048576) (b : Nat) (w : World) (hb : b < w.heap.size) (hc : ∀ (j : Nat) (r : ByteArray), zs[j]? = some r → w.cell? ⟨b, j, none⟩ = some (.string r)) :
    Calls Tryd.prog 9 #[.slice (some ⟨b, 0, none⟩) zs.length zs.length, .func (.func 10) #[] #[]] w fun e w' => e = .returned (.bool (zs.any badR)) ∧ Below w.heap.size w w' :=
  containsFunc_any badR zs _ enters10 (fun r h W => bad_any r (by have := hr r h; omega) W) b w (by omega) hb hc
set_option maxRecDepth 100000 in
theorem parse_no (s : ByteArray) (hs : s.size ≤ 1048576) (m : Int) (ht : ¬ Text6 5 s.data.toList) (w : World) (hm : w.cell? ⟨0, 0, none⟩ = some (.int .i64 m)) : Calls Tryd.prog 5 #[.string s] w fun e w' => e = .returned (.tuple #[(.agg #[.int .i64 (row 0 0), .int .i64 (row 0 1), .int .i64 (row 0 2), .int .i64 (row 0 3), .int .i64 (row 0 4), .int .i64 (row 0 5)]), .bool false]) ∧ Below w.heap.size w w' := by
  obtain ⟨zs, hz, hl, hr, hsp⟩ := split_any s hs
  have hno : zs.length = 6 → zs.any badR = true := fun h6 => by
    cases h : zs.any badR with
    | true => rfl
    | false =>
      refine absurd ((rows_text 5 _).1 ((cut_rows 5 _).1 ⟨?_, ?_⟩)) ht
      · rw [← hz, List.length_map, h6]
      · rw [← hz]; exact (any_bad zs).1 h
  have hcf := contains_any zs hl hr
  have HSP := Lib.hid (hsp m)
  have HCF := Lib.hid hcf
  have HC := Lib.hid (cells_strings zs 9)
  have h0 := World.block_lt_of_cell? w _ hm
  have hm0 := fun o : Obj => (World.cell?_alloc_old w o ⟨0, 0, none⟩ (Nat.ne_of_lt h0)).trans hm
  clear ht hz hr hsp hcf
  by_cases h6 : zs.length = 6
  · have hcf1 : ∀ o : Obj, Calls Tryd.prog 9 #[.slice (some ⟨w.heap.size + 1, 0, none⟩) 6 6, .func (.func 10) #[] #[]] ((w.alloc o).alloc (.cells (zs.map Value.string).toArray 9)) fun e w' => e = .returned (.bool true) ∧ Below ((w.alloc o).alloc (.cells (zs.map Value.string).toArray 9)).heap.size ((w.alloc o).alloc (.cells (zs.map Value.string).toArray 9)) w' := fun o => by
      have h := HCF.out (w.heap.size + 1) ((w.alloc o).alloc (.cells (zs.map Value.string).toArray 9)) (by simp) (fun j r h => by have := HC.out (w.alloc o) j r h; rw [World.size_alloc] at this; exact this)
      rw [hno h6, h6] at h
      exact h
    have HCG := Lib.hid hcf1
    have h6' : (zs.length : Int) = 6 := by omega
    clear hno hcf1
    go_enter Tryd.func5, Tryd.ntmps5
    go_wp2_with (first | (go_at_call 8; (with_reducible refine (HSP.out _ (hm0 _)).mono ?_); rintro e w1 ⟨rfl, rfl⟩) | (go_at_call 9; (with_reducible refine (HCG.out _).mono ?_); rintro e w1 ⟨rfl, hb⟩; obtain ⟨hc, hf, hT, hz⟩ := bfacts hb; (try simp only [World.size_alloc, World.size_setCell, World.size_drew, size_drewN] at hc hf hT hz); (try (have hzA := Nat.lt_of_succ_le hz)); (try (have hl0 : w.heap.size ≤ w1.heap.size := by omega)); (try (have hz0 : w.heap.size < w1.heap.size := by omega)); (try (have hz1 : w.heap.size + 1 < w1.heap.size := by omega)); (try (have hz2 : w.heap.size + 1 + 1 < w1.heap.size := by omega)); (try (have hz3 : w.heap.size + 1 + 1 + 1 < w1.heap.size := by omega)); (try (have hz4 : w.heap.size + 1 + 1 + 1 + 1 < w1.heap.size := by omega))))
    exact bodyPost_ret (v := .tuple #[.agg #[.int .i64 0, .int .i64 0, .int .i64 0, .int .i64 0, .int .i64 0, .int .i64 0], .bool false]) (by simp [results, Tryd.results5, go_sem, *]) rfl ⟨by simp [zero_rows'], (by repeat (first | with_reducible exact Below.refl _ _ | with_reducible assumption | with_reducible refine Below.drew ?_ | with_reducible refine below_drewN ?_ _ | with_reducible refine Below.alloc ?_ ?_ _ | with_reducible refine Below.setCell ?_ ?_ _ | with_reducible refine Below.trans ?_ (Below.mono (by assumption) ?_) | omega | (simp <;> omega)))⟩
  · have h6' : ¬ (zs.length : Int) = 6 := by omega
    clear hno
    go_enter Tryd.func5, Tryd.ntmps5
    go_wp2_with (go_at_call 8; (with_reducible refine (HSP.out _ (hm0 _)).mono ?_); rintro e w1 ⟨rfl, rfl⟩)
    exact bodyPost_ret (v := .tuple #[.agg #[.int .i64 0, .int .i64 0, .int .i64 0, .int .i64 0, .int .i64 0, .int .i64 0], .bool false]) (by simp [results, Tryd.results5, go_sem, *]) rfl ⟨by simp [zero_rows'], (by repeat (first | with_reducible exact Below.refl _ _ | with_reducible assumption | with_reducible refine Below.drew ?_ | with_reducible refine below_drewN ?_ _ | with_reducible refine Below.alloc ?_ ?_ _ | with_reducible refine Below.setCell ?_ ?_ _ | with_reducible refine Below.trans ?_ (Below.mono (by assumption) ?_) | omega | (simp <;> omega)))⟩
end Go.Proofs.YtlemkphajmnbdaaDoor
