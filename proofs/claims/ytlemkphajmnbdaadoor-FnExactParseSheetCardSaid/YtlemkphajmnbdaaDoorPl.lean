/-
  The walk of the law FnExactParseSheet: whatever the text, it returns true. Condition: the library's variable MaxLen holds an int.
-/
import Derived.Test.YtlemkphajmnbdaaDoorPz
import Derived.Test.YtlemkphajmnbdaaDoorCh
import Derived.Deep.CutRange
import Derived.Deep.DeepCutAuto
import Derived.Deep.RegionHeld3
namespace Go.Proofs.YtlemkphajmnbdaaDoor
open Go.RowKit
set_option linter.unusedSimpArgs false
set_option linter.unusedVariables false

theorem text_size {s : ByteArray} (h : Text6 5 s.data.toList) : s.size = 41 := by rw [← size_list]; exact h.1
theorem refParse_any (s : ByteArray) (X : Nat) (b : Bool) (h : (Text6 5 s.data.toList ∧ X = psN s.data.toList 41 ∧ b = true) ∨ (¬ Text6 5 s.data.toList ∧ X = 0 ∧ b = false)) (w : World) :
    Calls Tryd.prog 7 #[.string s] w fun e w' => e = .returned (.tuple #[(.agg #[.int .i64 (row X 0), .int .i64 (row X 1), .int .i64 (row X 2), .int .i64 (row X 3), .int .i64 (row X 4), .int .i64 (row X 5)]), .bool b]) ∧ Below w.heap.size w w' := by
  rcases h with ⟨h, rfl, rfl⟩ | ⟨h, rfl, rfl⟩
  · exact l2Parse_ok s (text_size h) h w
  · by_cases hs : s.size = 41
    · exact l2Parse_no s hs h w
    · exact l2Parse_len s hs w
theorem ourParse_any (s : ByteArray) (X : Nat) (b : Bool) (h : (Text6 5 s.data.toList ∧ X = psN s.data.toList 41 ∧ b = true) ∨ (¬ Text6 5 s.data.toList ∧ X = 0 ∧ b = false)) (hs : s.size ≤ 1048576) (m : Int) (w : World) (hm : w.cell? ⟨0, 0, none⟩ = some (.int .i64 m)) :
    Calls Tryd.prog 5 #[.string s] w fun e w' => e = .returned (.tuple #[(.agg #[.int .i64 (row X 0), .int .i64 (row X 1), .int .i64 (row X 2), .int .i64 (row X 3), .int .i64 (row X 4), .int .i64 (row X 5)]), .bool b]) ∧ Below w.heap.size w w' := by
  rcases h with ⟨h, rfl, rfl⟩ | ⟨h, rfl, rfl⟩
  · exact parse_ok s hs m h w hm
  · exact parse_no s hs m h w hm
set_option maxRecDepth 100000 in
theorem specParse_any (s : ByteArray) (X : Nat) (b : Bool) (h : (Text6 5 s.data.toList ∧ X = psN s.data.toList 41 ∧ b = true) ∨ (¬ Text6 5 s.data.toList ∧ X = 0 ∧ b = false)) (w : World) :
    Calls Tryd.prog 4 #[.string s] w fun e w' => e = .returned (.tuple #[(.agg #[.int .i64 (row X 0), .int .i64 (row X 1), .int .i64 (row X 2), .int .i64 (row X 3), .int .i64 (row X 4), .int .i64 (row X 5)]), .bool b]) ∧ Below w.heap.size w w' := by
  have H := Lib.hid (refParse_any s X b h)
  clear h
  go_enter Tryd.func4, Tryd.ntmps4
  go_wp2_with (go_at_call 7; (with_reducible refine (H.out _).mono ?_); rintro e w1 ⟨rfl, hb⟩; obtain ⟨hc, hf, hT, hz⟩ := bfacts hb; (try simp only [World.size_alloc, World.size_setCell, World.size_drew, size_drewN] at hc hf hT hz); (try (have hzA := Nat.lt_of_succ_le hz)); (try (have hl0 : w.heap.size ≤ w1.heap.size := by omega)); (try (have hz0 : w.heap.size < w1.heap.size := by omega)); (try (have hz1 : w.heap.size + 1 < w1.heap.size := by omega)); (try (have hz2 : w.heap.size + 1 + 1 < w1.heap.size := by omega)); (try (have hz3 : w.heap.size + 1 + 1 + 1 < w1.heap.size := by omega)); (try (have hz4 : w.heap.size + 1 + 1 + 1 + 1 < w1.heap.size := by omega)))
  exact bodyPost_ret (v := .tuple #[(.agg #[.int .i64 (row X 0), .int .i64 (row X 1), .int .i64 (row X 2), .int .i64 (row X 3), .int .i64 (row X 4), .int .i64 (row X 5)]), .bool b]) (by simp [results, Tryd.results4, go_sem, *]) rfl ⟨rfl, (by repeat (first | with_reducible exact Below.refl _ _ | with_reducible assumption | with_reducible refine Below.drew ?_ | with_reducible refine below_drewN ?_ _ | with_reducible refine Below.alloc ?_ ?_ _ | with_reducible refine Below.setCell ?_ ?_ _ | with_reducible refine Below.trans ?_ (Below.mono (by assumption) ?_) | omega | (simp <;> omega)))⟩
set_option maxRecDepth 100000 in
set_option maxHeartbeats 2000000 in
theorem lawParse_at (s : ByteArray) (X : Nat) (b : Bool) (h : (Text6 5 s.data.toList ∧ X = psN s.data.toList 41 ∧ b = true) ∨ (¬ Text6 5 s.data.toList ∧ X = 0 ∧ b = false)) (hs : s.size ≤ 1048576) (m : Int) (w : World) (hm : w.cell? ⟨0, 0, none⟩ = some (.int .i64 m)) :
    Calls Tryd.prog 3 #[.string s] w fun e w' => e = .returned (.bool true) ∧ Below w.heap.size w w' := by
  have HS := Lib.hid (specParse_any s X b h)
  have HI := Lib.hid (ourParse_any s X b h hs m)
  have hs' : ¬ (1048576 : Int) < (s.size : Int) := by omega
  have h0 := World.block_lt_of_cell? w _ hm
  clear h
  go_enter Tryd.func3, Tryd.ntmps3
  go_upto_region 3 with fail
  go_cut [3, 4] from 7 (fun s3 s4 wx => ∃ P7 : Nat, s3 = .pointer (some ⟨P7, 0, none⟩) ∧ s4 = .bool b ∧ HoldsA wx 24 (P7) (row X 0) (row X 1) (row X 2) (row X 3) (row X 4) (row X 5) ∧ wx.cell? ⟨0, 0, none⟩ = some (.int .i64 m) ∧ Below w.heap.size w wx)
  case first =>
    go_wp2_with (go_at_call 4; (with_reducible refine (HS.out _).mono ?_); rintro e w1 ⟨rfl, hb⟩; obtain ⟨hc, hf, hT, hz⟩ := bfacts hb; (try simp only [World.size_alloc, World.size_setCell, World.size_drew, size_drewN] at hc hf hT hz); (try (have hzA := Nat.lt_of_succ_le hz)); (try (have hl0 : w.heap.size ≤ w1.heap.size := by omega)); (try (have hz0 : w.heap.size < w1.heap.size := by omega)); (try (have hz1 : w.heap.size + 1 < w1.heap.size := by omega)); (try (have hz2 : w.heap.size + 1 + 1 < w1.heap.size := by omega)); (try (have hz3 : w.heap.size + 1 + 1 + 1 < w1.heap.size := by omega)); (try (have hz4 : w.heap.size + 1 + 1 + 1 + 1 < w1.heap.size := by omega)))
    go_meet
    exact ⟨_, rfl, rfl, HoldsA.made' rfl, (World.cell?_alloc_lt w1 _ ⟨0, 0, none⟩ (Nat.lt_of_lt_of_le h0 hz)).trans ((hc 0 0 h0).trans hm), (by repeat (first | with_reducible exact Below.refl _ _ | with_reducible assumption | with_reducible refine Below.drew ?_ | with_reducible refine below_drewN ?_ _ | with_reducible refine Below.alloc ?_ ?_ _ | with_reducible refine Below.setCell ?_ ?_ _ | with_reducible refine Below.trans ?_ (Below.mono (by assumption) ?_) | omega | (simp <;> omega)))⟩
  case rest =>
    obtain ⟨P7, rfl, rfl, hP, hmc, hBc⟩ := hcut
    have h0c := World.block_lt_of_cell? wc _ hmc
    have hLP := hP.lt
    have hsz := hBc.size
    go_upto_region 4 with fail
    go_cut [5, 6] from 7 (fun s5 s6 wx => ∃ Q9 : Nat, s5 = .pointer (some ⟨Q9, 0, none⟩) ∧ s6 = .bool b ∧ HoldsA wx 24 (P7) (row X 0) (row X 1) (row X 2) (row X 3) (row X 4) (row X 5) ∧ HoldsA wx 24 (Q9) (row X 0) (row X 1) (row X 2) (row X 3) (row X 4) (row X 5) ∧ Below w.heap.size w wx)
    case first =>
      go_wp2_with (go_at_call 5; (with_reducible refine (HI.out _ hmc).mono ?_); rintro e w1 ⟨rfl, hb⟩; obtain ⟨hc, hf, hT, hz⟩ := bfacts hb; (try simp only [World.size_alloc, World.size_setCell, World.size_drew, size_drewN] at hc hf hT hz); (try (have hzA := Nat.lt_of_succ_le hz)); (try (have hl0 : w.heap.size ≤ w1.heap.size := by omega)); (try (have hz0 : w.heap.size < w1.heap.size := by omega)); (try (have hz1 : w.heap.size + 1 < w1.heap.size := by omega)); (try (have hz2 : w.heap.size + 1 + 1 < w1.heap.size := by omega)); (try (have hz3 : w.heap.size + 1 + 1 + 1 < w1.heap.size := by omega)); (try (have hz4 : w.heap.size + 1 + 1 + 1 + 1 < w1.heap.size := by omega)))
      go_meet
      exact ⟨_, rfl, rfl, (hP.below hb hLP).alloc _, HoldsA.made' rfl, (by repeat (first | with_reducible exact Below.refl _ _ | with_reducible assumption | with_reducible refine Below.drew ?_ | with_reducible refine below_drewN ?_ _ | with_reducible refine Below.alloc ?_ ?_ _ | with_reducible refine Below.setCell ?_ ?_ _ | with_reducible refine Below.trans ?_ (Below.mono (by assumption) ?_) | omega | (simp <;> omega)))⟩
    case rest =>
      obtain ⟨Q9, rfl, rfl, hP2, hQ2, hBd⟩ := hcut
      have hr0 := hP2.c0
      have hr1 := hP2.c1
      have hr2 := hP2.c2
      have hr3 := hP2.c3
      have hr4 := hP2.c4
      have hr5 := hP2.c5
      have hrf := hP2.free
      have hp0 := hQ2.c0
      have hp1 := hQ2.c1
      have hp2 := hQ2.c2
      have hp3 := hQ2.c3
      have hp4 := hQ2.c4
      have hp5 := hQ2.c5
      have hpf := hQ2.free
      have hLP2 := hP2.lt
      have hLQ2 := hQ2.lt
      have hsz2 := hBd.size
      go_wp2_with (first | (go_at_call 6; (with_reducible refine (eqSheet_same _ _ _ _ _ _ _).mono ?_); rintro e w1 ⟨rfl, hb⟩; obtain ⟨hc, hf, hT, hz⟩ := bfacts hb; (try simp only [World.size_alloc, World.size_setCell, World.size_drew, size_drewN] at hc hf hT hz); (try (have hzA := Nat.lt_of_succ_le hz)); (try (have hl0 : w.heap.size ≤ w1.heap.size := by omega)); (try (have hz0 : w.heap.size < w1.heap.size := by omega)); (try (have hz1 : w.heap.size + 1 < w1.heap.size := by omega)); (try (have hz2 : w.heap.size + 1 + 1 < w1.heap.size := by omega)); (try (have hz3 : w.heap.size + 1 + 1 + 1 < w1.heap.size := by omega)); (try (have hz4 : w.heap.size + 1 + 1 + 1 + 1 < w1.heap.size := by omega))))
      go_ret
      exact ⟨rfl, (by repeat (first | with_reducible exact Below.refl _ _ | with_reducible assumption | with_reducible refine Below.drew ?_ | with_reducible refine below_drewN ?_ _ | with_reducible refine Below.alloc ?_ ?_ _ | with_reducible refine Below.setCell ?_ ?_ _ | with_reducible refine Below.trans ?_ (Below.mono (by assumption) ?_) | omega | (simp <;> omega)))⟩
/-- whatever the text, the law returns true -/
theorem lawParse (s : ByteArray) (m : Int) (w : World) (hm : w.cell? ⟨0, 0, none⟩ = some (.int .i64 m)) : Calls Tryd.prog 3 #[.string s] w fun e w' => e = .returned (.bool true) ∧ Below w.heap.size w w' := by
  by_cases hs : s.size ≤ 1048576
  · by_cases ht : Text6 5 s.data.toList
    · exact lawParse_at s _ _ (.inl ⟨ht, rfl, rfl⟩) hs m w hm
    · exact lawParse_at s _ _ (.inr ⟨ht, rfl, rfl⟩) hs m w hm
  · have hs' : (1048576 : Int) < (s.size : Int) := by omega
    clear hm
    go_enter Tryd.func3, Tryd.ntmps3
    go_wp2
    go_ret
    exact ⟨rfl, (by repeat (first | with_reducible exact Below.refl _ _ | with_reducible assumption | with_reducible refine Below.drew ?_ | with_reducible refine below_drewN ?_ _ | with_reducible refine Below.alloc ?_ ?_ _ | with_reducible refine Below.setCell ?_ ?_ _ | with_reducible refine Below.trans ?_ (Below.mono (by assumption) ?_) | omega | (simp <;> omega)))⟩
end Go.Proofs.YtlemkphajmnbdaaDoor
