/-
  The reference's reading of a text: contracts of l2Parse. No conditions.
-/
import Derived.Test.YtlemkphajmnbdaaDoorCk
import Derived.Test.YtlemkphajmnbdaaDoorPt
namespace Go.Proofs.YtlemkphajmnbdaaDoor
open Go.RowKit
set_option linter.unusedSimpArgs false
set_option linter.unusedVariables false

theorem HoldsA.made' {w : World} {T B : Nat} {a0 a1 a2 a3 a4 a5 : Int} (h : B = w.heap.size) : HoldsA (w.alloc (.cells #[.int .i64 a0, .int .i64 a1, .int .i64 a2, .int .i64 a3, .int .i64 a4, .int .i64 a5] T)) T B a0 a1 a2 a3 a4 a5 := by
  subst h; exact HoldsA.made w T a0 a1 a2 a3 a4 a5
theorem zero_rows' (i : Nat) : row 0 i = 0 := by unfold row; simp
set_option maxRecDepth 100000 in
theorem l2Parse_len (s : ByteArray) (hs : s.size ≠ 41) (w : World) : Calls Tryd.prog 7 #[.string s] w fun e w' => e = .returned (.tuple #[(.agg #[.int .i64 (row 0 0), .int .i64 (row 0 1), .int .i64 (row 0 2), .int .i64 (row 0 3), .int .i64 (row 0 4), .int .i64 (row 0 5)]), .bool false]) ∧ Below w.heap.size w w' := by
  have h1 : ¬ (s.size : Int) = 41 := by omega
  go_enter Tryd.func7, Tryd.ntmps7
  go_wp2
  exact bodyPost_ret (v := .tuple #[.agg #[.int .i64 0, .int .i64 0, .int .i64 0, .int .i64 0, .int .i64 0, .int .i64 0], .bool false]) (by simp [results, Tryd.results7, go_sem, *]) rfl ⟨by simp [zero_rows'], (by repeat (first | with_reducible exact Below.refl _ _ | with_reducible assumption | with_reducible refine Below.drew ?_ | with_reducible refine below_drewN ?_ _ | with_reducible refine Below.alloc ?_ ?_ _ | with_reducible refine Below.setCell ?_ ?_ _ | with_reducible refine Below.trans ?_ (Below.mono (by assumption) ?_) | omega | (simp <;> omega)))⟩
def PaRel (l : List UInt8) (w : World) (i : Value) (wr : World) : Prop := ∃ k : Nat, k ≤ 41 ∧ i = .int .i64 (k : Int) ∧ HoldsA wr 24 (w.heap.size) 0 0 0 0 0 0 ∧ HoldsA wr 24 (w.heap.size + 1) (row (psN l k) 0) (row (psN l k) 1) (row (psN l k) 2) (row (psN l k) 3) (row (psN l k) 4) (row (psN l k) 5) ∧ Below w.heap.size w wr
theorem byte_at (s : ByteArray) (k : Nat) (h : k < s.size) (b : UInt8) (e : s.data.toList[k]? = some b) : ((s[k]'h).toNat : Int) = (b.toNat : Int) := by
  have h2 : s.data.toList[k]? = some (s[k]'h) := by
    rw [Array.getElem?_toList]
    exact Array.getElem?_eq_getElem h
  rw [h2] at e
  injection e with e
  rw [e]
set_option maxRecDepth 100000 in
set_option maxHeartbeats 1600000 in
theorem l2Parse_ok (s : ByteArray) (hs : s.size = 41) (ht : Text6 5 s.data.toList) (w : World) : Calls Tryd.prog 7 #[.string s] w fun e w' => e = .returned (.tuple #[(.agg #[.int .i64 (row (psN s.data.toList 41) 0), .int .i64 (row (psN s.data.toList 41) 1), .int .i64 (row (psN s.data.toList 41) 2), .int .i64 (row (psN s.data.toList 41) 3), .int .i64 (row (psN s.data.toList 41) 4), .int .i64 (row (psN s.data.toList 41) 5)]), .bool true]) ∧ Below w.heap.size w w' := by
  have h1 : (s.size : Int) = 41 := by omega
  go_enter Tryd.func7, Tryd.ntmps7
  go_wp2
  go_loopw [5] (PaRel s.data.toList w) (fun i _ => 41 - (intOf i).toNat)
  case atStart =>
    refine ⟨0, by omega, rfl, ?_, ?_, (by repeat (first | with_reducible exact Below.refl _ _ | with_reducible assumption | with_reducible refine Below.drew ?_ | with_reducible refine below_drewN ?_ _ | with_reducible refine Below.alloc ?_ ?_ _ | with_reducible refine Below.setCell ?_ ?_ _ | with_reducible refine Below.trans ?_ (Below.mono (by assumption) ?_) | omega | (simp <;> omega)))⟩
    · exact (HoldsA.made' rfl).alloc _
    · simp only [psN, zero_rows']
      exact HoldsA.made' (by simp)
  case round =>
    obtain ⟨k, hk, rfl, h0, hS, hb⟩ := hrel
    have hr0 := h0.c0
    have hr1 := h0.c1
    have hr2 := h0.c2
    have hr3 := h0.c3
    have hr4 := h0.c4
    have hr5 := h0.c5
    have hrf := h0.free
    have hp0 := hS.c0
    have hp1 := hS.c1
    have hp2 := hS.c2
    have hp3 := hS.c3
    have hp4 := hS.c4
    have hp5 := hS.c5
    have hpf := hS.free
    have hbz := hb.size
    have hl0 := h0.lt
    have hl1 := hS.lt
    by_cases hlt : k < 41
    · have hlt' : (k : Int) < 41 := by omega
      have hks : k < s.size := by omega
      have hks' : (k : Int) < (s.size : Int) := by omega
      have hT := ht.2 k (by omega)
      have hby := byte_at s k hks
      by_cases h6 : k % 7 = 6
      · have h6' : (k : Int) % 7 = 6 := by omega
        have hz : ((s[k]'hks).toNat : Int) = 47 := hby 47 (hT.1 h6)
        have hp := psN_skip s.data.toList k (by rw [hT.1 h6]; decide)
        clear hT hby
        go_wp2
        go_roundw
        case rel => exact ⟨k + 1, by omega, by go_num, h0, by rw [hp]; exact hS, hb⟩
        case measure => simp [intOf]; omega
      · have h6' : ¬ (k : Int) % 7 = 6 := by omega
        have h7' : (k : Int) % 7 < 6 := by omega
        rcases hT.2 (by omega) with hq | hq
        · have hz : ((s[k]'hks).toNat : Int) = 35 := hby 35 hq
          have hfl : ∀ w : World, Calls Tryd.prog 14 #[(.agg #[.int .i64 (row (psN s.data.toList k) 0), .int .i64 (row (psN s.data.toList k) 1), .int .i64 (row (psN s.data.toList k) 2), .int .i64 (row (psN s.data.toList k) 3), .int .i64 (row (psN s.data.toList k) 4), .int .i64 (row (psN s.data.toList k) 5)]), .int .i64 ((k : Int) % 7), .int .i64 ((k : Int) / 7)] w fun e w' => e = .returned (.agg #[.int .i64 (row (psN s.data.toList (k + 1)) 0), .int .i64 (row (psN s.data.toList (k + 1)) 1), .int .i64 (row (psN s.data.toList (k + 1)) 2), .int .i64 (row (psN s.data.toList (k + 1)) 3), .int .i64 (row (psN s.data.toList (k + 1)) 4), .int .i64 (row (psN s.data.toList (k + 1)) 5)]) ∧ Below w.heap.size w w' := fun w => by
            have h := l2Flip_any (psN s.data.toList k) (k % 7) (k / 7) (by omega) (by omega) w
            rw [psN_flip s.data.toList k (by omega) hq, show ((k % 7 : Nat) : Int) = (k : Int) % 7 by omega, show ((k / 7 : Nat) : Int) = (k : Int) / 7 by omega] at h
            exact h
          have HFL := Lib.hid hfl
          clear hT hby hfl hq
          go_wp2_with (go_at_call 14; (with_reducible refine (HFL.out _).mono ?_); rintro e w1 ⟨rfl, hb1⟩; have k0 := h0.below hb1 hl0; have kS := hS.below hb1 hl1; have hx0 := kS.c0; have hx1 := kS.c1; have hx2 := kS.c2; have hx3 := kS.c3; have hx4 := kS.c4; have hx5 := kS.c5; have hxf := kS.free)
          go_roundw
          case rel => exact ⟨k + 1, by omega, by go_num, (by repeat (first | with_reducible assumption | (with_reducible refine HoldsA.far ?_ _ _ (by first | (simp; done) | (simp; omega) | omega)))), kS.store _ _ _ _ _ _, (by repeat (first | with_reducible exact Below.refl _ _ | with_reducible assumption | with_reducible refine Below.drew ?_ | with_reducible refine below_drewN ?_ _ | with_reducible refine Below.alloc ?_ ?_ _ | with_reducible refine Below.setCell ?_ ?_ _ | with_reducible refine Below.trans ?_ (Below.mono (by assumption) ?_) | omega | (simp <;> omega)))⟩
          case measure => simp [intOf]; omega
        · have hz : ((s[k]'hks).toNat : Int) = 46 := hby 46 hq
          have hp := psN_skip s.data.toList k (by rw [hq]; decide)
          clear hT hby
          go_wp2
          go_roundw
          case rel => exact ⟨k + 1, by omega, by go_num, h0, by rw [hp]; exact hS, hb⟩
          case measure => simp [intOf]; omega
    · have e : k = 41 := by omega
      subst e
      go_wp2
      exact bodyPost_ret (v := .tuple #[(.agg #[.int .i64 (row (psN s.data.toList 41) 0), .int .i64 (row (psN s.data.toList 41) 1), .int .i64 (row (psN s.data.toList 41) 2), .int .i64 (row (psN s.data.toList 41) 3), .int .i64 (row (psN s.data.toList 41) 4), .int .i64 (row (psN s.data.toList 41) 5)]), .bool true]) (by simp [results, Tryd.results7, go_sem, *]) rfl ⟨rfl, (by repeat (first | with_reducible exact Below.refl _ _ | with_reducible assumption | with_reducible refine Below.drew ?_ | with_reducible refine below_drewN ?_ _ | with_reducible refine Below.alloc ?_ ?_ _ | with_reducible refine Below.setCell ?_ ?_ _ | with_reducible refine Below.trans ?_ (Below.mono (by assumption) ?_) | omega | (simp <;> omega)))⟩
def GoodAt (l : List UInt8) (i : Nat) : Prop := (i % 7 = 6 → l[i]? = some 47) ∧ (i % 7 < 6 → l[i]? = some 35 ∨ l[i]? = some 46)
def PnRel (l : List UInt8) (w : World) (i : Value) (wr : World) : Prop := ∃ k : Nat, k ≤ 41 ∧ i = .int .i64 (k : Int) ∧ (∀ j, j < k → GoodAt l j) ∧ ∃ Y : Nat, HoldsA wr 24 (w.heap.size) 0 0 0 0 0 0 ∧ HoldsA wr 24 (w.heap.size + 1) (row Y 0) (row Y 1) (row Y 2) (row Y 3) (row Y 4) (row Y 5) ∧ Below w.heap.size w wr
theorem byte_of (s : ByteArray) (k : Nat) (h : k < s.size) (b : UInt8) (e : ((s[k]'h).toNat : Int) = (b.toNat : Int)) : s.data.toList[k]? = some b := by
  have h2 : s.data.toList[k]? = some (s[k]'h) := by
    rw [Array.getElem?_toList]
    exact Array.getElem?_eq_getElem h
  have h3 : s[k]'h = b := UInt8.toNat_inj.1 (by omega)
  rw [h2, h3]
set_option maxRecDepth 100000 in
set_option maxHeartbeats 1600000 in
theorem l2Parse_no (s : ByteArray) (hs : s.size = 41) (ht : ¬ Text6 5 s.data.toList) (w : World) : Calls Tryd.prog 7 #[.string s] w fun e w' => e = .returned (.tuple #[(.agg #[.int .i64 (row 0 0), .int .i64 (row 0 1), .int .i64 (row 0 2), .int .i64 (row 0 3), .int .i64 (row 0 4), .int .i64 (row 0 5)]), .bool false]) ∧ Below w.heap.size w w' := by
  have h1 : (s.size : Int) = 41 := by omega
  have hno : ¬ ∀ j, j < 41 → GoodAt s.data.toList j := fun h => ht ⟨by rw [Array.length_toList]; exact hs, h⟩
  clear ht
  go_enter Tryd.func7, Tryd.ntmps7
  go_wp2
  go_loopw [5] (PnRel s.data.toList w) (fun i _ => 41 - (intOf i).toNat)
  case atStart =>
    refine ⟨0, by omega, rfl, fun j hj => by omega, 0, ?_, ?_, (by repeat (first | with_reducible exact Below.refl _ _ | with_reducible assumption | with_reducible refine Below.drew ?_ | with_reducible refine below_drewN ?_ _ | with_reducible refine Below.alloc ?_ ?_ _ | with_reducible refine Below.setCell ?_ ?_ _ | with_reducible refine Below.trans ?_ (Below.mono (by assumption) ?_) | omega | (simp <;> omega)))⟩
    · exact (HoldsA.made' rfl).alloc _
    · simp only [zero_rows']
      exact HoldsA.made' (by simp)
  case round =>
    obtain ⟨k, hk, rfl, hg, Y, h0, hS, hb⟩ := hrel
    have hr0 := h0.c0
    have hr1 := h0.c1
    have hr2 := h0.c2
    have hr3 := h0.c3
    have hr4 := h0.c4
    have hr5 := h0.c5
    have hrf := h0.free
    have hp0 := hS.c0
    have hp1 := hS.c1
    have hp2 := hS.c2
    have hp3 := hS.c3
    have hp4 := hS.c4
    have hp5 := hS.c5
    have hpf := hS.free
    have hbz := hb.size
    have hl0 := h0.lt
    have hl1 := hS.lt
    by_cases hlt : k < 41
    rotate_left
    · have e : k = 41 := by omega
      subst e
      exact absurd hg hno
    have hlt' : (k : Int) < 41 := by omega
    have hks : k < s.size := by omega
    have hks' : (k : Int) < (s.size : Int) := by omega
    have hby := byte_of s k hks
    have next : GoodAt s.data.toList k → ∀ j, j < k + 1 → GoodAt s.data.toList j := fun h j hj => by
      by_cases e : j = k
      · subst e; exact h
      · exact hg j (by omega)
    have NEXT := Lib.hid next
    clear next hg hno
    by_cases h6 : k % 7 = 6
    · have h6' : (k : Int) % 7 = 6 := by omega
      have h7' : ¬ (k : Int) % 7 < 6 := by omega
      by_cases hz : ((s[k]'hks).toNat : Int) = 47
      · have hn := NEXT.out ⟨fun _ => hby 47 hz, fun h => by omega⟩
        have HN := Lib.hid hn
        clear hby hn NEXT
        go_wp2
        go_roundw
        case rel => exact ⟨k + 1, by omega, by go_num, HN.out, Y, h0, hS, hb⟩
        case measure => simp [intOf]; omega
      · clear hby NEXT
        go_wp2
        exact bodyPost_ret (v := .tuple #[.agg #[.int .i64 0, .int .i64 0, .int .i64 0, .int .i64 0, .int .i64 0, .int .i64 0], .bool false]) (by simp [results, Tryd.results7, go_sem, *]) rfl ⟨by simp [zero_rows'], (by repeat (first | with_reducible exact Below.refl _ _ | with_reducible assumption | with_reducible refine Below.drew ?_ | with_reducible refine below_drewN ?_ _ | with_reducible refine Below.alloc ?_ ?_ _ | with_reducible refine Below.setCell ?_ ?_ _ | with_reducible refine Below.trans ?_ (Below.mono (by assumption) ?_) | omega | (simp <;> omega)))⟩
    · have h6' : ¬ (k : Int) % 7 = 6 := by omega
      have h7' : (k : Int) % 7 < 6 := by omega
      by_cases hz : ((s[k]'hks).toNat : Int) = 46
      · have hn := NEXT.out ⟨fun h => absurd h h6, fun _ => .inr (hby 46 hz)⟩
        have HN := Lib.hid hn
        clear hby hn NEXT
        go_wp2
        go_roundw
        case rel => exact ⟨k + 1, by omega, by go_num, HN.out, Y, h0, hS, hb⟩
        case measure => simp [intOf]; omega
      · by_cases hz2 : ((s[k]'hks).toNat : Int) = 35
        · have hn := NEXT.out ⟨fun h => absurd h h6, fun _ => .inl (hby 35 hz2)⟩
          have HN := Lib.hid hn
          have hfl : ∀ w : World, Calls Tryd.prog 14 #[(.agg #[.int .i64 (row Y 0), .int .i64 (row Y 1), .int .i64 (row Y 2), .int .i64 (row Y 3), .int .i64 (row Y 4), .int .i64 (row Y 5)]), .int .i64 ((k : Int) % 7), .int .i64 ((k : Int) / 7)] w fun e w' => e = .returned (.agg #[.int .i64 (row (Y ^^^ 2 ^ (6 * (k / 7) + k % 7)) 0), .int .i64 (row (Y ^^^ 2 ^ (6 * (k / 7) + k % 7)) 1), .int .i64 (row (Y ^^^ 2 ^ (6 * (k / 7) + k % 7)) 2), .int .i64 (row (Y ^^^ 2 ^ (6 * (k / 7) + k % 7)) 3), .int .i64 (row (Y ^^^ 2 ^ (6 * (k / 7) + k % 7)) 4), .int .i64 (row (Y ^^^ 2 ^ (6 * (k / 7) + k % 7)) 5)]) ∧ Below w.heap.size w w' := fun w => by
            have h := l2Flip_any Y (k % 7) (k / 7) (by omega) (by omega) w
            rw [show ((k % 7 : Nat) : Int) = (k : Int) % 7 by omega, show ((k / 7 : Nat) : Int) = (k : Int) / 7 by omega] at h
            exact h
          have HFL := Lib.hid hfl
          clear hby hn NEXT hfl
          generalize Y ^^^ 2 ^ (6 * (k / 7) + k % 7) = Z at *
          go_wp2_with (go_at_call 14; (with_reducible refine (HFL.out _).mono ?_); rintro e w1 ⟨rfl, hb1⟩; have k0 := h0.below hb1 hl0; have kS := hS.below hb1 hl1; have hx0 := kS.c0; have hx1 := kS.c1; have hx2 := kS.c2; have hx3 := kS.c3; have hx4 := kS.c4; have hx5 := kS.c5; have hxf := kS.free)
          go_roundw
          case rel => exact ⟨k + 1, by omega, by go_num, HN.out, Z, (by repeat (first | with_reducible assumption | (with_reducible refine HoldsA.far ?_ _ _ (by first | (simp; done) | (simp; omega) | omega)))), kS.store _ _ _ _ _ _, (by repeat (first | with_reducible exact Below.refl _ _ | with_reducible assumption | with_reducible refine Below.drew ?_ | with_reducible refine below_drewN ?_ _ | with_reducible refine Below.alloc ?_ ?_ _ | with_reducible refine Below.setCell ?_ ?_ _ | with_reducible refine Below.trans ?_ (Below.mono (by assumption) ?_) | omega | (simp <;> omega)))⟩
          case measure => simp [intOf]; omega
        · clear hby NEXT
          go_wp2
          exact bodyPost_ret (v := .tuple #[.agg #[.int .i64 0, .int .i64 0, .int .i64 0, .int .i64 0, .int .i64 0, .int .i64 0], .bool false]) (by simp [results, Tryd.results7, go_sem, *]) rfl ⟨by simp [zero_rows'], (by repeat (first | with_reducible exact Below.refl _ _ | with_reducible assumption | with_reducible refine Below.drew ?_ | with_reducible refine below_drewN ?_ _ | with_reducible refine Below.alloc ?_ ?_ _ | with_reducible refine Below.setCell ?_ ?_ _ | with_reducible refine Below.trans ?_ (Below.mono (by assumption) ?_) | omega | (simp <;> omega)))⟩
end Go.Proofs.YtlemkphajmnbdaaDoor
