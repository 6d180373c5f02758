/-
  The text of a sheet: contracts of the program's text, and of SheetText. No conditions.
-/
import Derived.Test.YtphoapmmliiimaaSa
import Derived.Test.YtphoapmmliiimaaShelf
namespace Go.Proofs.Ytphoapmmliiimaa
open Go.RowKit
set_option linter.unusedSimpArgs false
set_option linter.unusedVariables false

theorem infoByte : (Try.prog.info? 5).map (fun i => (i.zero, i.size, i.bytes)) = some (some (.int .u8 0), 1, 1) := by kernel_rfl
theorem infoStr : (Try.prog.info? 9).map (fun i => (i.zero, i.size, i.bytes)) = some (some (.string ⟨#[]⟩), 1, 16) := by kernel_rfl
def byV (l : List UInt8) : List Value := l.map fun c => .int .u8 (c.toNat : Int)
def stV (L : List (List UInt8)) : List Value := L.map fun l => .string (bz l)
/-- v is no nil slice and holds the bytes l, or the strings L -/
def OwnsBy (w : World) (B : Nat) (v : Value) (l : List UInt8) : Prop := w.ownsRow B 5 1 v l.length (byV l) ∧ v ≠ .slice none 0 0
def OwnsSt (w : World) (B : Nat) (v : Value) (L : List (List UInt8)) : Prop := w.ownsRow B 9 1 v L.length (stV L) ∧ v ≠ .slice none 0 0
theorem has_at (X y x : Nat) (hX : Vs X) (hx : x < 6) (hy : y < 6) (w : World) : Calls Try.prog 73 #[.int .u64 (X : Int), .int .i64 ((y : Int) * 6 + (x : Int))] w fun e w' => e = .returned (.bool (X.testBit (6 * y + x))) ∧ w = w' := by
  have h := has_any X (6 * y + x) hX (by omega) w
  rw [show ((6 * y + x : Nat) : Int) = (y : Int) * 6 + (x : Int) by omega] at h
  exact h
theorem OwnsBy.row {w : World} {B : Nat} {v : Value} {l : List UInt8} (h : OwnsBy w B v l) :
    ∃ g cap, v = .slice (some ⟨g, 0, none⟩) l.length cap ∧ g < w.heap.size ∧ ∀ j (hj : j < l.length), w.cell? ((⟨g, 0, none⟩ : Addr).add j) = some (.int .u8 ((l[j]).toNat : Int)) := by
  obtain ⟨hown, hnn⟩ := h
  rcases Joins.ownsRow_forms hown with ⟨rfl, _⟩ | ⟨g, cap, rfl⟩
  · exact absurd rfl hnn
  · have hl := hown.lt g rfl
    refine ⟨g, cap, rfl, hl.2, fun j hj => ?_⟩
    refine hown.cells rfl j _ ?_
    unfold byV
    rw [List.getElem?_map, List.getElem?_eq_getElem hj]
    rfl
theorem OwnsSt.row {w : World} {B : Nat} {v : Value} {L : List (List UInt8)} (h : OwnsSt w B v L) :
    ∃ g cap, v = .slice (some ⟨g, 0, none⟩) L.length cap ∧ g < w.heap.size ∧ L.length ≤ cap ∧ ∀ (j : Nat) x, (L.map bz)[j]? = some x → w.cell? ⟨g, 0 + j, none⟩ = some (.string x) := by
  obtain ⟨hown, hnn⟩ := h
  rcases hown.2 with ⟨h1, _⟩ | ⟨g, cap, cur, hv, hg, hh, hc1, hc2, hc3, hc4⟩
  · exact absurd h1 hnn
  · refine ⟨g, cap, hv, (Array.getElem?_eq_some_iff.1 hh).1, hc1, ?_⟩
    intro j x hj
    have hjl : j < L.length := by have := (List.getElem?_eq_some_iff.1 hj).1; simpa using this
    have h5 : (List.take (L.length * 1) cur.toList)[j]? = some (.string x) := by
      rw [hc4]
      unfold stV
      rw [List.getElem?_map] at hj ⊢
      rw [List.getElem?_eq_getElem hjl] at hj ⊢
      simp at hj ⊢
      exact hj
    rw [List.getElem?_take, if_pos (by omega)] at h5
    rw [Nat.zero_add]
    simpa [World.cell?, hh] using h5
/-- the rows of a sheet, as texts -/
def rwL (X y : Nat) : List (List UInt8) := (List.range y).map fun k => rwB X k 6
theorem rwL_succ (X y : Nat) : rwL X (y + 1) = rwL X y ++ [rwB X y 6] := by unfold rwL; rw [List.range_succ, List.map_append]; rfl
theorem rwL_len (X y : Nat) : (rwL X y).length = y := by unfold rwL; simp
theorem join_rows (X : Nat) : Lib.join (((rwL X 6).map bz).map (·.data.toList)) (⟨#[47]⟩ : ByteArray).data.toList = txR X 6 := txR_join X
def TtRelY (X : Nat) (w : World) (o i : Value) (wr : World) : Prop :=
  ∃ y : Nat, y ≤ 6 ∧ i = .int .i64 (y : Int) ∧ OwnsSt wr w.heap.size o (rwL X y) ∧ Below w.heap.size w wr
def TtRel (X y S : Nat) (w : World) (o i : Value) (wo wr : World) : Prop :=
  ∃ x : Nat, x ≤ 6 ∧ i = .int .i64 (x : Int) ∧ OwnsBy wr S o (rwB X y x) ∧ Below S wo wr
set_option maxRecDepth 100000 in
set_option maxHeartbeats 3200000 in
theorem text_any (X : Nat) (hX : Vs X) (w : World) : Calls Try.prog 63 #[.int .u64 (X : Int)] w fun e w' => e = .returned (.string (bz (txR X 6))) ∧ Below w.heap.size w w' := by
  obtain ⟨i0, hi, iz0, iz1, iz2⟩ := info_parts infoByte
  obtain ⟨j0, hj, jz0, jz1, jz2⟩ := info_parts infoStr
  go_enter Try.func63, Try.ntmps63
  go_wp2
  go_loopw [3, 8] (TtRelY X w) (fun _ i _ => 6 - (intOf i).toNat)
  case atStart => exact ⟨0, Nat.zero_le _, rfl, ⟨World.ownsRow_lit (e := 9) w #[] 0 (Nat.le_refl _) (by unfold maxLen; omega) (by simp), by simp⟩, (by repeat (first | with_reducible exact Below.refl _ _ | with_reducible assumption | with_reducible refine Below.drew ?_ | with_reducible refine below_drewN ?_ _ | with_reducible refine Below.alloc ?_ ?_ _ | with_reducible refine Below.setCell ?_ ?_ _ | with_reducible refine Below.trans ?_ (Below.mono (by assumption) ?_) | omega | (simp <;> omega)))⟩
  case round =>
    obtain ⟨y, hy, rfl, ⟨hown, hnn⟩, hbw⟩ := hrel
    have hbsz := hbw.size
    have hlen := rwL_len X y
    by_cases hlt : y < 6
    · have hlt' : (y : Int) < 6 := by omega
      have hLL := Lib.hid hlen
      clear hlen
      go_wp2
      obtain ⟨wo, rfl⟩ : ∃ wo : World, wo = wr := ⟨_, rfl⟩
      go_loopw [5, 12] (fun o i wr => TtRel X y wo.heap.size w o i wo wr) (fun _ i _ => 6 - (intOf i).toNat)
      case atStart => exact ⟨0, Nat.zero_le _, rfl, ⟨World.ownsRow_lit (e := 5) wo #[] 0 (Nat.le_refl _) (by unfold maxLen; omega) (by simp), by simp⟩, (by repeat (first | with_reducible exact Below.refl _ _ | with_reducible assumption | with_reducible refine Below.drew ?_ | with_reducible refine below_drewN ?_ _ | with_reducible refine Below.alloc ?_ ?_ _ | with_reducible refine Below.setCell ?_ ?_ _ | with_reducible refine Below.trans ?_ (Below.mono (by assumption) ?_) | omega | (simp <;> omega)))⟩
      case round =>
        obtain ⟨x, hx, rfl, ⟨howb, hnb⟩, hbb⟩ := hrel
        have hbbz := hbb.size
        by_cases hlx : x < 6
        · have hlx' : (x : Int) < 6 := by omega
          have hn := rwB_succ X y x
          have hlb := rwB_len X y x
          have hHS := has_at X y x hX hlx hlt
          cases hbit : X.testBit (6 * y + x) with
          | true =>
            rw [hbit] at hHS
            have hsg : sgn X (6 * y + x) = 35 := by unfold sgn; rw [hbit]; rfl
            rw [hsg] at hn
            have HS := Lib.hid hHS
            have HN := Lib.hid hn
            have HL := Lib.hid hlb
            clear hHS hn hlb hbit hsg
            go_wp2_with (first | (go_at_call 73; (with_reducible refine (HS.out _).mono ?_); rintro e w1 ⟨rfl, rfl⟩) | (at_builtin; refine wpList_append_own _ rfl _ _ 80 rfl wo.heap.size 5 i0 (.int .u8 0) 1 1 Try.underlying80 hi iz0 iz1 iz2 rfl (by decide) _ _ _ rfl (howb.alloc _) ⟨wr.heap.size, 0, none⟩ 1 1 [.int .u8 35] rfl rfl ?c1 ?c2 ?c3 ?c4 ?c5 ?_))
            case c1 =>
              intro j u hj
              match j, hj with
              | 0, hj => simp at hj; subst hj; simp [Addr.add]
            case c2 => intro u hu; simp at hu; subst hu; rfl
            case c3 => have := HL.out; unfold maxLen; omega
            case c4 => have := HL.out; omega
            case c5 => simp; omega
            intro v' w2 hown' hgrow hnil
            have hB : Below wo.heap.size wo w2 := (hbb.alloc hbbz _).grown hgrow (by simp; omega) (fun j hj => (howb.lt j hj).1)
            have hN : v' ≠ .slice none 0 0 := fun h => by first | exact hnil h | exact hnb (hnil.1 h).1
            have hO : OwnsBy w2 wo.heap.size v' (rwB X y (x + 1)) := by
              rw [HN.out]
              refine ⟨?_, hN⟩
              have h6 := hown'
              rw [List.length_append]
              unfold byV at h6 ⊢
              rw [List.map_append]
              exact h6
            clear hown' hgrow hnil howb hnb hN
            go_wp2
            go_roundw
            case rel => exact ⟨x + 1, by omega, by go_num, hO, hB⟩
            case measure => simp [intOf]; omega
          | false =>
            rw [hbit] at hHS
            have hsg : sgn X (6 * y + x) = 46 := by unfold sgn; rw [hbit]; rfl
            rw [hsg] at hn
            have HS := Lib.hid hHS
            have HN := Lib.hid hn
            have HL := Lib.hid hlb
            clear hHS hn hlb hbit hsg
            go_wp2_with (first | (go_at_call 73; (with_reducible refine (HS.out _).mono ?_); rintro e w1 ⟨rfl, rfl⟩) | (at_builtin; refine wpList_append_own _ rfl _ _ 80 rfl wo.heap.size 5 i0 (.int .u8 0) 1 1 Try.underlying80 hi iz0 iz1 iz2 rfl (by decide) _ _ _ rfl (howb.alloc _) ⟨wr.heap.size, 0, none⟩ 1 1 [.int .u8 46] rfl rfl ?c1 ?c2 ?c3 ?c4 ?c5 ?_))
            case c1 =>
              intro j u hj
              match j, hj with
              | 0, hj => simp at hj; subst hj; simp [Addr.add]
            case c2 => intro u hu; simp at hu; subst hu; rfl
            case c3 => have := HL.out; unfold maxLen; omega
            case c4 => have := HL.out; omega
            case c5 => simp; omega
            intro v' w2 hown' hgrow hnil
            have hB : Below wo.heap.size wo w2 := (hbb.alloc hbbz _).grown hgrow (by simp; omega) (fun j hj => (howb.lt j hj).1)
            have hN : v' ≠ .slice none 0 0 := fun h => by first | exact hnil h | exact hnb (hnil.1 h).1
            have hO : OwnsBy w2 wo.heap.size v' (rwB X y (x + 1)) := by
              rw [HN.out]
              refine ⟨?_, hN⟩
              have h6 := hown'
              rw [List.length_append]
              unfold byV at h6 ⊢
              rw [List.map_append]
              exact h6
            clear hown' hgrow hnil howb hnb hN
            go_wp2
            go_roundw
            case rel => exact ⟨x + 1, by omega, by go_num, hO, hB⟩
            case measure => simp [intOf]; omega
        · have e : x = 6 := by omega
          subst e
          obtain ⟨g, cap, rfl, hg, hcell⟩ := OwnsBy.row ⟨howb, hnb⟩
          have hcv : (convert 80 9 (.slice (some ⟨g, 0, none⟩) (rwB X y 6).length cap)).run Try.prog wr = .ok (.string (bz (rwB X y 6))) wr :=
            run_convert_bytes_back (P := Try.prog) wr 80 9 5 ⟨g, 0, none⟩ cap (rwB X y 6) Try.underlying80 Try.underlying5 Try.underlying9 hcell
          have hown1 := owns_below hbb hown
          have hB0 : Below w.heap.size w wr := hbw.trans (hbb.mono hbsz)
          have hB0z := hB0.size
          clear hcell
          go_wp2_with (at_builtin; refine wpList_append_own _ rfl _ _ 79 rfl w.heap.size 9 j0 (.string ⟨#[]⟩) 1 16 Try.underlying79 hj jz0 jz1 jz2 rfl (by decide) _ _ _ rfl (hown1.alloc _) ⟨wr.heap.size, 0, none⟩ 1 1 [.string (bz (rwB X y 6))] rfl rfl ?c1 ?c2 ?c3 ?c4 ?c5 ?_)
          case c1 =>
            intro j u hj
            match j, hj with
            | 0, hj => simp at hj; subst hj; simp [Addr.add]
          case c2 => intro u hu; simp at hu; subst hu; rfl
          case c3 => have := hLL.out; unfold maxLen; omega
          case c4 => have := hLL.out; omega
          case c5 => simp; omega
          intro v' w2 hown' hgrow hnil
          have hB : Below w.heap.size w w2 := (hB0.alloc hB0z _).grown hgrow (by simp; omega) (fun j hj => (hown.lt j hj).1)
          have hN : v' ≠ .slice none 0 0 := fun h => by first | exact hnil h | exact hnn (hnil.1 h).1
          have hO : OwnsSt w2 w.heap.size v' (rwL X (y + 1)) := by
            rw [rwL_succ]
            refine ⟨?_, hN⟩
            have h6 := hown'
            rw [List.length_append]
            unfold stV at h6 ⊢
            rw [List.map_append]
            exact h6
          clear hown' hgrow hnil hN hcv
          go_wp2
          go_roundw
          case rel => exact ⟨y + 1, by omega, by go_num, hO, hB⟩
          case measure => simp [intOf]; omega
    · have e : y = 6 := by omega
      subst e
      obtain ⟨g, cap, rfl, hg, hcap, hcell⟩ := OwnsSt.row ⟨hown, hnn⟩
      have hjr := join_rows X
      have hJ := Try.strings_Join g 0 cap ((rwL X 6).map bz) ⟨#[47]⟩ wr hcell hg (by rw [List.length_map, hlen]; omega) (by rw [List.length_map]; exact hcap) (by rw [hjr]; have := txR_len X 6; omega)
      rw [hjr, List.length_map] at hJ
      have hJJ := Lib.hid hJ
      clear hJ hjr hcell hlen
      go_wp2_with (go_at_call 74; (with_reducible refine (hJJ.out).mono ?_); rintro e w1 ⟨rfl, hb⟩; obtain ⟨hc, hf, hT, hz⟩ := bfacts hb; (try simp only [World.size_alloc, World.size_setCell, World.size_drew, size_drewN] at hc hf hT hz); (try (have hzA := Nat.lt_of_succ_le hz)); (try (have hl0 : w.heap.size ≤ w1.heap.size := by omega)); (try (have hz0 : w.heap.size < w1.heap.size := by omega)); (try (have hz1 : w.heap.size + 1 < w1.heap.size := by omega)); (try (have hz2 : w.heap.size + 1 + 1 < w1.heap.size := by omega)); (try (have hz3 : w.heap.size + 1 + 1 + 1 < w1.heap.size := by omega)); (try (have hz4 : w.heap.size + 1 + 1 + 1 + 1 < w1.heap.size := by omega)))
      go_ret
      exact ⟨rfl, (by repeat (first | with_reducible exact Below.refl _ _ | with_reducible assumption | with_reducible refine Below.drew ?_ | with_reducible refine below_drewN ?_ _ | with_reducible refine Below.alloc ?_ ?_ _ | with_reducible refine Below.setCell ?_ ?_ _ | with_reducible refine Below.trans ?_ (Below.mono (by assumption) ?_) | omega | (simp <;> omega)))⟩
set_option maxRecDepth 100000 in
theorem specSheetText_ok (X : Nat) (hX : Vs X) (w : World) : Calls Try.prog 39 #[(.agg #[.int .i64 (row X 0), .int .i64 (row X 1), .int .i64 (row X 2), .int .i64 (row X 3), .int .i64 (row X 4), .int .i64 (row X 5)])] w fun e w' => e = .returned (.tuple #[.string (bz (txR X 6)), .bool true]) ∧ Below w.heap.size w w' := by
  go_enter Try.func39, Try.ntmps39
  go_wp2_with (first | (go_at_call 41; (with_reducible refine (l2Sheet_ok _ _).mono ?_); rintro e w1 ⟨rfl, hb⟩; obtain ⟨hc, hf, hT, hz⟩ := bfacts hb; (try simp only [World.size_alloc, World.size_setCell, World.size_drew, size_drewN] at hc hf hT hz); (try (have hzA := Nat.lt_of_succ_le hz)); (try (have hl0 : w.heap.size ≤ w1.heap.size := by omega)); (try (have hz0 : w.heap.size < w1.heap.size := by omega)); (try (have hz1 : w.heap.size + 1 < w1.heap.size := by omega)); (try (have hz2 : w.heap.size + 1 + 1 < w1.heap.size := by omega)); (try (have hz3 : w.heap.size + 1 + 1 + 1 < w1.heap.size := by omega)); (try (have hz4 : w.heap.size + 1 + 1 + 1 + 1 < w1.heap.size := by omega))) | (go_at_call 62; (with_reducible refine (l2Text_any X _).mono ?_); rintro e w1 ⟨rfl, hb⟩; obtain ⟨hc, hf, hT, hz⟩ := bfacts hb; (try simp only [World.size_alloc, World.size_setCell, World.size_drew, size_drewN] at hc hf hT hz); (try (have hzA := Nat.lt_of_succ_le hz)); (try (have hl0 : w.heap.size ≤ w1.heap.size := by omega)); (try (have hz0 : w.heap.size < w1.heap.size := by omega)); (try (have hz1 : w.heap.size + 1 < w1.heap.size := by omega)); (try (have hz2 : w.heap.size + 1 + 1 < w1.heap.size := by omega)); (try (have hz3 : w.heap.size + 1 + 1 + 1 < w1.heap.size := by omega)); (try (have hz4 : w.heap.size + 1 + 1 + 1 + 1 < w1.heap.size := by omega))))
  go_ret2
  exact ⟨rfl, (by repeat (first | with_reducible exact Below.refl _ _ | with_reducible assumption | with_reducible refine Below.drew ?_ | with_reducible refine below_drewN ?_ _ | with_reducible refine Below.alloc ?_ ?_ _ | with_reducible refine Below.setCell ?_ ?_ _ | with_reducible refine Below.trans ?_ (Below.mono (by assumption) ?_) | omega | (simp <;> omega)))⟩
set_option maxRecDepth 100000 in
theorem implSheetText_ok (X : Nat) (hX : Vs X) (w : World) : Calls Try.prog 40 #[(.agg #[.int .i64 (row X 0), .int .i64 (row X 1), .int .i64 (row X 2), .int .i64 (row X 3), .int .i64 (row X 4), .int .i64 (row X 5)])] w fun e w' => e = .returned (.tuple #[.string (bz (txR X 6)), .bool true]) ∧ Below w.heap.size w w' := by
  go_enter Try.func40, Try.ntmps40
  go_wp2_with (first | (go_at_call 43; (with_reducible refine (setOf_ok _ hX _).mono ?_); rintro e w1 ⟨rfl, hb⟩; obtain ⟨hc, hf, hT, hz⟩ := bfacts hb; (try simp only [World.size_alloc, World.size_setCell, World.size_drew, size_drewN] at hc hf hT hz); (try (have hzA := Nat.lt_of_succ_le hz)); (try (have hl0 : w.heap.size ≤ w1.heap.size := by omega)); (try (have hz0 : w.heap.size < w1.heap.size := by omega)); (try (have hz1 : w.heap.size + 1 < w1.heap.size := by omega)); (try (have hz2 : w.heap.size + 1 + 1 < w1.heap.size := by omega)); (try (have hz3 : w.heap.size + 1 + 1 + 1 < w1.heap.size := by omega)); (try (have hz4 : w.heap.size + 1 + 1 + 1 + 1 < w1.heap.size := by omega))) | (go_at_call 63; (with_reducible refine (text_any X hX _).mono ?_); rintro e w1 ⟨rfl, hb⟩; obtain ⟨hc, hf, hT, hz⟩ := bfacts hb; (try simp only [World.size_alloc, World.size_setCell, World.size_drew, size_drewN] at hc hf hT hz); (try (have hzA := Nat.lt_of_succ_le hz)); (try (have hl0 : w.heap.size ≤ w1.heap.size := by omega)); (try (have hz0 : w.heap.size < w1.heap.size := by omega)); (try (have hz1 : w.heap.size + 1 < w1.heap.size := by omega)); (try (have hz2 : w.heap.size + 1 + 1 < w1.heap.size := by omega)); (try (have hz3 : w.heap.size + 1 + 1 + 1 < w1.heap.size := by omega)); (try (have hz4 : w.heap.size + 1 + 1 + 1 + 1 < w1.heap.size := by omega))))
  go_ret2
  exact ⟨rfl, (by repeat (first | with_reducible exact Below.refl _ _ | with_reducible assumption | with_reducible refine Below.drew ?_ | with_reducible refine below_drewN ?_ _ | with_reducible refine Below.alloc ?_ ?_ _ | with_reducible refine Below.setCell ?_ ?_ _ | with_reducible refine Below.trans ?_ (Below.mono (by assumption) ?_) | omega | (simp <;> omega)))⟩
set_option maxRecDepth 100000 in
theorem specSheetText_no (a0 a1 a2 a3 a4 a5 : Int) (hn : ¬ Ok6 a0 a1 a2 a3 a4 a5) (w : World) : Calls Try.prog 39 #[(.agg #[.int .i64 a0, .int .i64 a1, .int .i64 a2, .int .i64 a3, .int .i64 a4, .int .i64 a5])] w fun e w' => e = .returned (.tuple #[.string ⟨#[]⟩, .bool false]) ∧ Below w.heap.size w w' := by
  go_enter Try.func39, Try.ntmps39
  go_wp2_with (go_at_call 41; (with_reducible refine (l2Sheet_no _ _ _ _ _ _ (by assumption) _).mono ?_); rintro e w1 ⟨rfl, hb⟩; obtain ⟨hc, hf, hT, hz⟩ := bfacts hb; (try simp only [World.size_alloc, World.size_setCell, World.size_drew, size_drewN] at hc hf hT hz); (try (have hzA := Nat.lt_of_succ_le hz)); (try (have hl0 : w.heap.size ≤ w1.heap.size := by omega)); (try (have hz0 : w.heap.size < w1.heap.size := by omega)); (try (have hz1 : w.heap.size + 1 < w1.heap.size := by omega)); (try (have hz2 : w.heap.size + 1 + 1 < w1.heap.size := by omega)); (try (have hz3 : w.heap.size + 1 + 1 + 1 < w1.heap.size := by omega)); (try (have hz4 : w.heap.size + 1 + 1 + 1 + 1 < w1.heap.size := by omega)))
  go_ret2
  exact ⟨rfl, (by repeat (first | with_reducible exact Below.refl _ _ | with_reducible assumption | with_reducible refine Below.drew ?_ | with_reducible refine below_drewN ?_ _ | with_reducible refine Below.alloc ?_ ?_ _ | with_reducible refine Below.setCell ?_ ?_ _ | with_reducible refine Below.trans ?_ (Below.mono (by assumption) ?_) | omega | (simp <;> omega)))⟩
set_option maxRecDepth 100000 in
theorem implSheetText_no (a0 a1 a2 a3 a4 a5 : Int) (hn : ¬ Ok6 a0 a1 a2 a3 a4 a5) (w : World) : Calls Try.prog 40 #[(.agg #[.int .i64 a0, .int .i64 a1, .int .i64 a2, .int .i64 a3, .int .i64 a4, .int .i64 a5])] w fun e w' => e = .returned (.tuple #[.string ⟨#[]⟩, .bool false]) ∧ Below w.heap.size w w' := by
  go_enter Try.func40, Try.ntmps40
  go_wp2_with (go_at_call 43; (with_reducible refine (setOf_no _ _ _ _ _ _ (by assumption) _).mono ?_); rintro e w1 ⟨rfl, hb⟩; obtain ⟨hc, hf, hT, hz⟩ := bfacts hb; (try simp only [World.size_alloc, World.size_setCell, World.size_drew, size_drewN] at hc hf hT hz); (try (have hzA := Nat.lt_of_succ_le hz)); (try (have hl0 : w.heap.size ≤ w1.heap.size := by omega)); (try (have hz0 : w.heap.size < w1.heap.size := by omega)); (try (have hz1 : w.heap.size + 1 < w1.heap.size := by omega)); (try (have hz2 : w.heap.size + 1 + 1 < w1.heap.size := by omega)); (try (have hz3 : w.heap.size + 1 + 1 + 1 < w1.heap.size := by omega)); (try (have hz4 : w.heap.size + 1 + 1 + 1 + 1 < w1.heap.size := by omega)))
  go_ret2
  exact ⟨rfl, (by repeat (first | with_reducible exact Below.refl _ _ | with_reducible assumption | with_reducible refine Below.drew ?_ | with_reducible refine below_drewN ?_ _ | with_reducible refine Below.alloc ?_ ?_ _ | with_reducible refine Below.setCell ?_ ?_ _ | with_reducible refine Below.trans ?_ (Below.mono (by assumption) ?_) | omega | (simp <;> omega)))⟩
end Go.Proofs.Ytphoapmmliiimaa
