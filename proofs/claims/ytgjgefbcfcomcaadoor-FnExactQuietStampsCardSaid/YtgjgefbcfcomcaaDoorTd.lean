/-
  The program's table of prints: contracts of singles, tableOf, whole and solve. Under: the library's own table of the lowest bits lies as its initialiser lays it.
-/
import Derived.Test.YtgjgefbcfcomcaaDoorTc
namespace Go.Proofs.YtgjgefbcfcomcaaDoor
open Go.RowKit
set_option linter.unusedSimpArgs false
set_option linter.unusedVariables false

/-- the slice v holds the sets of G -/
def ReadsU (w : World) (v : Value) (G : List Nat) : Prop :=
  (v = .slice none 0 0 ∧ G = []) ∨ ∃ g cap : Nat, v = .slice (some ⟨g, 0, none⟩) G.length cap ∧ g < w.heap.size ∧ ∀ j, j < G.length → w.cell? ⟨g, j, none⟩ = some (.int .u64 ((G.getD j 0 : Nat) : Int))
theorem OwnsU.reads {w : World} {B : Nat} {v : Value} {G : List Nat} (h : OwnsU w B v G) : ReadsU w v G := by
  rcases h.2 with ⟨h1, h2⟩ | ⟨g, cap, cur, hv, hg, hh, hc1, hc2, hc3, hc4⟩
  · have : G = [] := List.eq_nil_of_length_eq_zero h2
    subst this
    exact .inl ⟨h1, rfl⟩
  · refine .inr ⟨g, cap, hv, (Array.getElem?_eq_some_iff.1 hh).1, fun j hj => ?_⟩
    have h5 : (List.take (G.length * 1) cur.toList)[j]? = some (.int .u64 ((G.getD j 0 : Nat) : Int)) := by
      rw [hc4]
      unfold usV
      rw [List.getElem?_map, List.getElem?_eq_getElem hj, List.getD_eq_getElem?_getD, List.getElem?_eq_getElem hj]
      rfl
    rw [List.getElem?_take, if_pos (by omega)] at h5
    simpa [World.cell?, hh] using h5
theorem wrap_u64n (a : Nat) (h : a < 18446744073709551616) : IntKind.u64.wrap ((a : Nat) : Int) = ((a : Nat) : Int) := by
  simp only [IntKind.wrap, IntKind.bits, IntKind.signed, Bool.false_and, Bool.false_eq_true, if_false]
  omega
def SgRel (w : World) (o i : Value) (wr : World) : Prop :=
  ∃ k : Nat, k ≤ 36 ∧ i = .int .i64 (k : Int) ∧ OwnsU wr w.heap.size o (sgl k) ∧ Below w.heap.size w wr
def SinglesEnd (w : World) (e : Ending) (w' : World) : Prop := ∃ v, e = .returned v ∧ OwnsU w' w.heap.size v (sgl 36) ∧ Below w.heap.size w w'
theorem ownsU_empty (w : World) (B : Nat) (hB : B ≤ w.heap.size) : OwnsU (w.alloc (.cells #[] 57)) B (.slice (some ⟨w.heap.size, 0, none⟩) 0 0) [] :=
  World.ownsRow_lit (e := 57) w #[] 0 hB (by unfold maxLen; omega) (by simp)
set_option maxRecDepth 100000 in
theorem singles_any (w : World) : Calls Tryd.prog 60 #[] w (SinglesEnd w) := by
  obtain ⟨i0, hi, iz0, iz1, iz2⟩ := info_parts infoSet
  go_enter Tryd.func60, Tryd.ntmps60
  go_wp2
  go_loopw [1, 4] (SgRel w) (fun _ i _ => 36 - (intOf i).toNat)
  case atStart => exact ⟨0, Nat.zero_le _, rfl, ownsU_empty w _ (Nat.le_refl _), (by repeat (first | with_reducible exact Below.refl _ _ | with_reducible assumption | with_reducible refine Below.drew ?_ | with_reducible refine below_drewN ?_ _ | with_reducible refine Below.alloc ?_ ?_ _ | with_reducible refine Below.setCell ?_ ?_ _ | with_reducible refine Below.trans ?_ (Below.mono (by assumption) ?_) | omega | (simp <;> omega)))⟩
  case round =>
    obtain ⟨k, hk, rfl, hown, hbw⟩ := hrel
    have hlen := sgl_len k
    by_cases hlt : k < 36
    · have hlt' : (k : Int) < 36 := by omega
      have hp64 : (2 : Nat) ^ k < 18446744073709551616 := Nat.lt_of_lt_of_le (Nat.pow_lt_pow_right (by omega) hlt) (by decide)
      have hpI : ((2 : Int) ^ k) = ((2 ^ k : Nat) : Int) := by simp
      have hw : IntKind.u64.wrap ((2 : Int) ^ k) = ((2 ^ k : Nat) : Int) := by rw [hpI]; exact wrap_u64n _ hp64
      generalize hP : 2 ^ k = P2 at hw hp64 hpI
      have hPP := Lib.hid hP
      clear hP hpI
      go_wp2_with (at_builtin; refine wpList_append_own _ rfl _ _ 70 rfl w.heap.size 57 i0 (.int .u64 0) 1 8 Tryd.underlying70 hi iz0 iz1 iz2 rfl (by decide) _ _ _ rfl (World.ownsRow.alloc hown _) ⟨wr.heap.size, 0, none⟩ 1 1 [.int .u64 ((P2 : Nat) : Int)] rfl rfl ?c1 ?c2 ?c3 ?c4 ?c5 ?_)
      case c1 =>
        intro j u hj
        match j, hj with
        | 0, hj => simp at hj; subst hj; simp [Addr.add]
      case c2 => intro u hu; simp at hu; subst hu; rfl
      case c3 => unfold maxLen; omega
      case c4 => omega
      case c5 => have := hbw.size; simp; omega
      intro v' w1 hown' hgrow hnil
      have hB : Below w.heap.size w w1 := (hbw.alloc hbw.size _).grown hgrow (by have := hbw.size; simp; omega) (fun j hj => (hown.lt j hj).1)
      have hO : OwnsU w1 w.heap.size v' (sgl (k + 1)) := by
        rw [sgl_succ, hPP.out]
        unfold OwnsU usV at *
        simpa [hlen] using hown'
      clear hown' hgrow hnil hown
      go_wp2
      go_roundw
      case rel => exact ⟨k + 1, by omega, by go_num, hO, hB⟩
      case measure => simp [intOf]; omega
    · have e : k = 36 := by omega
      subst e
      go_wp2
      go_ret
      exact ⟨_, rfl, hown, hbw⟩

def TofEnd (X : Nat) (G : List Nat) (w : World) (e : Ending) (w' : World) : Prop :=
  ∃ P Q L, e = .returned (.pointer (some ⟨w.heap.size, 0, none⟩)) ∧ TblAt w' w.heap.size P Q L ∧ TS X G P Q L ∧ Below w.heap.size w w'
def TofRel (X : Nat) (G : List Nat) (w : World) (i : Value) (wr : World) : Prop :=
  ∃ (k : Nat) (P Q : Nat → Nat) (L : List Nat), k ≤ G.length ∧ i = .int .i64 (k : Int) ∧ TblAt wr w.heap.size P Q L ∧ TS X (G.take k) P Q L ∧ Below w.heap.size w wr
theorem TS.len {X : Nat} {G : List Nat} {P Q : Nat → Nat} {L : List Nat} (h : TS X G P Q L) : L.length ≤ G.length := by
  obtain ⟨R, ht, _⟩ := h
  have := ht.len
  omega
theorem zc_eq : Tryd.zeroCells72 = (List.replicate 72 (Value.int .u64 0) ++ [Value.slice none 0 0]).toArray := by kernel_rfl
theorem zc_at (j : Nat) (hj : j < 72) : Tryd.zeroCells72[j]? = some (.int .u64 0) := by
  rw [zc_eq, List.getElem?_toArray, List.getElem?_append_left (by rw [List.length_replicate]; exact hj), List.getElem?_replicate, if_pos hj]
theorem zc_72 : Tryd.zeroCells72[72]? = some (.slice none 0 0) := by
  rw [zc_eq, List.getElem?_toArray, List.getElem?_append_right (by rw [List.length_replicate]; omega), List.length_replicate]
  rfl
theorem tbl_new (w : World) : TblAt (w.alloc (.cells Tryd.zeroCells72 72)) w.heap.size (fun _ => 0) (fun _ => 0) [] := by
  have hc : ∀ j, (w.alloc (.cells Tryd.zeroCells72 72)).cell? ⟨w.heap.size, j, none⟩ = Tryd.zeroCells72[j]? := fun j => World.cell?_alloc_new w _ _ j
  refine ⟨fun k hk => ⟨by rw [hc, zc_at _ (by omega)]; rfl, by rw [hc, zc_at _ (by omega)]; rfl⟩, ⟨_, (hc 72).trans zc_72, ?_⟩, fun o => World.frozen?_alloc_new w _ _ o⟩
  exact World.ownsRow_nil _ _ _ _
set_option maxRecDepth 100000 in
theorem tableOf_any (X : Nat) (hX : Vs X) (v : Value) (G : List Nat) (hG : ∀ x, x ∈ G → Vs x) (hGl : G.length ≤ 36) (w : World) (hr : ReadsU w v G) (hz : TabZ w) :
    Calls Tryd.prog 61 #[.int .u64 (X : Int), v] w (TofEnd X G w) := by
  have hzl := hz.lt
  have HZ := Lib.hid hz
  have HG := Lib.hid hG
  have HX := Lib.hid hX
  have hN := Lib.hid (tbl_new w)
  clear hz hG hX
  rcases hr with ⟨rfl, rfl⟩ | ⟨g, cap, rfl, hg, hcell⟩
  · go_enter Tryd.func61, Tryd.ntmps61
    go_wp2
    refine wp_loop_rounds 2 ?_
    rw [rounds_succ]
    go_wp2
    go_ret
    exact ⟨_, _, _, rfl, hN.out, TS.start X, (by repeat (first | with_reducible exact Below.refl _ _ | with_reducible assumption | with_reducible refine Below.drew ?_ | with_reducible refine below_drewN ?_ _ | with_reducible refine Below.alloc ?_ ?_ _ | with_reducible refine Below.setCell ?_ ?_ _ | with_reducible refine Below.trans ?_ (Below.mono (by assumption) ?_) | omega | (simp <;> omega)))⟩
  · go_enter Tryd.func61, Tryd.ntmps61
    go_wp2
    go_loopw [12] (TofRel X G w) (fun i _ => G.length - (intOf i).toNat)
    case atStart => exact ⟨0, _, _, _, Nat.zero_le _, rfl, hN.out, by rw [List.take_zero]; exact TS.start X, (by repeat (first | with_reducible exact Below.refl _ _ | with_reducible assumption | with_reducible refine Below.drew ?_ | with_reducible refine below_drewN ?_ _ | with_reducible refine Below.alloc ?_ ?_ _ | with_reducible refine Below.setCell ?_ ?_ _ | with_reducible refine Below.trans ?_ (Below.mono (by assumption) ?_) | omega | (simp <;> omega)))⟩
    case round =>
      obtain ⟨k, P, Q, L, hk, rfl, hT, hS, hbw⟩ := hrel
      have hbsz := hbw.size
      by_cases hlt : k < G.length
      · have hlt' : (k : Int) < (G.length : Int) := by omega
        have hc := (hbw.cell (p := ⟨g, k, none⟩) hg).trans (hcell k hlt)
        have hgw : g < wr.heap.size := by omega
        have hxm : G.getD k 0 ∈ G := by rw [List.getD_eq_getElem?_getD, List.getElem?_eq_getElem hlt]; exact List.getElem_mem hlt
        have htk : G.take (k + 1) = G.take k ++ [G.getD k 0] := by rw [List.take_add_one, List.getD_eq_getElem?_getD, List.getElem?_eq_getElem hlt]; rfl
        have hx := HG.out _ hxm
        have hzw := HZ.out.below hbw hzl
        have hLl : L.length ≤ 1000 := by have := hS.len; rw [List.length_take] at this; omega
        generalize G.getD k 0 = x at *
        have hPr := print_any X x HX.out hx
        have hcases : ∀ W, TblAt W w.heap.size P Q L → TabZ W → ∃ P' Q' L', TS X (G.take (k + 1)) P' Q' L' ∧ Calls Tryd.prog 87 #[.pointer (some ⟨w.heap.size, 0, none⟩), .agg #[.int .u64 ((printS X x : Nat) : Int), .int .u64 (x : Int)]] W fun e w' => e = .returned (.tuple #[]) ∧ TblAt w' w.heap.size P' Q' L' ∧ Below w.heap.size W w' := by
          intro W hW hZW
          rw [htk]
          by_cases h0 : (rdN P Q (printS X x) x 36).1 = 0
          · exact ⟨_, _, _, hS.add0 h0, add_quiet _ P Q L _ _ (printS_vs _ _) hx hS.vs hLl W hW h0⟩
          · exact ⟨_, _, _, hS.add1 hx h0, add_pair _ P Q L _ _ (printS_vs _ _) hx hS.vs W hW hZW h0⟩
        have hPR := Lib.hid hPr
        have HC := Lib.hid hcases
        have HT := Lib.hid hT
        have HZW := Lib.hid hzw
        clear hPr hcases hT hS hzw hx hxm htk
        go_wp2_with (first | (go_at_call 55; (with_reducible refine (hPR.out _).mono ?_); rintro e w1 ⟨rfl, hb⟩; have hT1 := HT.out.below hb (Nat.le_refl _); obtain ⟨P', Q', L', hS', hadd⟩ := HC.out w1 hT1 (HZW.out.below hb (by omega)); have hAD := Lib.hid hadd; clear hadd) | (go_at_call 87; (with_reducible refine (hAD.out).mono ?_); rintro e w2 ⟨rfl, hT2, hb2⟩))
        have hB1 := hbw.trans (hb.mono hbw.size)
        have hB2 : Below w.heap.size w w2 := hB1.trans hb2
        go_roundw
        case rel => exact ⟨k + 1, P', Q', L', by omega, by go_num, hT2, hS', hB2⟩
        case measure => simp [intOf]; omega
      · have e : k = G.length := by omega
        subst e
        rw [List.take_length] at hS
        go_wp2
        go_ret
        exact ⟨_, _, _, rfl, hT, hS, hbw⟩
end Go.Proofs.YtgjgefbcfcomcaaDoor
