/-
  The reference's draws of sheets, motions and turns: what they leave. No conditions.
-/
import Derived.Test.YtidaoalnngmoaaaHa
import Derived.Test.YtidaoalnngmoaaaDj
namespace Go.Proofs.Ytidaoalnngmoaaa
open Go.RowKit
set_option linter.unusedSimpArgs false
set_option linter.unusedVariables false

theorem grown_drew {a w : World} {row : Option Nat} (h : a.grownBy w row) : a.grownBy w.drew row := ⟨h.os, h.tape, h.output, h.size, h.block⟩
theorem grown_drewN {a w : World} {row : Option Nat} (h : a.grownBy w row) (n : Nat) : a.grownBy (w.drewN n) row := ⟨h.os, h.tape, h.output, h.size, h.block⟩
theorem grown_new {a w : World} {row : Option Nat} {b : Nat} (h : a.grownBy w row) (hb : a.heap.size ≤ b) (i : Nat) (v : Value) : a.grownBy (w.setCell ⟨b, i, none⟩ v) row :=
  ⟨h.os, h.tape, h.output, by simpa using h.size, fun k hk hne => by rw [Below.heap_setCell _ _ _ _ (by show k ≠ b; omega)]; exact h.block k hk hne⟩
theorem grown_below' {a w w' : World} {row : Option Nat} {B : Nat} (h : a.grownBy w row) (hb : Below B w w') (hB : a.heap.size ≤ B) : a.grownBy w' row :=
  ⟨hb.os.trans h.os, hb.tape.trans h.tape, hb.output.trans h.output, Nat.le_trans h.size hb.size, fun k hk hne => (hb.block k (by omega)).trans (h.block k hk hne)⟩
theorem HoldsA.grown {w w' : World} {T B C : Nat} {a0 a1 a2 a3 a4 a5 : Int} (h : HoldsA w T B a0 a1 a2 a3 a4 a5) (hg : w.grownBy w' (some C)) (hne : C < B) : HoldsA w' T B a0 a1 a2 a3 a4 a5 :=
  (hg.block B h.lt (fun e => by injection e with e; omega)).trans h
theorem Cur.new {w : World} {C len n b i : Nat} {cv v : Value} (h : Cur w C cv len n) (hb : C < b) : Cur (w.setCell ⟨b, i, none⟩ v) C cv len n := by
  have hl := h.lt
  obtain ⟨a, s, h1, h2, h3⟩ := h
  refine ⟨a, s, ?_, h2, h3.step (by omega) (fun k hk => ?_)⟩
  · rw [Below.heap_setCell _ _ _ _ (by show C ≠ b; omega)]; exact h1
  · rw [Below.heap_setCell _ _ _ _ (by show k ≠ b; omega)]
theorem Cur.alloc {w : World} {C len n : Nat} {cv : Value} (h : Cur w C cv len n) (o : Obj) : Cur (w.alloc o) C cv len n :=
  h.below ((Below.refl w.heap.size w).alloc (Nat.le_refl _) o)
theorem Cur.drewN {w : World} {C len n : Nat} {cv : Value} (h : Cur w C cv len n) (k : Nat) : Cur (w.drewN k) C cv len n := h
theorem Cur.below' {w w' : World} {C len n B : Nat} {cv : Value} (h : Cur w C cv len n) (hb : Below B w w') (hB : w.heap.size ≤ B) : Cur w' C cv len n := h.below (hb.mono hB)
/-- among at a list that is written out -/
theorem among_lit (C len n : Nat) (cv : Value) (P : Int → Prop) (vs : List Int) (hq : 1 ≤ vs.length ∧ vs.length ≤ 200) (hn : n ≤ 1000000) (hlen : len ≤ 1000000) (W : World) (hcur : Cur W C cv len n) (hP : ∀ z ∈ vs, P z)
    (L : Nat) (hL : L = W.heap.size) (cs : Array Value) (hcs : cs = (vs.map (Value.int .i64)).toArray) (T q : Nat) (hqq : q = vs.length) :
    Calls Try.prog 119 #[.pointer (some ⟨C, 0, none⟩), .slice (some ⟨L, 0, none⟩) q q] (W.alloc (.cells cs T)) (AmongEnd C cv len n P (W.alloc (.cells cs T))) := by
  subst hL hqq hcs
  refine among_any C len n cv P W.heap.size vs.length vs.length hq hn hlen _ (hcur.alloc _) hcur.lt (fun j hj => ?_)
  refine ⟨vs[j], ?_, hP _ (List.getElem_mem hj)⟩
  have h := heap_alloc_new W (.cells (vs.map (Value.int .i64)).toArray T)
  unfold World.cell?
  rw [h]
  simp [hj]
theorem am_few (C len n : Nat) (cv : Value) (hn : n ≤ 1000000) (hlen : len ≤ 1000000) (W : World) (hcur : Cur W C cv len n) (L : Nat) (hL : L = W.heap.size) (T : Nat) :
    Calls Try.prog 119 #[.pointer (some ⟨C, 0, none⟩), .slice (some ⟨L, 0, none⟩) 5 5] (W.alloc (.cells #[.int .i64 2, .int .i64 4, .int .i64 3, .int .i64 1, .int .i64 6] T)) (AmongEnd C cv len n (fun z => 1 ≤ z ∧ z ≤ 6) (W.alloc (.cells #[.int .i64 2, .int .i64 4, .int .i64 3, .int .i64 1, .int .i64 6] T))) :=
  among_lit C len n cv _ [2, 4, 3, 1, 6] (by decide) hn hlen W hcur (by decide) L hL _ rfl T 5 rfl
theorem am_odd (C len n : Nat) (cv : Value) (hn : n ≤ 1000000) (hlen : len ≤ 1000000) (W : World) (hcur : Cur W C cv len n) (L : Nat) (hL : L = W.heap.size) (T : Nat) :
    Calls Try.prog 119 #[.pointer (some ⟨C, 0, none⟩), .slice (some ⟨L, 0, none⟩) 3 3] (W.alloc (.cells #[.int .i64 (-1), .int .i64 64, .int .i64 4611686018427387904] T)) (AmongEnd C cv len n (fun z => z = z) (W.alloc (.cells #[.int .i64 (-1), .int .i64 64, .int .i64 4611686018427387904] T))) :=
  among_lit C len n cv _ [-1, 64, 4611686018427387904] (by decide) hn hlen W hcur (by decide) L hL _ rfl T 3 rfl
theorem am_wide (C len n : Nat) (cv : Value) (hn : n ≤ 1000000) (hlen : len ≤ 1000000) (W : World) (hcur : Cur W C cv len n) (L : Nat) (hL : L = W.heap.size) (T : Nat) :
    Calls Try.prog 119 #[.pointer (some ⟨C, 0, none⟩), .slice (some ⟨L, 0, none⟩) 4 4] (W.alloc (.cells #[.int .i64 2, .int .i64 3, .int .i64 2, .int .i64 6] T)) (AmongEnd C cv len n (fun z => 1 ≤ z ∧ z ≤ 6) (W.alloc (.cells #[.int .i64 2, .int .i64 3, .int .i64 2, .int .i64 6] T))) :=
  among_lit C len n cv _ [2, 3, 2, 6] (by decide) hn hlen W hcur (by decide) L hL _ rfl T 4 rfl
theorem am_many (C len n : Nat) (cv : Value) (hn : n ≤ 1000000) (hlen : len ≤ 1000000) (W : World) (hcur : Cur W C cv len n) (L : Nat) (hL : L = W.heap.size) (T : Nat) :
    Calls Try.prog 119 #[.pointer (some ⟨C, 0, none⟩), .slice (some ⟨L, 0, none⟩) 6 6] (W.alloc (.cells #[.int .i64 3, .int .i64 2, .int .i64 1, .int .i64 4, .int .i64 5, .int .i64 0] T)) (AmongEnd C cv len n (fun z => 0 ≤ z ∧ z ≤ 5) (W.alloc (.cells #[.int .i64 3, .int .i64 2, .int .i64 1, .int .i64 4, .int .i64 5, .int .i64 0] T))) :=
  among_lit C len n cv _ [3, 2, 1, 4, 5, 0] (by decide) hn hlen W hcur (by decide) L hL _ rfl T 6 rfl
theorem am_k3 (C len n : Nat) (cv : Value) (hn : n ≤ 1000000) (hlen : len ≤ 1000000) (W : World) (hcur : Cur W C cv len n) (L : Nat) (hL : L = W.heap.size) (T : Nat) :
    Calls Try.prog 119 #[.pointer (some ⟨C, 0, none⟩), .slice (some ⟨L, 0, none⟩) 3 3] (W.alloc (.cells #[.int .i64 (-1), .int .i64 8, .int .i64 0] T)) (AmongEnd C cv len n (fun z => z = z) (W.alloc (.cells #[.int .i64 (-1), .int .i64 8, .int .i64 0] T))) :=
  among_lit C len n cv _ [-1, 8, 0] (by decide) hn hlen W hcur (by decide) L hL _ rfl T 3 rfl
theorem am_x3 (C len n : Nat) (cv : Value) (hn : n ≤ 1000000) (hlen : len ≤ 1000000) (W : World) (hcur : Cur W C cv len n) (L : Nat) (hL : L = W.heap.size) (T : Nat) :
    Calls Try.prog 119 #[.pointer (some ⟨C, 0, none⟩), .slice (some ⟨L, 0, none⟩) 3 3] (W.alloc (.cells #[.int .i64 6, .int .i64 (-1), .int .i64 4611686018427387904] T)) (AmongEnd C cv len n (fun z => z = z) (W.alloc (.cells #[.int .i64 6, .int .i64 (-1), .int .i64 4611686018427387904] T))) :=
  among_lit C len n cv _ [6, -1, 4611686018427387904] (by decide) hn hlen W hcur (by decide) L hL _ rfl T 3 rfl
theorem am_t3 (C len n : Nat) (cv : Value) (hn : n ≤ 1000000) (hlen : len ≤ 1000000) (W : World) (hcur : Cur W C cv len n) (L : Nat) (hL : L = W.heap.size) (T : Nat) :
    Calls Try.prog 119 #[.pointer (some ⟨C, 0, none⟩), .slice (some ⟨L, 0, none⟩) 3 3] (W.alloc (.cells #[.int .i64 (-1), .int .i64 8, .int .i64 4611686018427387904] T)) (AmongEnd C cv len n (fun z => z = z) (W.alloc (.cells #[.int .i64 (-1), .int .i64 8, .int .i64 4611686018427387904] T))) :=
  among_lit C len n cv _ [-1, 8, 4611686018427387904] (by decide) hn hlen W hcur (by decide) L hL _ rfl T 3 rfl
/-- what drawing a sheet leaves -/
def SheetEnd (C : Nat) (cv : Value) (len n : Nat) (w : World) (e : Ending) (w' : World) : Prop :=
  ∃ a0 a1 a2 a3 a4 a5 : Int, e = .returned (.agg #[.int .i64 a0, .int .i64 a1, .int .i64 a2, .int .i64 a3, .int .i64 a4, .int .i64 a5]) ∧ Cur w' C cv len n ∧ w.grownBy w' (some C)
def ShMem (C : Nat) (cv : Value) (len n S : Nat) (w wr : World) : Prop :=
  ∃ X : Nat, Vs X ∧ HoldsA wr 33 (S) (row X 0) (row X 1) (row X 2) (row X 3) (row X 4) (row X 5) ∧ HoldsA wr 33 (w.heap.size) 0 0 0 0 0 0 ∧ Cur wr C cv len n ∧ w.grownBy wr (some C)
def ShRelY (C : Nat) (cv : Value) (len n S : Nat) (w : World) (i : Value) (wr : World) : Prop := ∃ y : Nat, y ≤ 6 ∧ i = .int .i64 (y : Int) ∧ ShMem C cv len (n + 1 + 6 * y) S w wr
def ShRel (C : Nat) (cv : Value) (len n S y : Nat) (w : World) (i : Value) (wr : World) : Prop := ∃ x : Nat, x ≤ 6 ∧ i = .int .i64 (x : Int) ∧ ShMem C cv len (n + 1 + 6 * y + x) S w wr
set_option maxRecDepth 100000 in
set_option maxHeartbeats 6400000 in
theorem sheet_draw (C len n : Nat) (cv : Value) (hn : n ≤ 900000) (hlen : len ≤ 1000000) (w : World) (hcur : Cur w C cv len n) : Calls Try.prog 99 #[.pointer (some ⟨C, 0, none⟩)] w (SheetEnd C cv len (n + 50) w) := by
  have hCl := hcur.lt
  go_enter Try.func99, Try.ntmps99
  go_wp2_with (go_at_call 119; (with_reducible refine (am_few C len n cv (by omega) hlen _ (hcur.alloc _) _ (by simp) _).mono ?_); rintro e w1 ⟨few, rfl, ⟨few0, few1⟩, hcu, hg⟩; obtain ⟨hc, hf, hT, hz⟩ := gfacts hg; (try simp only [World.size_alloc, World.size_setCell, World.size_drew, size_drewN] at hc hf hT hz); (try (have hzA := Nat.lt_of_succ_le hz)); (try (have hl0 : w.heap.size ≤ w1.heap.size := by omega)); (try (have hz0 : w.heap.size < w1.heap.size := by omega)); (try (have hz1 : w.heap.size + 1 < w1.heap.size := by omega)))
  obtain ⟨wS, rfl⟩ : ∃ wS : World, wS = w1 := ⟨_, rfl⟩
  have hwb : w.heap.size < wS.heap.size := by omega
  have hCS : C < wS.heap.size := by omega
  have hgS : w.grownBy wS (some C) := (by repeat (first | with_reducible assumption | with_reducible exact World.grownBy.refl _ _ | with_reducible refine Lib.grownBy_allocR ?_ _ | with_reducible refine grown_drew ?_ | with_reducible refine grown_drewN ?_ _ | with_reducible refine grown_new ?_ ?_ _ _ | with_reducible refine Lib.grownBy_trans ?_ (by with_reducible assumption) | with_reducible refine grown_below' ?_ (by with_reducible assumption) ?_ | omega | (simp <;> omega)))
  have hR0 : HoldsA wS 33 (w.heap.size) 0 0 0 0 0 0 := by
    refine HoldsA.grown ?_ hg hCl
    (repeat (first | with_reducible assumption | (with_reducible refine HoldsA.made' ?_; (simp; done)) | with_reducible refine HoldsA.alloc ?_ _ | with_reducible refine HoldsA.drew ?_ | with_reducible refine HoldsA.drewN ?_ _ | (with_reducible refine HoldsA.far ?_ _ _ (by first | (simp; done) | (simp; omega))) | (with_reducible refine HoldsA.below ?_ (by with_reducible assumption) (by first | (simp; done) | (simp; omega) | omega)) | (with_reducible refine Holds2.made' ?_; (simp; done)) | with_reducible refine Holds2.alloc ?_ _ | with_reducible refine Holds2.drew ?_ | with_reducible refine Holds2.drewN ?_ _ | (with_reducible refine Holds2.far ?_ _ _ (by first | (simp; done) | (simp; omega))) | (with_reducible refine Holds2.below ?_ (by with_reducible assumption) (by first | (simp; done) | (simp; omega) | omega)) | (with_reducible refine Holds3.made' ?_; (simp; done)) | with_reducible refine Holds3.alloc ?_ _ | with_reducible refine Holds3.drew ?_ | with_reducible refine Holds3.drewN ?_ _ | (with_reducible refine Holds3.far ?_ _ _ (by first | (simp; done) | (simp; omega))) | (with_reducible refine Holds3.below ?_ (by with_reducible assumption) (by first | (simp; done) | (simp; omega) | omega))))
  go_loopw [5] (ShRelY C cv len n wS.heap.size w) (fun i _ => 6 - (intOf i).toNat)
  case atStart =>
    refine ⟨0, Nat.zero_le _, rfl, 0, by unfold Vs; omega, ?_, ?_, (hcu.alloc _).mono (by omega), (by repeat (first | with_reducible assumption | with_reducible exact World.grownBy.refl _ _ | with_reducible refine Lib.grownBy_allocR ?_ _ | with_reducible refine grown_drew ?_ | with_reducible refine grown_drewN ?_ _ | with_reducible refine grown_new ?_ ?_ _ _ | with_reducible refine Lib.grownBy_trans ?_ (by with_reducible assumption) | with_reducible refine grown_below' ?_ (by with_reducible assumption) ?_ | omega | (simp <;> omega)))⟩
    · simp only [zero_rows']
      (repeat (first | with_reducible assumption | (with_reducible refine HoldsA.made' ?_; (simp; done)) | with_reducible refine HoldsA.alloc ?_ _ | with_reducible refine HoldsA.drew ?_ | with_reducible refine HoldsA.drewN ?_ _ | (with_reducible refine HoldsA.far ?_ _ _ (by first | (simp; done) | (simp; omega))) | (with_reducible refine HoldsA.below ?_ (by with_reducible assumption) (by first | (simp; done) | (simp; omega) | omega)) | (with_reducible refine Holds2.made' ?_; (simp; done)) | with_reducible refine Holds2.alloc ?_ _ | with_reducible refine Holds2.drew ?_ | with_reducible refine Holds2.drewN ?_ _ | (with_reducible refine Holds2.far ?_ _ _ (by first | (simp; done) | (simp; omega))) | (with_reducible refine Holds2.below ?_ (by with_reducible assumption) (by first | (simp; done) | (simp; omega) | omega)) | (with_reducible refine Holds3.made' ?_; (simp; done)) | with_reducible refine Holds3.alloc ?_ _ | with_reducible refine Holds3.drew ?_ | with_reducible refine Holds3.drewN ?_ _ | (with_reducible refine Holds3.far ?_ _ _ (by first | (simp; done) | (simp; omega))) | (with_reducible refine Holds3.below ?_ (by with_reducible assumption) (by first | (simp; done) | (simp; omega) | omega))))
    · (repeat (first | with_reducible assumption | (with_reducible refine HoldsA.made' ?_; (simp; done)) | with_reducible refine HoldsA.alloc ?_ _ | with_reducible refine HoldsA.drew ?_ | with_reducible refine HoldsA.drewN ?_ _ | (with_reducible refine HoldsA.far ?_ _ _ (by first | (simp; done) | (simp; omega))) | (with_reducible refine HoldsA.below ?_ (by with_reducible assumption) (by first | (simp; done) | (simp; omega) | omega)) | (with_reducible refine Holds2.made' ?_; (simp; done)) | with_reducible refine Holds2.alloc ?_ _ | with_reducible refine Holds2.drew ?_ | with_reducible refine Holds2.drewN ?_ _ | (with_reducible refine Holds2.far ?_ _ _ (by first | (simp; done) | (simp; omega))) | (with_reducible refine Holds2.below ?_ (by with_reducible assumption) (by first | (simp; done) | (simp; omega) | omega)) | (with_reducible refine Holds3.made' ?_; (simp; done)) | with_reducible refine Holds3.alloc ?_ _ | with_reducible refine Holds3.drew ?_ | with_reducible refine Holds3.drewN ?_ _ | (with_reducible refine Holds3.far ?_ _ _ (by first | (simp; done) | (simp; omega))) | (with_reducible refine Holds3.below ?_ (by with_reducible assumption) (by first | (simp; done) | (simp; omega) | omega))))
  case round =>
    clear hcu hg hgS hc hf hR0
    obtain ⟨y, hy, rfl, hm⟩ := hrel
    by_cases hlt : y < 6
    · have hlt' : (y : Int) < 6 := by omega
      go_wp2
      obtain ⟨wo, rfl⟩ : ∃ wo : World, wo = wr := ⟨_, rfl⟩
      go_loopw [6] (ShRel C cv len n wS.heap.size y w) (fun i _ => 6 - (intOf i).toNat)
      case atStart => exact ⟨0, Nat.zero_le _, rfl, hm⟩
      case round =>
        clear hm
        obtain ⟨x, hx, rfl, X, hX, h0, h1, hcu, hgw⟩ := hrel
        have hgsz := hgw.size
        by_cases hlx : x < 6
        · have hlx' : (x : Int) < 6 := by omega
          have ho0 := h0.c0
          have ho1 := h0.c1
          have ho2 := h0.c2
          have ho3 := h0.c3
          have ho4 := h0.c4
          have ho5 := h0.c5
          have hof := h0.free
          have hlw := h0.lt
          have hlw1 := h1.lt
          have hfl := Lib.hid (l2Flip_any X x y hlx hlt)
          have hfv := flip_vs hX (6 * y + x) (by omega)
          have hON := Lib.hid (one_any C len (n + 1 + 6 * y + x) cv few ⟨by omega, by omega⟩ (by omega) hlen wr hcu)
          go_wp2_with (go_at_call 107; (with_reducible refine (hON.out).mono ?_); rintro e w1 ⟨b, rfl, hcu1, hg⟩; obtain ⟨hc, hf, hT, hz⟩ := gfacts hg; (try simp only [World.size_alloc, World.size_setCell, World.size_drew, size_drewN] at hc hf hT hz); (try (have hzA := Nat.lt_of_succ_le hz)); (try (have hl0 : w.heap.size ≤ w1.heap.size := by omega)); (try (have hz0 : w.heap.size < w1.heap.size := by omega)); (try (have hz1 : w.heap.size + 1 < w1.heap.size := by omega)); (have gxS : wS.heap.size < w1.heap.size := by omega); have h01 := h0.grown hg (by omega); have h11 := h1.grown hg hCl; have hgw1 := Lib.grownBy_trans hgw hg)
          · obtain ⟨wa, rfl⟩ : ∃ wa : World, wa = w1 := ⟨_, rfl⟩
            go_wp2_with (go_at_call 120; (with_reducible refine (hfl.out _).mono ?_); rintro e w1 ⟨rfl, hb⟩; obtain ⟨hc, hf, hT, hz⟩ := bfacts hb; (try simp only [World.size_alloc, World.size_setCell, World.size_drew, size_drewN] at hc hf hT hz); (try (have hzA := Nat.lt_of_succ_le hz)); (try (have hl0 : w.heap.size ≤ w1.heap.size := by omega)); (try (have hz0 : w.heap.size < w1.heap.size := by omega)); (try (have hz1 : w.heap.size + 1 < w1.heap.size := by omega)); (try (have hz2 : w.heap.size + 1 + 1 < w1.heap.size := by omega)); (try (have hz3 : w.heap.size + 1 + 1 + 1 < w1.heap.size := by omega)); (try (have hz4 : w.heap.size + 1 + 1 + 1 + 1 < w1.heap.size := by omega)); (try (have gxwSheapsize : wS.heap.size < w1.heap.size := by omega)))
            have e0 := (h01.below hb h01.lt).store (row (X ^^^ 2 ^ (6 * y + x)) 0) (row (X ^^^ 2 ^ (6 * y + x)) 1) (row (X ^^^ 2 ^ (6 * y + x)) 2) (row (X ^^^ 2 ^ (6 * y + x)) 3) (row (X ^^^ 2 ^ (6 * y + x)) 4) (row (X ^^^ 2 ^ (6 * y + x)) 5)
            have e1 := h11.below hb h11.lt
            have e2 := hcu1.below hb
            have e3 : w.grownBy w1 (some C) := Lib.grownBy_below hgw1 hb
            have hww : w.heap.size ≤ wS.heap.size := by omega
            go_roundw
            case rel =>
              refine ⟨x + 1, by omega, by go_num, X ^^^ 2 ^ (6 * y + x), hfv, e0, ?_, (by repeat (first | with_reducible assumption | with_reducible refine Cur.new ?_ ?_ | with_reducible refine Cur.alloc ?_ _ | with_reducible refine Cur.drewN ?_ _ | omega)), (by repeat (first | with_reducible assumption | with_reducible exact World.grownBy.refl _ _ | with_reducible refine Lib.grownBy_allocR ?_ _ | with_reducible refine grown_drew ?_ | with_reducible refine grown_drewN ?_ _ | with_reducible refine grown_new ?_ ?_ _ _ | with_reducible refine Lib.grownBy_trans ?_ (by with_reducible assumption) | with_reducible refine grown_below' ?_ (by with_reducible assumption) ?_ | omega | (simp <;> omega)))⟩
              (repeat (first | with_reducible assumption | (with_reducible refine HoldsA.made' ?_; (simp; done)) | with_reducible refine HoldsA.alloc ?_ _ | with_reducible refine HoldsA.drew ?_ | with_reducible refine HoldsA.drewN ?_ _ | (with_reducible refine HoldsA.far ?_ _ _ (by first | (simp; done) | (simp; omega))) | (with_reducible refine HoldsA.below ?_ (by with_reducible assumption) (by first | (simp; done) | (simp; omega) | omega)) | (with_reducible refine Holds2.made' ?_; (simp; done)) | with_reducible refine Holds2.alloc ?_ _ | with_reducible refine Holds2.drew ?_ | with_reducible refine Holds2.drewN ?_ _ | (with_reducible refine Holds2.far ?_ _ _ (by first | (simp; done) | (simp; omega))) | (with_reducible refine Holds2.below ?_ (by with_reducible assumption) (by first | (simp; done) | (simp; omega) | omega)) | (with_reducible refine Holds3.made' ?_; (simp; done)) | with_reducible refine Holds3.alloc ?_ _ | with_reducible refine Holds3.drew ?_ | with_reducible refine Holds3.drewN ?_ _ | (with_reducible refine Holds3.far ?_ _ _ (by first | (simp; done) | (simp; omega))) | (with_reducible refine Holds3.below ?_ (by with_reducible assumption) (by first | (simp; done) | (simp; omega) | omega))))
            case measure => simp [intOf]; omega
          · go_roundw
            case rel => exact ⟨x + 1, by omega, by go_num, X, hX, h01, h11, hcu1, hgw1⟩
            case measure => simp [intOf]; omega
        · have e : x = 6 := by omega
          subst e
          go_wp2
          go_roundw
          case rel => exact ⟨y + 1, by omega, by go_num, X, hX, h0, h1, hcu.mono (by omega), hgw⟩
          case measure => simp [intOf]; omega
    · have e : y = 6 := by omega
      subst e
      obtain ⟨X, hX, h0, h1, hcu, hgw⟩ := hm
      have hgsz := hgw.size
      have ho0 := h0.c0
      have ho1 := h0.c1
      have ho2 := h0.c2
      have ho3 := h0.c3
      have ho4 := h0.c4
      have ho5 := h0.c5
      have hof := h0.free
      have hr0 := h1.c0
      have hr1 := h1.c1
      have hr2 := h1.c2
      have hr3 := h1.c3
      have hr4 := h1.c4
      have hr5 := h1.c5
      have hrf := h1.free
      have hlw := h0.lt
      have hlw1 := h1.lt
      have hPK := Lib.hid (pick_any C len (n + 1 + 6 * 6) cv 40 ⟨by omega, by omega⟩ (by omega) hlen wr hcu)
      clear hcu
      go_wp2_with (go_at_call 121; (with_reducible refine (hPK.out).mono ?_); rintro e w1 ⟨r, rfl, ⟨r0, r1⟩, hcu1, hg⟩; obtain ⟨hc, hf, hT, hz⟩ := gfacts hg; (try simp only [World.size_alloc, World.size_setCell, World.size_drew, size_drewN] at hc hf hT hz); (try (have hzA := Nat.lt_of_succ_le hz)); (try (have hl0 : w.heap.size ≤ w1.heap.size := by omega)); (try (have hz0 : w.heap.size < w1.heap.size := by omega)); (try (have hz1 : w.heap.size + 1 < w1.heap.size := by omega)); (have gxS : wS.heap.size < w1.heap.size := by omega); have h01 := h0.grown hg (by omega); have h11 := h1.grown hg hCl; have hgw1 := Lib.grownBy_trans hgw hg)
      all_goals try (first
        | (refine bodyPost_ret (v := .agg #[.int .i64 (0), .int .i64 (0), .int .i64 (0), .int .i64 (0), .int .i64 (0), .int .i64 (0)]) ?_ rfl ⟨_, _, _, _, _, _, rfl, Cur.mono (n := n + 1 + 6 * 6 + 1) ?_ (by omega), ?_⟩; (focus (simp [results, Try.results99, go_sem, *]; done)); (focus (repeat (first | with_reducible assumption | with_reducible refine Cur.new ?_ ?_ | with_reducible refine Cur.alloc ?_ _ | with_reducible refine Cur.drewN ?_ _ | omega))); (focus (repeat (first | with_reducible assumption | with_reducible exact World.grownBy.refl _ _ | with_reducible refine Lib.grownBy_allocR ?_ _ | with_reducible refine grown_drew ?_ | with_reducible refine grown_drewN ?_ _ | with_reducible refine grown_new ?_ ?_ _ _ | with_reducible refine Lib.grownBy_trans ?_ (by with_reducible assumption) | with_reducible refine grown_below' ?_ (by with_reducible assumption) ?_ | omega | (simp <;> omega)))))
        | (refine bodyPost_ret (v := .agg #[.int .i64 (row X 0), .int .i64 (row X 1), .int .i64 (row X 2), .int .i64 (row X 3), .int .i64 (row X 4), .int .i64 (row X 5)]) ?_ rfl ⟨_, _, _, _, _, _, rfl, Cur.mono (n := n + 1 + 6 * 6 + 1) ?_ (by omega), ?_⟩; (focus (simp [results, Try.results99, go_sem, *]; done)); (focus (repeat (first | with_reducible assumption | with_reducible refine Cur.new ?_ ?_ | with_reducible refine Cur.alloc ?_ _ | with_reducible refine Cur.drewN ?_ _ | omega))); (focus (repeat (first | with_reducible assumption | with_reducible exact World.grownBy.refl _ _ | with_reducible refine Lib.grownBy_allocR ?_ _ | with_reducible refine grown_drew ?_ | with_reducible refine grown_drewN ?_ _ | with_reducible refine grown_new ?_ ?_ _ _ | with_reducible refine Lib.grownBy_trans ?_ (by with_reducible assumption) | with_reducible refine grown_below' ?_ (by with_reducible assumption) ?_ | omega | (simp <;> omega)))))
        | (refine wp_loop_rounds 6 ?_; (rw [rounds_succ]; go_wp2); (rw [rounds_succ]; go_wp2); (rw [rounds_succ]; go_wp2); (rw [rounds_succ]; go_wp2); (rw [rounds_succ]; go_wp2); (rw [rounds_succ]; go_wp2); (refine bodyPost_ret (v := .agg #[.int .i64 (row X 0), .int .i64 (row X 1), .int .i64 (row X 0), .int .i64 (row X 1), .int .i64 (row X 0), .int .i64 (row X 1)]) ?_ rfl ⟨_, _, _, _, _, _, rfl, Cur.mono (n := n + 1 + 6 * 6 + 1) ?_ (by omega), ?_⟩; (focus (simp [results, Try.results99, go_sem, *]; done)); (focus (repeat (first | with_reducible assumption | with_reducible refine Cur.new ?_ ?_ | with_reducible refine Cur.alloc ?_ _ | with_reducible refine Cur.drewN ?_ _ | omega))); (focus (repeat (first | with_reducible assumption | with_reducible exact World.grownBy.refl _ _ | with_reducible refine Lib.grownBy_allocR ?_ _ | with_reducible refine grown_drew ?_ | with_reducible refine grown_drewN ?_ _ | with_reducible refine grown_new ?_ ?_ _ _ | with_reducible refine Lib.grownBy_trans ?_ (by with_reducible assumption) | with_reducible refine grown_below' ?_ (by with_reducible assumption) ?_ | omega | (simp <;> omega)))))))
      have hPQ := Lib.hid (pick_any C len (n + 1 + 6 * 6 + 1) cv 6 ⟨by omega, by omega⟩ (by omega) hlen w1 hcu1)
      obtain ⟨wp, rfl⟩ : ∃ wp : World, wp = w1 := ⟨_, rfl⟩
      have hpS : wS.heap.size < wp.heap.size := by omega
      go_wp2_with (go_at_call 121; (with_reducible refine (hPQ.out).mono ?_); rintro e w1 ⟨r2, rfl, ⟨r20, r21⟩, hcu2, hg⟩; obtain ⟨hc, hf, hT, hz⟩ := gfacts hg; (try simp only [World.size_alloc, World.size_setCell, World.size_drew, size_drewN] at hc hf hT hz); (try (have hzA := Nat.lt_of_succ_le hz)); (try (have hl0 : w.heap.size ≤ w1.heap.size := by omega)); (try (have hz0 : w.heap.size < w1.heap.size := by omega)); (try (have hz1 : w.heap.size + 1 < w1.heap.size := by omega)); (have gxS2 : wS.heap.size < w1.heap.size := by omega); have h02 := h01.grown hg (by omega); have h12 := h11.grown hg hCl; have hgw2 := Lib.grownBy_trans hgw1 hg)
      obtain ⟨wq, rfl⟩ : ∃ wq : World, wq = w1 := ⟨_, rfl⟩
      have hqS : wS.heap.size < wq.heap.size := by omega
      have hqS2 : wS.heap.size < wq.heap.size + 1 := by omega
      have hqS3 : wS.heap.size ≤ wq.heap.size := by omega
      have hqR : w.heap.size < wq.heap.size := by omega
      have hqR2 : w.heap.size < wq.heap.size + 1 := by omega
      have hu0 := h02.c0
      have hu1 := h02.c1
      have hu2 := h02.c2
      have hu3 := h02.c3
      have hu4 := h02.c4
      have hu5 := h02.c5
      have huf := h02.free
      have hv0 := h12.c0
      have hv1 := h12.c1
      have hv2 := h12.c2
      have hv3 := h12.c3
      have hv4 := h12.c4
      have hv5 := h12.c5
      have hvf := h12.free
      rcases (by omega : r2 = 0 ∨ r2 = 1 ∨ r2 = 2 ∨ r2 = 3 ∨ r2 = 4 ∨ r2 = 5) with rfl | rfl | rfl | rfl | rfl | rfl
      all_goals
        go_wp2_with (go_at_call 119; (with_reducible refine (am_odd C len (n + 1 + 6 * 6 + 1 + 1) cv (by omega) hlen _ hcu2 _ (by simp) _).mono ?_); rintro e w1 ⟨z, rfl, hPz, hcu3, hg⟩; obtain ⟨hc, hf, hT, hz⟩ := gfacts hg; (try simp only [World.size_alloc, World.size_setCell, World.size_drew, size_drewN] at hc hf hT hz); (try (have hzA := Nat.lt_of_succ_le hz)); (try (have hl0 : w.heap.size ≤ w1.heap.size := by omega)); (try (have hz0 : w.heap.size < w1.heap.size := by omega)); (try (have hz1 : w.heap.size + 1 < w1.heap.size := by omega)); (have gxS3 : wS.heap.size < w1.heap.size := by omega); have hgw3 := Lib.grownBy_trans (Lib.grownBy_allocR hgw2 _) hg; clear hPz)
        first | (refine bodyPost_ret (v := .agg #[.int .i64 (z), .int .i64 (row X 1), .int .i64 (row X 2), .int .i64 (row X 3), .int .i64 (row X 4), .int .i64 (row X 5)]) ?_ rfl ⟨_, _, _, _, _, _, rfl, Cur.mono (n := n + 1 + 6 * 6 + 1 + 1 + 1) ?_ (by omega), ?_⟩; (focus (simp [results, Try.results99, go_sem, *]; done)); (focus (repeat (first | with_reducible assumption | with_reducible refine Cur.new ?_ ?_ | with_reducible refine Cur.alloc ?_ _ | with_reducible refine Cur.drewN ?_ _ | omega))); (focus (repeat (first | with_reducible assumption | with_reducible exact World.grownBy.refl _ _ | with_reducible refine Lib.grownBy_allocR ?_ _ | with_reducible refine grown_drew ?_ | with_reducible refine grown_drewN ?_ _ | with_reducible refine grown_new ?_ ?_ _ _ | with_reducible refine Lib.grownBy_trans ?_ (by with_reducible assumption) | with_reducible refine grown_below' ?_ (by with_reducible assumption) ?_ | omega | (simp <;> omega))))) | (refine bodyPost_ret (v := .agg #[.int .i64 (row X 0), .int .i64 (z), .int .i64 (row X 2), .int .i64 (row X 3), .int .i64 (row X 4), .int .i64 (row X 5)]) ?_ rfl ⟨_, _, _, _, _, _, rfl, Cur.mono (n := n + 1 + 6 * 6 + 1 + 1 + 1) ?_ (by omega), ?_⟩; (focus (simp [results, Try.results99, go_sem, *]; done)); (focus (repeat (first | with_reducible assumption | with_reducible refine Cur.new ?_ ?_ | with_reducible refine Cur.alloc ?_ _ | with_reducible refine Cur.drewN ?_ _ | omega))); (focus (repeat (first | with_reducible assumption | with_reducible exact World.grownBy.refl _ _ | with_reducible refine Lib.grownBy_allocR ?_ _ | with_reducible refine grown_drew ?_ | with_reducible refine grown_drewN ?_ _ | with_reducible refine grown_new ?_ ?_ _ _ | with_reducible refine Lib.grownBy_trans ?_ (by with_reducible assumption) | with_reducible refine grown_below' ?_ (by with_reducible assumption) ?_ | omega | (simp <;> omega))))) | (refine bodyPost_ret (v := .agg #[.int .i64 (row X 0), .int .i64 (row X 1), .int .i64 (z), .int .i64 (row X 3), .int .i64 (row X 4), .int .i64 (row X 5)]) ?_ rfl ⟨_, _, _, _, _, _, rfl, Cur.mono (n := n + 1 + 6 * 6 + 1 + 1 + 1) ?_ (by omega), ?_⟩; (focus (simp [results, Try.results99, go_sem, *]; done)); (focus (repeat (first | with_reducible assumption | with_reducible refine Cur.new ?_ ?_ | with_reducible refine Cur.alloc ?_ _ | with_reducible refine Cur.drewN ?_ _ | omega))); (focus (repeat (first | with_reducible assumption | with_reducible exact World.grownBy.refl _ _ | with_reducible refine Lib.grownBy_allocR ?_ _ | with_reducible refine grown_drew ?_ | with_reducible refine grown_drewN ?_ _ | with_reducible refine grown_new ?_ ?_ _ _ | with_reducible refine Lib.grownBy_trans ?_ (by with_reducible assumption) | with_reducible refine grown_below' ?_ (by with_reducible assumption) ?_ | omega | (simp <;> omega))))) | (refine bodyPost_ret (v := .agg #[.int .i64 (row X 0), .int .i64 (row X 1), .int .i64 (row X 2), .int .i64 (z), .int .i64 (row X 4), .int .i64 (row X 5)]) ?_ rfl ⟨_, _, _, _, _, _, rfl, Cur.mono (n := n + 1 + 6 * 6 + 1 + 1 + 1) ?_ (by omega), ?_⟩; (focus (simp [results, Try.results99, go_sem, *]; done)); (focus (repeat (first | with_reducible assumption | with_reducible refine Cur.new ?_ ?_ | with_reducible refine Cur.alloc ?_ _ | with_reducible refine Cur.drewN ?_ _ | omega))); (focus (repeat (first | with_reducible assumption | with_reducible exact World.grownBy.refl _ _ | with_reducible refine Lib.grownBy_allocR ?_ _ | with_reducible refine grown_drew ?_ | with_reducible refine grown_drewN ?_ _ | with_reducible refine grown_new ?_ ?_ _ _ | with_reducible refine Lib.grownBy_trans ?_ (by with_reducible assumption) | with_reducible refine grown_below' ?_ (by with_reducible assumption) ?_ | omega | (simp <;> omega))))) | (refine bodyPost_ret (v := .agg #[.int .i64 (row X 0), .int .i64 (row X 1), .int .i64 (row X 2), .int .i64 (row X 3), .int .i64 (z), .int .i64 (row X 5)]) ?_ rfl ⟨_, _, _, _, _, _, rfl, Cur.mono (n := n + 1 + 6 * 6 + 1 + 1 + 1) ?_ (by omega), ?_⟩; (focus (simp [results, Try.results99, go_sem, *]; done)); (focus (repeat (first | with_reducible assumption | with_reducible refine Cur.new ?_ ?_ | with_reducible refine Cur.alloc ?_ _ | with_reducible refine Cur.drewN ?_ _ | omega))); (focus (repeat (first | with_reducible assumption | with_reducible exact World.grownBy.refl _ _ | with_reducible refine Lib.grownBy_allocR ?_ _ | with_reducible refine grown_drew ?_ | with_reducible refine grown_drewN ?_ _ | with_reducible refine grown_new ?_ ?_ _ _ | with_reducible refine Lib.grownBy_trans ?_ (by with_reducible assumption) | with_reducible refine grown_below' ?_ (by with_reducible assumption) ?_ | omega | (simp <;> omega))))) | (refine bodyPost_ret (v := .agg #[.int .i64 (row X 0), .int .i64 (row X 1), .int .i64 (row X 2), .int .i64 (row X 3), .int .i64 (row X 4), .int .i64 (z)]) ?_ rfl ⟨_, _, _, _, _, _, rfl, Cur.mono (n := n + 1 + 6 * 6 + 1 + 1 + 1) ?_ (by omega), ?_⟩; (focus (simp [results, Try.results99, go_sem, *]; done)); (focus (repeat (first | with_reducible assumption | with_reducible refine Cur.new ?_ ?_ | with_reducible refine Cur.alloc ?_ _ | with_reducible refine Cur.drewN ?_ _ | omega))); (focus (repeat (first | with_reducible assumption | with_reducible exact World.grownBy.refl _ _ | with_reducible refine Lib.grownBy_allocR ?_ _ | with_reducible refine grown_drew ?_ | with_reducible refine grown_drewN ?_ _ | with_reducible refine grown_new ?_ ?_ _ _ | with_reducible refine Lib.grownBy_trans ?_ (by with_reducible assumption) | with_reducible refine grown_below' ?_ (by with_reducible assumption) ?_ | omega | (simp <;> omega)))))
end Go.Proofs.Ytidaoalnngmoaaa
