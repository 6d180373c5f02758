/-
  The program's table of prints: contracts of reduced. No conditions.
-/
import Derived.Test.YtgjgefbcfcomcaaDoorGb
import Derived.Test.YtgjgefbcfcomcaaDoorMathT
namespace Go.Proofs.YtgjgefbcfcomcaaDoor
open Go.RowKit
set_option linter.unusedSimpArgs false
set_option linter.unusedVariables false

/-- block B is a pair of sets -/
def HoldsU (w : World) (B : Nat) (a0 a1 : Int) : Prop := w.heap[B]? = some (.cells #[.int .u64 a0, .int .u64 a1] 68 (0, 0))
section
variable {w w' : World} {B N : Nat} {a0 a1 : Int}
theorem HoldsU.c0 (h : HoldsU w B a0 a1) : w.cell? ⟨B, 0, none⟩ = some (.int .u64 a0) := by unfold HoldsU at h; simp [World.cell?, h]
theorem HoldsU.c1 (h : HoldsU w B a0 a1) : w.cell? ⟨B, 1, none⟩ = some (.int .u64 a1) := by unfold HoldsU at h; simp [World.cell?, h]
theorem HoldsU.free (h : HoldsU w B a0 a1) (o : Nat) : w.frozen? ⟨B, o, none⟩ = false := by unfold HoldsU at h; simp [World.frozen?, h]
theorem HoldsU.lt (h : HoldsU w B a0 a1) : B < w.heap.size := World.block_lt_of_cell? w _ h.c0
theorem HoldsU.below (h : HoldsU w B a0 a1) (hb : Below N w w') (hB : B < N) : HoldsU w' B a0 a1 := (hb.block B hB).trans h
theorem HoldsU.made' (h : B = w.heap.size) : HoldsU (w.alloc (.cells #[.int .u64 a0, .int .u64 a1] 68)) B a0 a1 := by
  subst h; exact heap_alloc_new w _
theorem HoldsU.alloc (h : HoldsU w B a0 a1) (o : Obj) : HoldsU (w.alloc o) B a0 a1 := by
  unfold HoldsU at *; rw [Below.heap_alloc _ _ _ (by simpa using HoldsU.lt h)]; exact h
theorem HoldsU.drew (h : HoldsU w B a0 a1) : HoldsU w.drew B a0 a1 := h
theorem HoldsU.drewN (h : HoldsU w B a0 a1) (n : Nat) : HoldsU (w.drewN n) B a0 a1 := h
theorem HoldsU.far (h : HoldsU w B a0 a1) (p : Addr) (v : Value) (hp : B ≠ p.block) : HoldsU (w.setCell p v) B a0 a1 := by
  unfold HoldsU at *; rw [Below.heap_setCell _ _ _ _ hp]; exact h
theorem HoldsU.store (h : HoldsU w B a0 a1) (b0 b1 : Int) : HoldsU ((w.setCell ⟨B, 0, none⟩ (.int .u64 b0)).setCell ⟨B, 1, none⟩ (.int .u64 b1)) B b0 b1 := by
  unfold HoldsU at *
  simp [World.setCell, Array.getElem?_modify, h]
end
/-- the pairs of the table in block T -/
def PrsAt (w : World) (T : Nat) (P Q : Nat → Nat) : Prop :=
  ∀ k, k < 36 → w.cell? ⟨T, k * 2, none⟩ = some (.int .u64 (P k : Int)) ∧ w.cell? ⟨T, k * 2 + 1, none⟩ = some (.int .u64 (Q k : Int))
theorem PrsAt.lt {w : World} {T : Nat} {P Q : Nat → Nat} (h : PrsAt w T P Q) : T < w.heap.size := World.block_lt_of_cell? w _ (h 0 (by omega)).1
theorem PrsAt.below {w w' : World} {T N : Nat} {P Q : Nat → Nat} (h : PrsAt w T P Q) (hb : Below N w w') (hT : T < N) : PrsAt w' T P Q := fun k hk =>
  ⟨(hb.cell (p := ⟨T, k * 2, none⟩) hT).trans (h k hk).1, (hb.cell (p := ⟨T, k * 2 + 1, none⟩) hT).trans (h k hk).2⟩

def RdRel (P Q : Nat → Nat) (p q : Nat) (w : World) (i : Value) (wr : World) : Prop :=
  ∃ k : Nat, k ≤ 36 ∧ i = .int .i64 (k : Int) ∧ HoldsU wr w.heap.size ((rdN P Q p q k).1 : Int) ((rdN P Q p q k).2 : Int) ∧ (∃ a b : Int, HoldsU wr (w.heap.size + 1) a b) ∧ Below w.heap.size w wr
set_option maxRecDepth 100000 in
theorem reduced_any (T : Nat) (P Q : Nat → Nat) (p q : Nat) (hp : Vs p) (hq : Vs q) (hv : ∀ k, k < 36 → Vs (P k) ∧ Vs (Q k)) (w : World) (h : PrsAt w T P Q) :
    Calls Tryd.prog 79 #[.pointer (some ⟨T, 0, none⟩), .agg #[.int .u64 (p : Int), .int .u64 (q : Int)]] w
      fun e w' => e = .returned (.agg #[.int .u64 ((rdN P Q p q 36).1 : Int), .int .u64 ((rdN P Q p q 36).2 : Int)]) ∧ Below w.heap.size w w' := by
  have hT := h.lt
  have HH := Lib.hid h
  have HV := Lib.hid hv
  have HP := Lib.hid hp
  have HQ := Lib.hid hq
  clear h hv hp hq
  go_enter Tryd.func79, Tryd.ntmps79
  go_wp2
  go_loopw [7] (RdRel P Q p q w) (fun i _ => 36 - (intOf i).toNat)
  case atStart =>
    refine ⟨0, Nat.zero_le _, rfl, (HoldsU.made' rfl).alloc _, ⟨0, 0, HoldsU.made' (by simp)⟩, (by repeat (first | with_reducible exact Below.refl _ _ | with_reducible assumption | with_reducible refine Below.drew ?_ | with_reducible refine below_drewN ?_ _ | with_reducible refine Below.alloc ?_ ?_ _ | with_reducible refine Below.setCell ?_ ?_ _ | with_reducible refine Below.trans ?_ (Below.mono (by assumption) ?_) | omega | (simp <;> omega)))⟩
  case round =>
    obtain ⟨k, hk, rfl, h0, ⟨a, b, h1⟩, hbw⟩ := hrel
    by_cases hlt : k < 36
    · have hlt' : (k : Int) < 36 := by omega
      obtain ⟨hr1, hr2⟩ := rdN_vs HP.out HQ.out HV.out k hk
      obtain ⟨hPk, hQk⟩ := HV.out k hlt
      have hx1 := xor_vs_u64 hr1 hPk
      have hx2 := xor_vs_u64 hr2 hQk
      have hT0 := (HH.out.below hbw hT) k hlt
      have hc0 := hT0.1
      have hc1 := hT0.2
      have hs0 := h0.c0
      have hs1 := h0.c1
      have hsf := h0.free
      have hl0 := h0.lt
      have hTr := (HH.out.below hbw hT).lt
      clear hT0
      have hS1 := h1.c0
      have hS2 := h1.c1
      have hSf := h1.free
      by_cases hb : (rdN P Q p q k).1.testBit k = true
      · by_cases hP : P k = 0
        · have he := rdN_no (P := P) (Q := Q) (p := p) (q := q) (n := k) (fun h => h.2 hP)
          have hPI : ((P k : Nat) : Int) = 0 := by omega
          have hE := Lib.hid he
          clear he
          rw [hPI] at hc0
          go_wp2_with (go_at_call 97; (with_reducible refine (has_any _ _ (by assumption) (by assumption) _).mono ?_); rintro e w1 ⟨rfl, rfl⟩)
          go_roundw
          case rel => exact ⟨k + 1, by omega, by go_num, by rw [hE.out]; (repeat (first | with_reducible assumption | (with_reducible refine HoldsU.made' ?_; (simp; done)) | with_reducible exact HoldsU.store (by with_reducible assumption) _ _ | with_reducible refine HoldsU.alloc ?_ _ | with_reducible refine HoldsU.drew ?_ | with_reducible refine HoldsU.drewN ?_ _ | (with_reducible refine HoldsU.far ?_ _ _ (by first | (simp; done) | (simp; omega) | omega)))), ⟨a, b, by (repeat (first | with_reducible assumption | (with_reducible refine HoldsU.made' ?_; (simp; done)) | with_reducible exact HoldsU.store (by with_reducible assumption) _ _ | with_reducible refine HoldsU.alloc ?_ _ | with_reducible refine HoldsU.drew ?_ | with_reducible refine HoldsU.drewN ?_ _ | (with_reducible refine HoldsU.far ?_ _ _ (by first | (simp; done) | (simp; omega) | omega))))⟩, (by repeat (first | with_reducible exact Below.refl _ _ | with_reducible assumption | with_reducible refine Below.drew ?_ | with_reducible refine below_drewN ?_ _ | with_reducible refine Below.alloc ?_ ?_ _ | with_reducible refine Below.setCell ?_ ?_ _ | with_reducible refine Below.trans ?_ (Below.mono (by assumption) ?_) | omega | (simp <;> omega)))⟩
          case measure => simp [intOf]; omega
        · have he := rdN_yes (P := P) (Q := Q) (p := p) (q := q) (n := k) hb hP
          have hPI : ¬ (((P k : Nat) : Int) = 0) := by omega
          have hPb : (((P k : Nat) : Int) == 0) = false := by rw [beq_eq_false_iff_ne]; exact hPI
          have hE := Lib.hid he
          clear he
          go_wp2_with (go_at_call 97; (with_reducible refine (has_any _ _ (by assumption) (by assumption) _).mono ?_); rintro e w1 ⟨rfl, rfl⟩)
          go_roundw
          case rel => exact ⟨k + 1, by omega, by go_num, by rw [hE.out]; dsimp only; (repeat (first | with_reducible assumption | (with_reducible refine HoldsU.made' ?_; (simp; done)) | with_reducible exact HoldsU.store (by with_reducible assumption) _ _ | with_reducible refine HoldsU.alloc ?_ _ | with_reducible refine HoldsU.drew ?_ | with_reducible refine HoldsU.drewN ?_ _ | (with_reducible refine HoldsU.far ?_ _ _ (by first | (simp; done) | (simp; omega) | omega)))), ⟨a, b, by (repeat (first | with_reducible assumption | (with_reducible refine HoldsU.made' ?_; (simp; done)) | with_reducible exact HoldsU.store (by with_reducible assumption) _ _ | with_reducible refine HoldsU.alloc ?_ _ | with_reducible refine HoldsU.drew ?_ | with_reducible refine HoldsU.drewN ?_ _ | (with_reducible refine HoldsU.far ?_ _ _ (by first | (simp; done) | (simp; omega) | omega))))⟩, (by repeat (first | with_reducible exact Below.refl _ _ | with_reducible assumption | with_reducible refine Below.drew ?_ | with_reducible refine below_drewN ?_ _ | with_reducible refine Below.alloc ?_ ?_ _ | with_reducible refine Below.setCell ?_ ?_ _ | with_reducible refine Below.trans ?_ (Below.mono (by assumption) ?_) | omega | (simp <;> omega)))⟩
          case measure => simp [intOf]; omega
      · have he := rdN_no (P := P) (Q := Q) (p := p) (q := q) (n := k) (fun h => hb h.1)
        have hb' := Bool.eq_false_iff.2 hb
        have hE := Lib.hid he
        clear he hb
        go_wp2_with (go_at_call 97; (with_reducible refine (has_any _ _ (by assumption) (by assumption) _).mono ?_); rintro e w1 ⟨rfl, rfl⟩)
        go_roundw
        case rel => exact ⟨k + 1, by omega, by go_num, by rw [hE.out]; (repeat (first | with_reducible assumption | (with_reducible refine HoldsU.made' ?_; (simp; done)) | with_reducible exact HoldsU.store (by with_reducible assumption) _ _ | with_reducible refine HoldsU.alloc ?_ _ | with_reducible refine HoldsU.drew ?_ | with_reducible refine HoldsU.drewN ?_ _ | (with_reducible refine HoldsU.far ?_ _ _ (by first | (simp; done) | (simp; omega) | omega)))), ⟨a, b, by (repeat (first | with_reducible assumption | (with_reducible refine HoldsU.made' ?_; (simp; done)) | with_reducible exact HoldsU.store (by with_reducible assumption) _ _ | with_reducible refine HoldsU.alloc ?_ _ | with_reducible refine HoldsU.drew ?_ | with_reducible refine HoldsU.drewN ?_ _ | (with_reducible refine HoldsU.far ?_ _ _ (by first | (simp; done) | (simp; omega) | omega))))⟩, (by repeat (first | with_reducible exact Below.refl _ _ | with_reducible assumption | with_reducible refine Below.drew ?_ | with_reducible refine below_drewN ?_ _ | with_reducible refine Below.alloc ?_ ?_ _ | with_reducible refine Below.setCell ?_ ?_ _ | with_reducible refine Below.trans ?_ (Below.mono (by assumption) ?_) | omega | (simp <;> omega)))⟩
        case measure => simp [intOf]; omega
    · have e : k = 36 := by omega
      subst e
      have hs0 := h0.c0
      have hs1 := h0.c1
      have hsf := h0.free
      have hl0 := h0.lt
      have hS1 := h1.c0
      have hS2 := h1.c1
      have hSf := h1.free
      have hl1 := h1.lt
      go_wp2
      exact bodyPost_ret (v := .agg #[.int .u64 ((rdN P Q p q 36).1 : Int), .int .u64 ((rdN P Q p q 36).2 : Int)]) (by simp [results, Tryd.results79, go_sem, *]) rfl ⟨rfl, (by repeat (first | with_reducible exact Below.refl _ _ | with_reducible assumption | with_reducible refine Below.drew ?_ | with_reducible refine below_drewN ?_ _ | with_reducible refine Below.alloc ?_ ?_ _ | with_reducible refine Below.setCell ?_ ?_ _ | with_reducible refine Below.trans ?_ (Below.mono (by assumption) ?_) | omega | (simp <;> omega)))⟩
end Go.Proofs.YtgjgefbcfcomcaaDoor
