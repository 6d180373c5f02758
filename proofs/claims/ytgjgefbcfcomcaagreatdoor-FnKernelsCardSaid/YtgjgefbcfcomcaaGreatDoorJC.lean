/-
  The program's table of prints: contracts of reduced.  The program's table of prints: the lowest cell, and adding a pair. Under: the library's own table of the lowest bits lies as its initialiser lays it. The program's table of prints: contracts of add. Under: the library's own table of the lowest bits lies as its initialiser lays it. The program's table of prints: contracts of singles, tableOf, whole and solve. Under: the library's own table of the lowest bits lies as its initialiser lays it. The program's table of all single presses, and what it solves. Under: the library's own table of the lowest bits lies as its initialiser lays it. No conditions.
-/
import Derived.Test.YtgjgefbcfcomcaaGreatDoorGb
import Derived.Test.YtgjgefbcfcomcaaGreatDoorMathT
import Derived.Maps.AppendAt
import Derived.Deep.RegionLaw
import Derived.Deep.RegionWith
import Derived.Shelf.Spec.TrailingZeros
namespace Go.Proofs.YtgjgefbcfcomcaaGreatDoor
open Go.RowKit
set_option linter.unusedSimpArgs false
set_option linter.unusedVariables false

/-- block B is a pair of sets -/
def HoldsU (w : World) (B : Nat) (a0 a1 : Int) : Prop := w.heap[B]? = some (.cells #[.int .u64 a0, .int .u64 a1] 64 (0, 0))
section
variable {w w' : World} {B N : Nat} {a0 a1 : Int}
theorem HoldsU.c0 (h : HoldsU w B a0 a1) : w.cell? ⟨B, 0, none⟩ = some (.int .u64 a0) := by unfold HoldsU at h; simp [World.cell?, h]
theorem HoldsU.c1 (h : HoldsU w B a0 a1) : w.cell? ⟨B, 1, none⟩ = some (.int .u64 a1) := by unfold HoldsU at h; simp [World.cell?, h]
theorem HoldsU.free (h : HoldsU w B a0 a1) (o : Nat) : w.frozen? ⟨B, o, none⟩ = false := by unfold HoldsU at h; simp [World.frozen?, h]
theorem HoldsU.lt (h : HoldsU w B a0 a1) : B < w.heap.size := World.block_lt_of_cell? w _ h.c0
theorem HoldsU.below (h : HoldsU w B a0 a1) (hb : Below N w w') (hB : B < N) : HoldsU w' B a0 a1 := (hb.block B hB).trans h
theorem HoldsU.made' (h : B = w.heap.size) : HoldsU (w.alloc (.cells #[.int .u64 a0, .int .u64 a1] 64)) B a0 a1 := by
  subst h; exact heap_alloc_new w _
theorem HoldsU.alloc (h : HoldsU w B a0 a1) (o : Obj) : HoldsU (w.alloc o) B a0 a1 := by
  unfold HoldsU at *; rw [Below.heap_alloc _ _ _ (by simpa using HoldsU.lt h)]; exact h
theorem HoldsU.drew (h : HoldsU w B a0 a1) : HoldsU w.drew B a0 a1 := h
theorem HoldsU.drewN (h : HoldsU w B a0 a1) (n : Nat) : HoldsU (w.drewN n) B a0 a1 := h
theorem HoldsU.far (h : HoldsU w B a0 a1) (p : Addr) (v : Value) (hp : B ≠ p.block) : HoldsU (w.setCell p v) B a0 a1 := by
  unfold HoldsU at *; rw [Below.heap_setCell _ _ _ _ hp]; exact h
theorem HoldsU.store (h : HoldsU w B a0 a1) (b0 b1 : Int) : HoldsU ((w.setCell ⟨B, 0, none⟩ (.int .u64 b0)).setCell ⟨B, 1, none⟩ (.int .u64 b1)) B b0 b1 := by
  unfold HoldsU at *
  simp [World.setCell, Array.getElem?_modify, h]
end
/-- the pairs of the table in block T -/
def PrsAt (w : World) (T : Nat) (P Q : Nat → Nat) : Prop :=
  ∀ k, k < 36 → w.cell? ⟨T, k * 2, none⟩ = some (.int .u64 (P k : Int)) ∧ w.cell? ⟨T, k * 2 + 1, none⟩ = some (.int .u64 (Q k : Int))
theorem PrsAt.lt {w : World} {T : Nat} {P Q : Nat → Nat} (h : PrsAt w T P Q) : T < w.heap.size := World.block_lt_of_cell? w _ (h 0 (by omega)).1
theorem PrsAt.below {w w' : World} {T N : Nat} {P Q : Nat → Nat} (h : PrsAt w T P Q) (hb : Below N w w') (hT : T < N) : PrsAt w' T P Q := fun k hk =>
  ⟨(hb.cell (p := ⟨T, k * 2, none⟩) hT).trans (h k hk).1, (hb.cell (p := ⟨T, k * 2 + 1, none⟩) hT).trans (h k hk).2⟩

def RdRel (P Q : Nat → Nat) (p q : Nat) (w : World) (i : Value) (wr : World) : Prop :=
  ∃ k : Nat, k ≤ 36 ∧ i = .int .i64 (k : Int) ∧ HoldsU wr w.heap.size ((rdN P Q p q k).1 : Int) ((rdN P Q p q k).2 : Int) ∧ (∃ a b : Int, HoldsU wr (w.heap.size + 1) a b) ∧ Below w.heap.size w wr
set_option maxRecDepth 100000 in
theorem reduced_any (T : Nat) (P Q : Nat → Nat) (p q : Nat) (hp : Vs p) (hq : Vs q) (hv : ∀ k, k < 36 → Vs (P k) ∧ Vs (Q k)) (w : World) (h : PrsAt w T P Q) :
    Calls Tryz.prog 65 #[.pointer (some ⟨T, 0, none⟩), .agg #[.int .u64 (p : Int), .int .u64 (q : Int)]] w
      fun e w' => e = .returned (.agg #[.int .u64 ((rdN P Q p q 36).1 : Int), .int .u64 ((rdN P Q p q 36).2 : Int)]) ∧ Below w.heap.size w w' := by
  have hT := h.lt
  have HH := Lib.hid h
  have HV := Lib.hid hv
  have HP := Lib.hid hp
  have HQ := Lib.hid hq
  clear h hv hp hq
  go_enter Tryz.func65, Tryz.ntmps65
  go_wp2
  go_loopw [7] (RdRel P Q p q w) (fun i _ => 36 - (intOf i).toNat)
  case atStart =>
    refine ⟨0, Nat.zero_le _, rfl, (HoldsU.made' rfl).alloc _, ⟨0, 0, HoldsU.made' (by simp)⟩, (by repeat (first | with_reducible exact Below.refl _ _ | with_reducible assumption | with_reducible refine Below.drew ?_ | with_reducible refine below_drewN ?_ _ | with_reducible refine Below.alloc ?_ ?_ _ | with_reducible refine Below.setCell ?_ ?_ _ | with_reducible refine Below.trans ?_ (Below.mono (by assumption) ?_) | omega | (simp <;> omega)))⟩
  case round =>
    obtain ⟨k, hk, rfl, h0, ⟨a, b, h1⟩, hbw⟩ := hrel
    by_cases hlt : k < 36
    · have hlt' : (k : Int) < 36 := by omega
      obtain ⟨hr1, hr2⟩ := rdN_vs HP.out HQ.out HV.out k hk
      obtain ⟨hPk, hQk⟩ := HV.out k hlt
      have hx1 := xor_vs_u64 hr1 hPk
      have hx2 := xor_vs_u64 hr2 hQk
      have hT0 := (HH.out.below hbw hT) k hlt
      have hc0 := hT0.1
      have hc1 := hT0.2
      have hs0 := h0.c0
      have hs1 := h0.c1
      have hsf := h0.free
      have hl0 := h0.lt
      have hTr := (HH.out.below hbw hT).lt
      clear hT0
      have hS1 := h1.c0
      have hS2 := h1.c1
      have hSf := h1.free
      by_cases hb : (rdN P Q p q k).1.testBit k = true
      · by_cases hP : P k = 0
        · have he := rdN_no (P := P) (Q := Q) (p := p) (q := q) (n := k) (fun h => h.2 hP)
          have hPI : ((P k : Nat) : Int) = 0 := by omega
          have hE := Lib.hid he
          clear he
          rw [hPI] at hc0
          go_wp2_with (go_at_call 81; (with_reducible refine (has_any _ _ (by assumption) (by assumption) _).mono ?_); rintro e w1 ⟨rfl, rfl⟩)
          go_roundw
          case rel => exact ⟨k + 1, by omega, by go_num, by rw [hE.out]; (repeat (first | with_reducible assumption | (with_reducible refine HoldsU.made' ?_; (simp; done)) | with_reducible exact HoldsU.store (by with_reducible assumption) _ _ | with_reducible refine HoldsU.alloc ?_ _ | with_reducible refine HoldsU.drew ?_ | with_reducible refine HoldsU.drewN ?_ _ | (with_reducible refine HoldsU.far ?_ _ _ (by first | (simp; done) | (simp; omega) | omega)))), ⟨a, b, by (repeat (first | with_reducible assumption | (with_reducible refine HoldsU.made' ?_; (simp; done)) | with_reducible exact HoldsU.store (by with_reducible assumption) _ _ | with_reducible refine HoldsU.alloc ?_ _ | with_reducible refine HoldsU.drew ?_ | with_reducible refine HoldsU.drewN ?_ _ | (with_reducible refine HoldsU.far ?_ _ _ (by first | (simp; done) | (simp; omega) | omega))))⟩, (by repeat (first | with_reducible exact Below.refl _ _ | with_reducible assumption | with_reducible refine Below.drew ?_ | with_reducible refine below_drewN ?_ _ | with_reducible refine Below.alloc ?_ ?_ _ | with_reducible refine Below.setCell ?_ ?_ _ | with_reducible refine Below.trans ?_ (Below.mono (by assumption) ?_) | omega | (simp <;> omega)))⟩
          case measure => simp [intOf]; omega
        · have he := rdN_yes (P := P) (Q := Q) (p := p) (q := q) (n := k) hb hP
          have hPI : ¬ (((P k : Nat) : Int) = 0) := by omega
          have hPb : (((P k : Nat) : Int) == 0) = false := by rw [beq_eq_false_iff_ne]; exact hPI
          have hE := Lib.hid he
          clear he
          go_wp2_with (go_at_call 81; (with_reducible refine (has_any _ _ (by assumption) (by assumption) _).mono ?_); rintro e w1 ⟨rfl, rfl⟩)
          go_roundw
          case rel => exact ⟨k + 1, by omega, by go_num, by rw [hE.out]; dsimp only; (repeat (first | with_reducible assumption | (with_reducible refine HoldsU.made' ?_; (simp; done)) | with_reducible exact HoldsU.store (by with_reducible assumption) _ _ | with_reducible refine HoldsU.alloc ?_ _ | with_reducible refine HoldsU.drew ?_ | with_reducible refine HoldsU.drewN ?_ _ | (with_reducible refine HoldsU.far ?_ _ _ (by first | (simp; done) | (simp; omega) | omega)))), ⟨a, b, by (repeat (first | with_reducible assumption | (with_reducible refine HoldsU.made' ?_; (simp; done)) | with_reducible exact HoldsU.store (by with_reducible assumption) _ _ | with_reducible refine HoldsU.alloc ?_ _ | with_reducible refine HoldsU.drew ?_ | with_reducible refine HoldsU.drewN ?_ _ | (with_reducible refine HoldsU.far ?_ _ _ (by first | (simp; done) | (simp; omega) | omega))))⟩, (by repeat (first | with_reducible exact Below.refl _ _ | with_reducible assumption | with_reducible refine Below.drew ?_ | with_reducible refine below_drewN ?_ _ | with_reducible refine Below.alloc ?_ ?_ _ | with_reducible refine Below.setCell ?_ ?_ _ | with_reducible refine Below.trans ?_ (Below.mono (by assumption) ?_) | omega | (simp <;> omega)))⟩
          case measure => simp [intOf]; omega
      · have he := rdN_no (P := P) (Q := Q) (p := p) (q := q) (n := k) (fun h => hb h.1)
        have hb' := Bool.eq_false_iff.2 hb
        have hE := Lib.hid he
        clear he hb
        go_wp2_with (go_at_call 81; (with_reducible refine (has_any _ _ (by assumption) (by assumption) _).mono ?_); rintro e w1 ⟨rfl, rfl⟩)
        go_roundw
        case rel => exact ⟨k + 1, by omega, by go_num, by rw [hE.out]; (repeat (first | with_reducible assumption | (with_reducible refine HoldsU.made' ?_; (simp; done)) | with_reducible exact HoldsU.store (by with_reducible assumption) _ _ | with_reducible refine HoldsU.alloc ?_ _ | with_reducible refine HoldsU.drew ?_ | with_reducible refine HoldsU.drewN ?_ _ | (with_reducible refine HoldsU.far ?_ _ _ (by first | (simp; done) | (simp; omega) | omega)))), ⟨a, b, by (repeat (first | with_reducible assumption | (with_reducible refine HoldsU.made' ?_; (simp; done)) | with_reducible exact HoldsU.store (by with_reducible assumption) _ _ | with_reducible refine HoldsU.alloc ?_ _ | with_reducible refine HoldsU.drew ?_ | with_reducible refine HoldsU.drewN ?_ _ | (with_reducible refine HoldsU.far ?_ _ _ (by first | (simp; done) | (simp; omega) | omega))))⟩, (by repeat (first | with_reducible exact Below.refl _ _ | with_reducible assumption | with_reducible refine Below.drew ?_ | with_reducible refine below_drewN ?_ _ | with_reducible refine Below.alloc ?_ ?_ _ | with_reducible refine Below.setCell ?_ ?_ _ | with_reducible refine Below.trans ?_ (Below.mono (by assumption) ?_) | omega | (simp <;> omega)))⟩
        case measure => simp [intOf]; omega
    · have e : k = 36 := by omega
      subst e
      have hs0 := h0.c0
      have hs1 := h0.c1
      have hsf := h0.free
      have hl0 := h0.lt
      have hS1 := h1.c0
      have hS2 := h1.c1
      have hSf := h1.free
      have hl1 := h1.lt
      go_wp2
      exact bodyPost_ret (v := .agg #[.int .u64 ((rdN P Q p q 36).1 : Int), .int .u64 ((rdN P Q p q 36).2 : Int)]) (by simp [results, Tryz.results65, go_sem, *]) rfl ⟨rfl, (by repeat (first | with_reducible exact Below.refl _ _ | with_reducible assumption | with_reducible refine Below.drew ?_ | with_reducible refine below_drewN ?_ _ | with_reducible refine Below.alloc ?_ ?_ _ | with_reducible refine Below.setCell ?_ ?_ _ | with_reducible refine Below.trans ?_ (Below.mono (by assumption) ?_) | omega | (simp <;> omega)))⟩
end Go.Proofs.YtgjgefbcfcomcaaGreatDoor
namespace Go.Proofs.YtgjgefbcfcomcaaGreatDoor
open Go.RowKit
set_option linter.unusedSimpArgs false
set_option linter.unusedVariables false

/-- the library's table of the lowest bits lies in memory -/
def TabZ (w : World) : Prop := ∀ j, j < Lib.deBruijn64tab.length → w.cell? ⟨0, j, none⟩ = some (.int .u8 (Lib.deBruijn64tab.getD j 0))
theorem TabZ.lt {w : World} (h : TabZ w) : 0 < w.heap.size := World.block_lt_of_cell? w _ (h 0 (by decide))
theorem TabZ.below {w w' : World} {N : Nat} (h : TabZ w) (hb : Below N w w') (hN : 0 < N) : TabZ w' := fun j hj => (hb.cell (p := ⟨0, j, none⟩) hN).trans (h j hj)
set_option maxHeartbeats 1000000 in
theorem tz_core (x k idx : Nat) (w : World) (hx0 : ((x : Int) == 0) = false)
    (key : IntKind.u64.wrap (bits BinOp.and IntKind.u64 (x : Int) (IntKind.u64.wrap (-(x : Int))) * 285870213051353865) / 288230376151711744 = (idx : Int))
    (hi : idx < 64) (hk : k < 64) (hcell : w.cell? ⟨0, idx, none⟩ = some (.int .u8 k)) :
    Calls Tryz.prog 83 #[.int .u64 x] w fun e w' => e = .returned (.int .i64 k) ∧ w = w' := by
  go_enter Tryz.func83, Tryz.ntmps83
  go_wp2_with (simp only [key])
  go_ret
  exact ⟨rfl, rfl⟩
theorem tz_any (x : Nat) (hX : Vs x) (h0 : x ≠ 0) (w : World) (hT : TabZ w) : Calls Tryz.prog 83 #[.int .u64 (x : Int)] w fun e w' => e = .returned (.int .i64 ((Lib.ctz 64 x : Nat) : Int)) ∧ w = w' := by
  have hx : x < 18446744073709551616 := by have := hX.lt; omega
  obtain ⟨hlow, hk⟩ := Lib.lowest_bit 64 x h0 hx
  obtain ⟨hi, htab⟩ := Lib.deBruijn64_at _ hk
  have hcell := hT _ hi
  rw [htab] at hcell
  exact tz_core x _ _ w (by simp; omega) (tz64_key x _ hx h0 hlow) hi hk hcell

/-- append onto a row of the call's own, as one step of a region that draws -/
theorem step_append_own {P : Program} {ops : Array Oper} {o : Oper} {a : Act} {w : World} {K : Act → World → Prop} {Q : Exit → Act → World → Prop} {E : Prop}
    (hgd : o.guard = none) (s x : Operand) (t : TypeId) (ho : o.op = Op.call { callee := Callee.builtin Builtin.append, args := #[s, x], argTypes := #[t, t] })
    (base : Nat) (e : TypeId) (i : TypeInfo) (z : Value) (size bytes : Nat) (ht : P.underlying t = some (.slice e)) (hi : P.info? e = some i) (hz : i.zero = some z)
    (hsize : i.size = size) (hby : i.bytes = bytes) (hzs : z.cells.size = size) (hsz : 0 < size)
    (v : Value) (n : Nat) (xs : List Value) (hs : a.eval s = v) (hown : w.ownsRow base e size v n xs)
    (ad : Addr) (m c : Nat) (news : List Value) (hx : a.eval x = .slice (some ad) m c) (hl : news.length = m * size) (hnews : ∀ j u, news[j]? = some u → w.cell? (ad.add j) = some u) (h1 : ∀ u ∈ news, u.oneCell' = true)
    (h63 : n + m ≤ maxLen) (hbytes : (n + m) * bytes ≤ 140737488355328) (hbase : base ≤ w.heap.size)
    (hK : ∀ v' w', w'.ownsRow base e size v' (n + m) (xs ++ news) → w.grownBy w' v.ownBlock → K (a.put o.dst v') w') :
    if Region.wanted o (yielded ops a.tmps) = true then Oper.wp P o a w K Q else E := by
  have hw : Region.wanted o (yielded ops a.tmps) = true := by simp [Region.wanted, hgd]
  rw [if_pos hw]
  obtain ⟨v', w', hr, h2, h3, h4, h5⟩ := run_append_own_at (P := P) w base t o.type e i z size bytes ht hi hz hsize hby hzs hsz v n xs hown ad m c news hl hnews h1 h63 hbytes hbase
  unfold Oper.wp execOp
  simp only [ho, resolve, invoke, builtin, Sem.run_bind, Sem.run_pure, Result.andThen_ok, List.map_toArray, List.map_cons, List.map_nil, hs, hx, hr]
  exact hK _ _ h2 h3

theorem infoSet : (Tryz.prog.info? 53).map (fun i => (i.zero, i.size, i.bytes)) = some (some (.int .u64 0), 1, 8) := by kernel_rfl
/-- sets one behind another -/
def usV (L : List Nat) : List Value := L.map fun n : Nat => Value.int .u64 (n : Int)
/-- the slice value v holds the sets of L -/
def OwnsU (w : World) (B : Nat) (v : Value) (L : List Nat) : Prop := w.ownsRow B 53 1 v L.length (usV L)
theorem owns_move {w w1 : World} {base size n : Nat} {e : TypeId} {v : Value} {xs : List Value} (h : w.ownsRow base e size v n xs) (hm : ∀ k, base ≤ k → k < w.heap.size → w1.heap[k]? = w.heap[k]?) : w1.ownsRow base e size v n xs := by
  obtain ⟨h1, h2⟩ := h
  refine ⟨h1, ?_⟩
  rcases h2 with h2 | ⟨g, cap, cur, hv, hg, hh, r⟩
  · exact .inl h2
  · exact .inr ⟨g, cap, cur, hv, hg, (hm g hg (Array.getElem?_eq_some_iff.1 hh).1).trans hh, r⟩
/-- the table in block T -/
def TblAt (w : World) (T : Nat) (P Q : Nat → Nat) (L : List Nat) : Prop :=
  PrsAt w T P Q ∧ (∃ v, w.cell? ⟨T, 72, none⟩ = some v ∧ OwnsU w (T + 1) v L) ∧ ∀ o, w.frozen? ⟨T, o, none⟩ = false
theorem TblAt.below {w w' : World} {T N : Nat} {P Q : Nat → Nat} {L : List Nat} (h : TblAt w T P Q L) (hb : Below N w w') (hN : w.heap.size ≤ N) : TblAt w' T P Q L := by
  have hT := h.1.lt
  obtain ⟨h1, ⟨v, h2, h3⟩, h4⟩ := h
  exact ⟨h1.below hb (by omega), ⟨v, (hb.cell (p := ⟨T, 72, none⟩) (by show T < N; omega)).trans h2, owns_move h3 fun k _ hk => hb.block k (by omega)⟩, fun o => (hb.frozen (p := ⟨T, o, none⟩) (by show T < N; omega)).trans (h4 o)⟩
theorem set_at {w : World} {g o : Nat} {v u : Value} (h : w.cell? ⟨g, o, none⟩ = some u) (j : Nat) : (w.setCell ⟨g, o, none⟩ v).cell? ⟨g, j, none⟩ = if j = o then some v else w.cell? ⟨g, j, none⟩ := by
  split
  · rename_i e; subst e; exact World.cell?_setCell_same _ _ _ h
  · rename_i e; exact World.cell?_setCell_other _ _ _ _ (fun x => e (by injection x with _ y; exact y.symm))
theorem PrsAt.store {w : World} {T : Nat} {P Q : Nat → Nat} (h : PrsAt w T P Q) (k a b : Nat) (hk : k < 36) :
    PrsAt ((w.setCell ⟨T, k * 2, none⟩ (.int .u64 (a : Int))).setCell ⟨T, k * 2 + 1, none⟩ (.int .u64 (b : Int))) T (upN P k a) (upN Q k b) := by
  obtain ⟨c0, c1⟩ := h k hk
  have c1' : (w.setCell ⟨T, k * 2, none⟩ (.int .u64 (a : Int))).cell? ⟨T, k * 2 + 1, none⟩ = some (.int .u64 (Q k : Int)) := by rw [set_at c0, if_neg (by omega)]; exact c1
  intro j hj
  obtain ⟨d0, d1⟩ := h j hj
  unfold upN
  rw [set_at c1', set_at c1', set_at c0, set_at c0]
  by_cases e : j = k
  · subst e
    rw [if_neg (by omega), if_pos rfl, if_pos rfl, if_pos rfl, if_pos rfl]
    exact ⟨rfl, rfl⟩
  · simp only [if_neg e, show ¬ (j * 2 = k * 2 + 1) by omega, show ¬ (j * 2 = k * 2) by omega, show ¬ (j * 2 + 1 = k * 2 + 1) by omega, show ¬ (j * 2 + 1 = k * 2) by omega, if_false]
    exact ⟨d0, d1⟩
theorem PrsAt.quiet {w : World} {T : Nat} {P Q : Nat → Nat} (h : PrsAt w T P Q) {u : Value} (hu : w.cell? ⟨T, 72, none⟩ = some u) (v : Value) : PrsAt (w.setCell ⟨T, 72, none⟩ v) T P Q := fun j hj => by
  obtain ⟨d0, d1⟩ := h j hj
  rw [set_at hu, set_at hu, if_neg (by omega), if_neg (by omega)]
  exact ⟨d0, d1⟩
end Go.Proofs.YtgjgefbcfcomcaaGreatDoor
namespace Go.Proofs.YtgjgefbcfcomcaaGreatDoor
open Go.RowKit
set_option linter.unusedSimpArgs false
set_option linter.unusedVariables false

theorem grown_cell {W w' : World} {v : Value} (hg : W.grownBy w' v.ownBlock) (T o : Nat) (hT : T < W.heap.size) (hne : ∀ j, v.ownBlock = some j → T + 1 ≤ j) : w'.cell? ⟨T, o, none⟩ = W.cell? ⟨T, o, none⟩ ∧ w'.frozen? ⟨T, o, none⟩ = W.frozen? ⟨T, o, none⟩ := by
  have hb := hg.block T hT (fun h => by have := hne T h.symm; omega)
  constructor
  · unfold World.cell?
    rw [show (⟨T, o, none⟩ : Addr).block = T from rfl, hb]
  · unfold World.frozen?
    rw [show (⟨T, o, none⟩ : Addr).block = T from rfl, hb]
theorem undrew {a w : World} {row : Option Nat} (h : a.drew.grownBy w row) : a.grownBy w row := ⟨h.os, h.tape, h.output, h.size, h.block⟩
theorem owns_slice {w : World} {base size n : Nat} {e : TypeId} {v : Value} {xs : List Value} (h : w.ownsRow base e size v n xs) : ∃ a c, v = .slice a n c := by
  rcases h.2 with ⟨h1, h2⟩ | ⟨g, cap, cur, hv, _⟩
  · subst h2
    exact ⟨none, 0, h1⟩
  · exact ⟨_, _, hv⟩
theorem TblAt.grown {W w' : World} {T : Nat} {P Q : Nat → Nat} {L : List Nat} {v v' : Value} (hp : PrsAt W T P Q) (hfz : ∀ o, W.frozen? ⟨T, o, none⟩ = false) (h72 : W.cell? ⟨T, 72, none⟩ = some v) (hg : W.grownBy w' v.ownBlock) (hne : ∀ j, v.ownBlock = some j → T + 1 ≤ j)
    (ho : w'.ownsRow (T + 1) 53 1 v' L.length (usV L)) : TblAt (w'.setCell ⟨T, 72, none⟩ v') T P Q L := by
  have hT := hp.lt
  have e72 := (grown_cell hg T 72 hT hne).1.trans h72
  refine ⟨PrsAt.quiet (fun j hj => ⟨(grown_cell hg T _ hT hne).1.trans (hp j hj).1, (grown_cell hg T _ hT hne).1.trans (hp j hj).2⟩) e72 v', ⟨v', by rw [set_at e72, if_pos rfl], owns_move ho fun k hk _ => Below.heap_setCell _ _ _ _ (by show k ≠ T; omega)⟩, fun o => by rw [World.frozen?_setCell]; exact (grown_cell hg T o hT hne).2.trans (hfz o)⟩
set_option maxRecDepth 100000 in
theorem add_quiet (T : Nat) (P Q : Nat → Nat) (L : List Nat) (p q : Nat) (hp : Vs p) (hq : Vs q) (hv : ∀ k, k < 36 → Vs (P k) ∧ Vs (Q k)) (hL : L.length ≤ 1000) (w : World) (h : TblAt w T P Q L) (h0 : (rdN P Q p q 36).1 = 0) :
    Calls Tryz.prog 71 #[.pointer (some ⟨T, 0, none⟩), .agg #[.int .u64 (p : Int), .int .u64 (q : Int)]] w
      fun e w' => e = .returned (.tuple #[]) ∧ TblAt w' T P Q (L ++ [(rdN P Q p q 36).2]) ∧ Below T w w' := by
  obtain ⟨i0, hi, iz0, iz1, iz2⟩ := info_parts infoSet
  have hT := h.1.lt
  have HH := Lib.hid h
  have hR := Lib.hid (fun W h => reduced_any T P Q p q hp hq hv W h)
  rw [h0] at hR
  have hA : TblAt (w.alloc (.cells #[.int .u64 (p : Int), .int .u64 (q : Int)] 64)) T P Q L := h.below ((Below.refl _ _).alloc (Nat.le_refl _) _) (Nat.le_refl _)
  have hA1 := hA.1
  have HA := Lib.hid hA
  have hU : HoldsU (w.alloc (.cells #[.int .u64 (p : Int), .int .u64 (q : Int)] 64)) w.heap.size (p : Int) (q : Int) := HoldsU.made' rfl
  have hsA : (w.alloc (.cells #[.int .u64 (p : Int), .int .u64 (q : Int)] 64)).heap.size = w.heap.size + 1 := World.size_alloc _ _
  clear h hp hq hv hA
  go_enter Tryz.func71, Tryz.ntmps71
  go_wp2_with (go_at_call 65; (with_reducible refine (hR.out _ hA1).mono ?_); rintro e w1 ⟨rfl, hb⟩; have hsz1 := hb.size; rw [hsA] at hsz1; have hU1 := hU.below hb (by rw [hsA]; omega); have hu0 := hU1.c0; have hu1 := hU1.c1; have huf := hU1.free)
  have hB2 : Below w.heap.size w ((w1.setCell ⟨w.heap.size, 0, none⟩ (.int .u64 0)).setCell ⟨w.heap.size, 1, none⟩ (.int .u64 ((rdN P Q p q 36).2 : Int))) := (by repeat (first | with_reducible exact Below.refl _ _ | with_reducible assumption | with_reducible refine Below.drew ?_ | with_reducible refine below_drewN ?_ _ | with_reducible refine Below.alloc ?_ ?_ _ | with_reducible refine Below.setCell ?_ ?_ _ | with_reducible refine Below.trans ?_ (Below.mono (by assumption) ?_) | omega | (simp <;> omega)))
  have hU2 := hU1.store 0 ((rdN P Q p q 36).2 : Int)
  have hA2 := HH.out.below hB2 (Nat.le_refl _)
  have hz2 := hB2.size
  generalize (w1.setCell ⟨w.heap.size, 0, none⟩ (.int .u64 0)).setCell ⟨w.heap.size, 1, none⟩ (.int .u64 ((rdN P Q p q 36).2 : Int)) = w2 at *
  obtain ⟨hpr, ⟨v, hv72, hown⟩, hfz⟩ := hA2
  have hc0 := hU2.c0
  have hc1 := hU2.c1
  have hcl := hU2.lt
  have hTl := hpr.lt
  have HP := Lib.hid hpr
  have HB := Lib.hid hB2
  clear hpr hB2 hU2 hU hU1 hu0 hu1 huf hb hsz1 HA hA1 hsA
  go_region_law (refine step_append_own rfl (.tmp 14) (.tmp 17) 66 rfl (T + 1) 53 i0 (.int .u64 0) 1 8 Tryz.underlying66 hi iz0 iz1 iz2 rfl (by decide) v L.length (usV L) (by simp [Act.eval, Act.put]) (World.ownsRow.alloc hown _) ⟨w2.heap.size, 0, none⟩ 1 1 [.int .u64 ((rdN P Q p q 36).2 : Int)] (by simp [Act.eval, Act.put]) rfl (cell_one_new _ _ _) (by simp [Value.oneCell']) (by unfold maxLen; omega) (by omega) (by simp; omega) ?_; intro v' w' hown' hgrow; obtain ⟨av, cv, rfl⟩ := owns_slice hown'; have hT72 := (grown_cell hgrow T 72 (by simp; omega) (fun j hj => (hown.lt j hj).1)).1.trans ((World.cell?_alloc_past _ T 72 (by show T < w2.heap.size; omega)).trans hv72); have hTfz := (grown_cell hgrow T 72 (by simp; omega) (fun j hj => (hown.lt j hj).1)).2.trans ((World.frozen?_alloc_past _ T 72 (by show T < w2.heap.size; omega)).trans (hfz 72)))
  all_goals
    go_wp2
    have hG := undrew hgrow
    have hBT : Below T w (w'.setCell ⟨T, 72, none⟩ (.slice av (L.length + 1) cv)) := (((HB.out.mono (Nat.le_of_lt hT)).alloc (by omega) _).grown hG (by simp; omega) (fun j hj => by have := (hown.lt j hj).1; omega)).setCell (Nat.le_refl _) _
    exact bodyPost_ret (v := .tuple #[]) (by simp [results, Tryz.results71, go_sem, *]) rfl ⟨rfl, TblAt.grown (fun j hj => ⟨(World.cell?_alloc_past _ T _ hTl).trans (HP.out j hj).1, (World.cell?_alloc_past _ T _ hTl).trans (HP.out j hj).2⟩) (fun o => (World.frozen?_alloc_past _ T o hTl).trans (hfz o)) ((World.cell?_alloc_past _ T 72 hTl).trans hv72) hG (fun j hj => (hown.lt j hj).1) (by simpa [usV] using hown'), hBT⟩
theorem TblAt.store {w : World} {T : Nat} {P Q : Nat → Nat} {L : List Nat} (h : TblAt w T P Q L) (k a b : Nat) (hk : k < 36) :
    TblAt ((w.setCell ⟨T, k * 2, none⟩ (.int .u64 (a : Int))).setCell ⟨T, k * 2 + 1, none⟩ (.int .u64 (b : Int))) T (upN P k a) (upN Q k b) L := by
  obtain ⟨c0, c1⟩ := h.1 k hk
  have c1' : (w.setCell ⟨T, k * 2, none⟩ (.int .u64 (a : Int))).cell? ⟨T, k * 2 + 1, none⟩ = some (.int .u64 (Q k : Int)) := by rw [set_at c0, if_neg (by omega)]; exact c1
  obtain ⟨h1, ⟨v, h2, h3⟩, h4⟩ := h
  refine ⟨h1.store k a b hk, ⟨v, ?_, owns_move h3 fun j hj _ => ?_⟩, fun o => ?_⟩
  · rw [set_at c1', set_at c0, if_neg (by omega), if_neg (by omega)]
    exact h2
  · rw [Below.heap_setCell _ _ _ _ (by show j ≠ T; omega), Below.heap_setCell _ _ _ _ (by show j ≠ T; omega)]
  · rw [World.frozen?_setCell, World.frozen?_setCell]
    exact h4 o
set_option maxRecDepth 100000 in
theorem add_pair (T : Nat) (P Q : Nat → Nat) (L : List Nat) (p q : Nat) (hp : Vs p) (hq : Vs q) (hv : ∀ k, k < 36 → Vs (P k) ∧ Vs (Q k)) (w : World) (h : TblAt w T P Q L) (hz : TabZ w) (h0 : (rdN P Q p q 36).1 ≠ 0) :
    Calls Tryz.prog 71 #[.pointer (some ⟨T, 0, none⟩), .agg #[.int .u64 (p : Int), .int .u64 (q : Int)]] w
      fun e w' => e = .returned (.tuple #[]) ∧ TblAt w' T (upN P (Lib.ctz 64 (rdN P Q p q 36).1) (rdN P Q p q 36).1) (upN Q (Lib.ctz 64 (rdN P Q p q 36).1) (rdN P Q p q 36).2) L ∧ Below T w w' := by
  have hT := h.1.lt
  have HH := Lib.hid h
  have hR := Lib.hid (fun W h => reduced_any T P Q p q hp hq hv W h)
  obtain ⟨v1, _⟩ := rdN_vs hp hq hv 36 (Nat.le_refl _)
  obtain ⟨hk36, _, _⟩ := ctz_low _ v1 h0
  have hTZ := tz_any _ v1 h0
  have hzl := hz.lt
  have hZ := Lib.hid hz
  clear hz v1
  generalize Lib.ctz 64 (rdN P Q p q 36).1 = k at *
  generalize (rdN P Q p q 36).1 = a at *
  generalize (rdN P Q p q 36).2 = b at *
  have hTZ' := Lib.hid hTZ
  have hkI : ((k : Nat) : Int) < 36 := by omega
  have h0I : ¬ (((a : Nat) : Int) = 0) := by omega
  have h0b : (((a : Nat) : Int) == 0) = false := by rw [beq_eq_false_iff_ne]; exact h0I
  have hA : TblAt (w.alloc (.cells #[.int .u64 (p : Int), .int .u64 (q : Int)] 64)) T P Q L := h.below ((Below.refl _ _).alloc (Nat.le_refl _) _) (Nat.le_refl _)
  have hA1 := hA.1
  have hU : HoldsU (w.alloc (.cells #[.int .u64 (p : Int), .int .u64 (q : Int)] 64)) w.heap.size (p : Int) (q : Int) := HoldsU.made' rfl
  have hsA : (w.alloc (.cells #[.int .u64 (p : Int), .int .u64 (q : Int)] 64)).heap.size = w.heap.size + 1 := World.size_alloc _ _
  clear h hp hq hv hA hTZ
  go_enter Tryz.func71, Tryz.ntmps71
  go_wp2_with (go_at_call 65; (with_reducible refine (hR.out _ hA1).mono ?_); rintro e w1 ⟨rfl, hb⟩; have hsz1 := hb.size; rw [hsA] at hsz1; have hU1 := hU.below hb (by rw [hsA]; omega); have hu0 := hU1.c0; have hu1 := hU1.c1; have huf := hU1.free)
  have hB2 : Below w.heap.size w ((w1.setCell ⟨w.heap.size, 0, none⟩ (.int .u64 (a : Int))).setCell ⟨w.heap.size, 1, none⟩ (.int .u64 (b : Int))) := (by repeat (first | with_reducible exact Below.refl _ _ | with_reducible assumption | with_reducible refine Below.drew ?_ | with_reducible refine below_drewN ?_ _ | with_reducible refine Below.alloc ?_ ?_ _ | with_reducible refine Below.setCell ?_ ?_ _ | with_reducible refine Below.trans ?_ (Below.mono (by assumption) ?_) | omega | (simp <;> omega)))
  have hU2 := hU1.store (a : Int) (b : Int)
  have hA2 := HH.out.below hB2 (Nat.le_refl _)
  have hz2 := hB2.size
  have hTz2 := hZ.out.below hB2 hzl
  generalize (w1.setCell ⟨w.heap.size, 0, none⟩ (.int .u64 (a : Int))).setCell ⟨w.heap.size, 1, none⟩ (.int .u64 (b : Int)) = w2 at *
  have hc0 := hU2.c0
  have hc1 := hU2.c1
  have hcl := hU2.lt
  have hTl := hA2.1.lt
  have hk0 := (hA2.1 k hk36).1
  have hk1 := (hA2.1 k hk36).2
  have hfz := hA2.2.2
  have HA2 := Lib.hid hA2
  have HB := Lib.hid hB2
  have HZ := Lib.hid hTz2
  clear hB2 hU2 hU hU1 hu0 hu1 huf hb hsz1 hA2 hA1 hsA hTz2
  go_region_with (go_at_call 83; refine (hTZ'.out _ (by exact HZ.out)).mono ?_; rintro e w3 ⟨rfl, rfl⟩)
  all_goals
    go_wp2
    go_end0
    exact ⟨rfl, TblAt.store (w := w2.drew) (by exact HA2.out) k a b hk36, (((HB.out.mono (Nat.le_of_lt hT)).drew).setCell (Nat.le_refl _) _).setCell (Nat.le_refl _) _⟩
end Go.Proofs.YtgjgefbcfcomcaaGreatDoor
namespace Go.Proofs.YtgjgefbcfcomcaaGreatDoor
open Go.RowKit
set_option linter.unusedSimpArgs false
set_option linter.unusedVariables false

/-- the slice v holds the sets of G -/
def ReadsU (w : World) (v : Value) (G : List Nat) : Prop :=
  (v = .slice none 0 0 ∧ G = []) ∨ ∃ g cap : Nat, v = .slice (some ⟨g, 0, none⟩) G.length cap ∧ g < w.heap.size ∧ ∀ j, j < G.length → w.cell? ⟨g, j, none⟩ = some (.int .u64 ((G.getD j 0 : Nat) : Int))
theorem OwnsU.reads {w : World} {B : Nat} {v : Value} {G : List Nat} (h : OwnsU w B v G) : ReadsU w v G := by
  rcases h.2 with ⟨h1, h2⟩ | ⟨g, cap, cur, hv, hg, hh, hc1, hc2, hc3, hc4⟩
  · have : G = [] := List.eq_nil_of_length_eq_zero h2
    subst this
    exact .inl ⟨h1, rfl⟩
  · refine .inr ⟨g, cap, hv, (Array.getElem?_eq_some_iff.1 hh).1, fun j hj => ?_⟩
    have h5 : (List.take (G.length * 1) cur.toList)[j]? = some (.int .u64 ((G.getD j 0 : Nat) : Int)) := by
      rw [hc4]
      unfold usV
      rw [List.getElem?_map, List.getElem?_eq_getElem hj, List.getD_eq_getElem?_getD, List.getElem?_eq_getElem hj]
      rfl
    rw [List.getElem?_take, if_pos (by omega)] at h5
    simpa [World.cell?, hh] using h5
theorem wrap_u64n (a : Nat) (h : a < 18446744073709551616) : IntKind.u64.wrap ((a : Nat) : Int) = ((a : Nat) : Int) := by
  simp only [IntKind.wrap, IntKind.bits, IntKind.signed, Bool.false_and, Bool.false_eq_true, if_false]
  omega
def SgRel (w : World) (o i : Value) (wr : World) : Prop :=
  ∃ k : Nat, k ≤ 36 ∧ i = .int .i64 (k : Int) ∧ OwnsU wr w.heap.size o (sgl k) ∧ Below w.heap.size w wr
def SinglesEnd (w : World) (e : Ending) (w' : World) : Prop := ∃ v, e = .returned v ∧ OwnsU w' w.heap.size v (sgl 36) ∧ Below w.heap.size w w'
theorem ownsU_empty (w : World) (B : Nat) (hB : B ≤ w.heap.size) : OwnsU (w.alloc (.cells #[] 53)) B (.slice (some ⟨w.heap.size, 0, none⟩) 0 0) [] :=
  World.ownsRow_lit (e := 53) w #[] 0 hB (by unfold maxLen; omega) (by simp)
set_option maxRecDepth 100000 in
theorem singles_any (w : World) : Calls Tryz.prog 50 #[] w (SinglesEnd w) := by
  obtain ⟨i0, hi, iz0, iz1, iz2⟩ := info_parts infoSet
  go_enter Tryz.func50, Tryz.ntmps50
  go_wp2
  go_loopw [1, 4] (SgRel w) (fun _ i _ => 36 - (intOf i).toNat)
  case atStart => exact ⟨0, Nat.zero_le _, rfl, ownsU_empty w _ (Nat.le_refl _), (by repeat (first | with_reducible exact Below.refl _ _ | with_reducible assumption | with_reducible refine Below.drew ?_ | with_reducible refine below_drewN ?_ _ | with_reducible refine Below.alloc ?_ ?_ _ | with_reducible refine Below.setCell ?_ ?_ _ | with_reducible refine Below.trans ?_ (Below.mono (by assumption) ?_) | omega | (simp <;> omega)))⟩
  case round =>
    obtain ⟨k, hk, rfl, hown, hbw⟩ := hrel
    have hlen := sgl_len k
    by_cases hlt : k < 36
    · have hlt' : (k : Int) < 36 := by omega
      have hp64 : (2 : Nat) ^ k < 18446744073709551616 := Nat.lt_of_lt_of_le (Nat.pow_lt_pow_right (by omega) hlt) (by decide)
      have hpI : ((2 : Int) ^ k) = ((2 ^ k : Nat) : Int) := by simp
      have hw : IntKind.u64.wrap ((2 : Int) ^ k) = ((2 ^ k : Nat) : Int) := by rw [hpI]; exact wrap_u64n _ hp64
      generalize hP : 2 ^ k = P2 at hw hp64 hpI
      have hPP := Lib.hid hP
      clear hP hpI
      go_wp2_with (at_builtin; refine wpList_append_own _ rfl _ _ 66 rfl w.heap.size 53 i0 (.int .u64 0) 1 8 Tryz.underlying66 hi iz0 iz1 iz2 rfl (by decide) _ _ _ rfl (World.ownsRow.alloc hown _) ⟨wr.heap.size, 0, none⟩ 1 1 [.int .u64 ((P2 : Nat) : Int)] rfl rfl ?c1 ?c2 ?c3 ?c4 ?c5 ?_)
      case c1 =>
        intro j u hj
        match j, hj with
        | 0, hj => simp at hj; subst hj; simp [Addr.add]
      case c2 => intro u hu; simp at hu; subst hu; rfl
      case c3 => unfold maxLen; omega
      case c4 => omega
      case c5 => have := hbw.size; simp; omega
      intro v' w1 hown' hgrow hnil
      have hB : Below w.heap.size w w1 := (hbw.alloc hbw.size _).grown hgrow (by have := hbw.size; simp; omega) (fun j hj => (hown.lt j hj).1)
      have hO : OwnsU w1 w.heap.size v' (sgl (k + 1)) := by
        rw [sgl_succ, hPP.out]
        unfold OwnsU usV at *
        simpa [hlen] using hown'
      clear hown' hgrow hnil hown
      go_wp2
      go_roundw
      case rel => exact ⟨k + 1, by omega, by go_num, hO, hB⟩
      case measure => simp [intOf]; omega
    · have e : k = 36 := by omega
      subst e
      go_wp2
      go_ret
      exact ⟨_, rfl, hown, hbw⟩

def TofEnd (X : Nat) (G : List Nat) (w : World) (e : Ending) (w' : World) : Prop :=
  ∃ P Q L, e = .returned (.pointer (some ⟨w.heap.size, 0, none⟩)) ∧ TblAt w' w.heap.size P Q L ∧ TS X G P Q L ∧ Below w.heap.size w w'
def TofRel (X : Nat) (G : List Nat) (w : World) (i : Value) (wr : World) : Prop :=
  ∃ (k : Nat) (P Q : Nat → Nat) (L : List Nat), k ≤ G.length ∧ i = .int .i64 (k : Int) ∧ TblAt wr w.heap.size P Q L ∧ TS X (G.take k) P Q L ∧ Below w.heap.size w wr
theorem TS.len {X : Nat} {G : List Nat} {P Q : Nat → Nat} {L : List Nat} (h : TS X G P Q L) : L.length ≤ G.length := by
  obtain ⟨R, ht, _⟩ := h
  have := ht.len
  omega
theorem zc_eq : Tryz.zeroCells68 = (List.replicate 72 (Value.int .u64 0) ++ [Value.slice none 0 0]).toArray := by kernel_rfl
theorem zc_at (j : Nat) (hj : j < 72) : Tryz.zeroCells68[j]? = some (.int .u64 0) := by
  rw [zc_eq, List.getElem?_toArray, List.getElem?_append_left (by rw [List.length_replicate]; exact hj), List.getElem?_replicate, if_pos hj]
theorem zc_72 : Tryz.zeroCells68[72]? = some (.slice none 0 0) := by
  rw [zc_eq, List.getElem?_toArray, List.getElem?_append_right (by rw [List.length_replicate]; omega), List.length_replicate]
  rfl
theorem tbl_new (w : World) : TblAt (w.alloc (.cells Tryz.zeroCells68 68)) w.heap.size (fun _ => 0) (fun _ => 0) [] := by
  have hc : ∀ j, (w.alloc (.cells Tryz.zeroCells68 68)).cell? ⟨w.heap.size, j, none⟩ = Tryz.zeroCells68[j]? := fun j => World.cell?_alloc_new w _ _ j
  refine ⟨fun k hk => ⟨by rw [hc, zc_at _ (by omega)]; rfl, by rw [hc, zc_at _ (by omega)]; rfl⟩, ⟨_, (hc 72).trans zc_72, ?_⟩, fun o => World.frozen?_alloc_new w _ _ o⟩
  exact World.ownsRow_nil _ _ _ _
set_option maxRecDepth 100000 in
theorem tableOf_any (X : Nat) (hX : Vs X) (v : Value) (G : List Nat) (hG : ∀ x, x ∈ G → Vs x) (hGl : G.length ≤ 36) (w : World) (hr : ReadsU w v G) (hz : TabZ w) :
    Calls Tryz.prog 51 #[.int .u64 (X : Int), v] w (TofEnd X G w) := by
  have hzl := hz.lt
  have HZ := Lib.hid hz
  have HG := Lib.hid hG
  have HX := Lib.hid hX
  have hN := Lib.hid (tbl_new w)
  clear hz hG hX
  rcases hr with ⟨rfl, rfl⟩ | ⟨g, cap, rfl, hg, hcell⟩
  · go_enter Tryz.func51, Tryz.ntmps51
    go_wp2
    refine wp_loop_rounds 2 ?_
    rw [rounds_succ]
    go_wp2
    go_ret
    exact ⟨_, _, _, rfl, hN.out, TS.start X, (by repeat (first | with_reducible exact Below.refl _ _ | with_reducible assumption | with_reducible refine Below.drew ?_ | with_reducible refine below_drewN ?_ _ | with_reducible refine Below.alloc ?_ ?_ _ | with_reducible refine Below.setCell ?_ ?_ _ | with_reducible refine Below.trans ?_ (Below.mono (by assumption) ?_) | omega | (simp <;> omega)))⟩
  · go_enter Tryz.func51, Tryz.ntmps51
    go_wp2
    go_loopw [12] (TofRel X G w) (fun i _ => G.length - (intOf i).toNat)
    case atStart => exact ⟨0, _, _, _, Nat.zero_le _, rfl, hN.out, by rw [List.take_zero]; exact TS.start X, (by repeat (first | with_reducible exact Below.refl _ _ | with_reducible assumption | with_reducible refine Below.drew ?_ | with_reducible refine below_drewN ?_ _ | with_reducible refine Below.alloc ?_ ?_ _ | with_reducible refine Below.setCell ?_ ?_ _ | with_reducible refine Below.trans ?_ (Below.mono (by assumption) ?_) | omega | (simp <;> omega)))⟩
    case round =>
      obtain ⟨k, P, Q, L, hk, rfl, hT, hS, hbw⟩ := hrel
      have hbsz := hbw.size
      by_cases hlt : k < G.length
      · have hlt' : (k : Int) < (G.length : Int) := by omega
        have hc := (hbw.cell (p := ⟨g, k, none⟩) hg).trans (hcell k hlt)
        have hgw : g < wr.heap.size := by omega
        have hxm : G.getD k 0 ∈ G := by rw [List.getD_eq_getElem?_getD, List.getElem?_eq_getElem hlt]; exact List.getElem_mem hlt
        have htk : G.take (k + 1) = G.take k ++ [G.getD k 0] := by rw [List.take_add_one, List.getD_eq_getElem?_getD, List.getElem?_eq_getElem hlt]; rfl
        have hx := HG.out _ hxm
        have hzw := HZ.out.below hbw hzl
        have hLl : L.length ≤ 1000 := by have := hS.len; rw [List.length_take] at this; omega
        generalize G.getD k 0 = x at *
        have hPr := print_any X x HX.out hx
        have hcases : ∀ W, TblAt W w.heap.size P Q L → TabZ W → ∃ P' Q' L', TS X (G.take (k + 1)) P' Q' L' ∧ Calls Tryz.prog 71 #[.pointer (some ⟨w.heap.size, 0, none⟩), .agg #[.int .u64 ((printS X x : Nat) : Int), .int .u64 (x : Int)]] W fun e w' => e = .returned (.tuple #[]) ∧ TblAt w' w.heap.size P' Q' L' ∧ Below w.heap.size W w' := by
          intro W hW hZW
          rw [htk]
          by_cases h0 : (rdN P Q (printS X x) x 36).1 = 0
          · exact ⟨_, _, _, hS.add0 h0, add_quiet _ P Q L _ _ (printS_vs _ _) hx hS.vs hLl W hW h0⟩
          · exact ⟨_, _, _, hS.add1 hx h0, add_pair _ P Q L _ _ (printS_vs _ _) hx hS.vs W hW hZW h0⟩
        have hPR := Lib.hid hPr
        have HC := Lib.hid hcases
        have HT := Lib.hid hT
        have HZW := Lib.hid hzw
        clear hPr hcases hT hS hzw hx hxm htk
        go_wp2_with (first | (go_at_call 41; (with_reducible refine (hPR.out _).mono ?_); rintro e w1 ⟨rfl, hb⟩; have hT1 := HT.out.below hb (Nat.le_refl _); obtain ⟨P', Q', L', hS', hadd⟩ := HC.out w1 hT1 (HZW.out.below hb (by omega)); have hAD := Lib.hid hadd; clear hadd) | (go_at_call 71; (with_reducible refine (hAD.out).mono ?_); rintro e w2 ⟨rfl, hT2, hb2⟩))
        have hB1 := hbw.trans (hb.mono hbw.size)
        have hB2 : Below w.heap.size w w2 := hB1.trans hb2
        go_roundw
        case rel => exact ⟨k + 1, P', Q', L', by omega, by go_num, hT2, hS', hB2⟩
        case measure => simp [intOf]; omega
      · have e : k = G.length := by omega
        subst e
        rw [List.take_length] at hS
        go_wp2
        go_ret
        exact ⟨_, _, _, rfl, hT, hS, hbw⟩
end Go.Proofs.YtgjgefbcfcomcaaGreatDoor
namespace Go.Proofs.YtgjgefbcfcomcaaGreatDoor
open Go.RowKit
set_option linter.unusedSimpArgs false
set_option linter.unusedVariables false

def WholeEnd (X : Nat) (w : World) (e : Ending) (w' : World) : Prop :=
  ∃ T P Q L, e = .returned (.pointer (some ⟨T, 0, none⟩)) ∧ w.heap.size ≤ T ∧ TblAt w' T P Q L ∧ TS X (sgl 36) P Q L ∧ Below w.heap.size w w'
theorem sgl_vs : ∀ x, x ∈ sgl 36 → Vs x := fun x hx => by
  obtain ⟨i, hi, rfl⟩ := List.mem_map.1 hx
  exact Nat.pow_lt_pow_right (by omega) (List.mem_range.1 hi)
set_option maxRecDepth 100000 in
theorem whole_any (X : Nat) (hX : Vs X) (w : World) (hz : TabZ w) : Calls Tryz.prog 32 #[.int .u64 (X : Int)] w (WholeEnd X w) := by
  have hzl := hz.lt
  have HZ := Lib.hid hz
  have HX := Lib.hid hX
  clear hz hX
  go_enter Tryz.func32, Tryz.ntmps32
  go_wp2_with (first | (go_at_call 50; (with_reducible refine (singles_any _).mono ?_); rintro e w1 ⟨v, rfl, hown, hb⟩) | (go_at_call 51; (with_reducible refine (tableOf_any X HX.out v (sgl 36) sgl_vs (by rw [sgl_len]; omega) _ hown.reads (HZ.out.below hb hzl)).mono ?_); rintro e w2 ⟨P, Q, L, rfl, hT, hS, hb2⟩))
  have hs := hb.size
  go_ret
  exact ⟨_, P, Q, L, rfl, hs, hT, hS, hb.trans (hb2.mono hs)⟩
set_option maxRecDepth 100000 in
theorem solve_any (T : Nat) (P Q : Nat → Nat) (t : Nat) (ht : Vs t) (hv : ∀ k, k < 36 → Vs (P k) ∧ Vs (Q k)) (w : World) (h : PrsAt w T P Q) :
    Calls Tryz.prog 38 #[.pointer (some ⟨T, 0, none⟩), .int .u64 (t : Int)] w
      fun e w' => e = .returned (.tuple #[.int .u64 ((rdN P Q t 0 36).2 : Int), .bool (decide ((rdN P Q t 0 36).1 = 0))]) ∧ Below w.heap.size w w' := by
  have hr := reduced_any T P Q t 0 ht (by unfold Vs; omega) hv w h
  rw [show ((0 : Nat) : Int) = 0 from rfl] at hr
  have hR := Lib.hid hr
  have hq : (((rdN P Q t 0 36).1 : Int) == 0) = decide ((rdN P Q t 0 36).1 = 0) := by rw [Bool.eq_iff_iff, beq_iff_eq, decide_eq_true_eq]; omega
  have hQ := Lib.hid hq
  clear hq h ht hv hr
  go_enter Tryz.func38, Tryz.ntmps38
  go_wp2_with (go_at_call 65; (with_reducible refine (hR.out).mono ?_); rintro e w1 ⟨rfl, hb⟩; obtain ⟨hc, hf, hT, hz⟩ := bfacts hb; (try simp only [World.size_alloc, World.size_setCell, World.size_drew, size_drewN] at hc hf hT hz); (try (have hzA := Nat.lt_of_succ_le hz)); (try (have hl0 : w.heap.size ≤ w1.heap.size := by omega)); (try (have hz0 : w.heap.size < w1.heap.size := by omega)); (try (have hz1 : w.heap.size + 1 < w1.heap.size := by omega)); (try (have hz2 : w.heap.size + 1 + 1 < w1.heap.size := by omega)); (try (have hz3 : w.heap.size + 1 + 1 + 1 < w1.heap.size := by omega)); (try (have hz4 : w.heap.size + 1 + 1 + 1 + 1 < w1.heap.size := by omega)))
  go_region
  all_goals
    go_wp2
    rw [hQ.out]
    exact bodyPost_ret (v := .tuple #[.int .u64 ((rdN P Q t 0 36).2 : Int), .bool (decide ((rdN P Q t 0 36).1 = 0))]) (by simp [results, Tryz.results38, go_sem, *]) rfl ⟨rfl, (by repeat (first | with_reducible exact Below.refl _ _ | with_reducible assumption | with_reducible refine Below.drew ?_ | with_reducible refine below_drewN ?_ _ | with_reducible refine Below.alloc ?_ ?_ _ | with_reducible refine Below.setCell ?_ ?_ _ | with_reducible refine Below.trans ?_ (Below.mono (by assumption) ?_) | omega | (simp <;> omega)))⟩
/-- no presses but none are quiet -/
def NoKer (X : Nat) : Prop := ∀ y, Vs y → printS X y = 0 → y = 0
theorem TS.none {X : Nat} {P Q : Nat → Nat} {L : List Nat} (h : TS X (sgl 36) P Q L) (hk : NoKer X) : L.length = 0 := by
  obtain ⟨R, ht, _⟩ := h
  have hi := ht.ind (sgl_ind 36)
  cases L with
  | nil => rfl
  | cons l L =>
    obtain ⟨h1, h2⟩ := (ind_cons _ _).1 hi
    obtain ⟨g1, g2⟩ := (ht.ker (print_lin X) l).1 (sp_mem _ l List.mem_cons_self)
    have e := hk l ((sp_sgl 36 l).1 g1) g2
    subst e
    exact absurd (sp_zero L) h2
theorem TS.some {X : Nat} {P Q : Nat → Nat} {L : List Nat} (h : TS X (sgl 36) P Q L) (hk : ¬ NoKer X) : 0 < L.length := by
  obtain ⟨R, ht, _⟩ := h
  cases L with
  | cons l L => rw [List.length_cons]; omega
  | nil =>
    exfalso
    refine hk fun y hy h0 => ?_
    exact (ht.ker (print_lin X) y).2 ⟨(sp_sgl 36 y).2 hy, h0⟩
/-- in the table's variable the quiet presses lie as a slice of their number -/
theorem TblAt.quietSlice {w : World} {T : Nat} {P Q : Nat → Nat} {L : List Nat} (h : TblAt w T P Q L) : ∃ a c, w.cell? ⟨T, 72, none⟩ = some (.slice a L.length c) ∧ OwnsU w (T + 1) (.slice a L.length c) L := by
  obtain ⟨_, ⟨v, h1, h2⟩, _⟩ := h
  obtain ⟨a, c, rfl⟩ := owns_slice h2
  exact ⟨a, c, h1, h2⟩
end Go.Proofs.YtgjgefbcfcomcaaGreatDoor
