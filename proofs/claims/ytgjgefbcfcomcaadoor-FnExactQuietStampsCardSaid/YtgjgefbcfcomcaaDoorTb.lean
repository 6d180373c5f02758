/-
  The program's table of prints: the lowest cell, and adding a pair. Under: the library's own table of the lowest bits lies as its initialiser lays it.
-/
import Derived.Test.YtgjgefbcfcomcaaDoorTa
import Derived.Maps.AppendAt
import Derived.Deep.RegionLaw
import Derived.Deep.RegionWith
import Derived.Shelf.Spec.TrailingZeros
namespace Go.Proofs.YtgjgefbcfcomcaaDoor
open Go.RowKit
set_option linter.unusedSimpArgs false
set_option linter.unusedVariables false

/-- the library's table of the lowest bits lies in memory -/
def TabZ (w : World) : Prop := ∀ j, j < Lib.deBruijn64tab.length → w.cell? ⟨0, j, none⟩ = some (.int .u8 (Lib.deBruijn64tab.getD j 0))
theorem TabZ.lt {w : World} (h : TabZ w) : 0 < w.heap.size := World.block_lt_of_cell? w _ (h 0 (by decide))
theorem TabZ.below {w w' : World} {N : Nat} (h : TabZ w) (hb : Below N w w') (hN : 0 < N) : TabZ w' := fun j hj => (hb.cell (p := ⟨0, j, none⟩) hN).trans (h j hj)
set_option maxHeartbeats 1000000 in
theorem tz_core (x k idx : Nat) (w : World) (hx0 : ((x : Int) == 0) = false)
    (key : IntKind.u64.wrap (bits BinOp.and IntKind.u64 (x : Int) (IntKind.u64.wrap (-(x : Int))) * 285870213051353865) / 288230376151711744 = (idx : Int))
    (hi : idx < 64) (hk : k < 64) (hcell : w.cell? ⟨0, idx, none⟩ = some (.int .u8 k)) :
    Calls Tryd.prog 100 #[.int .u64 x] w fun e w' => e = .returned (.int .i64 k) ∧ w = w' := by
  go_enter Tryd.func100, Tryd.ntmps100
  go_wp2_with (simp only [key])
  go_ret
  exact ⟨rfl, rfl⟩
theorem tz_any (x : Nat) (hX : Vs x) (h0 : x ≠ 0) (w : World) (hT : TabZ w) : Calls Tryd.prog 100 #[.int .u64 (x : Int)] w fun e w' => e = .returned (.int .i64 ((Lib.ctz 64 x : Nat) : Int)) ∧ w = w' := by
  have hx : x < 18446744073709551616 := by have := hX.lt; omega
  obtain ⟨hlow, hk⟩ := Lib.lowest_bit 64 x h0 hx
  obtain ⟨hi, htab⟩ := Lib.deBruijn64_at _ hk
  have hcell := hT _ hi
  rw [htab] at hcell
  exact tz_core x _ _ w (by simp; omega) (tz64_key x _ hx h0 hlow) hi hk hcell

/-- append onto a row of the call's own, as one step of a region that draws -/
theorem step_append_own {P : Program} {ops : Array Oper} {o : Oper} {a : Act} {w : World} {K : Act → World → Prop} {Q : Exit → Act → World → Prop} {E : Prop}
    (hgd : o.guard = none) (s x : Operand) (t : TypeId) (ho : o.op = Op.call { callee := Callee.builtin Builtin.append, args := #[s, x], argTypes := #[t, t] })
    (base : Nat) (e : TypeId) (i : TypeInfo) (z : Value) (size bytes : Nat) (ht : P.underlying t = some (.slice e)) (hi : P.info? e = some i) (hz : i.zero = some z)
    (hsize : i.size = size) (hby : i.bytes = bytes) (hzs : z.cells.size = size) (hsz : 0 < size)
    (v : Value) (n : Nat) (xs : List Value) (hs : a.eval s = v) (hown : w.ownsRow base e size v n xs)
    (ad : Addr) (m c : Nat) (news : List Value) (hx : a.eval x = .slice (some ad) m c) (hl : news.length = m * size) (hnews : ∀ j u, news[j]? = some u → w.cell? (ad.add j) = some u) (h1 : ∀ u ∈ news, u.oneCell' = true)
    (h63 : n + m ≤ maxLen) (hbytes : (n + m) * bytes ≤ 140737488355328) (hbase : base ≤ w.heap.size)
    (hK : ∀ v' w', w'.ownsRow base e size v' (n + m) (xs ++ news) → w.grownBy w' v.ownBlock → K (a.put o.dst v') w') :
    if Region.wanted o (yielded ops a.tmps) = true then Oper.wp P o a w K Q else E := by
  have hw : Region.wanted o (yielded ops a.tmps) = true := by simp [Region.wanted, hgd]
  rw [if_pos hw]
  obtain ⟨v', w', hr, h2, h3, h4, h5⟩ := run_append_own_at (P := P) w base t o.type e i z size bytes ht hi hz hsize hby hzs hsz v n xs hown ad m c news hl hnews h1 h63 hbytes hbase
  unfold Oper.wp execOp
  simp only [ho, resolve, invoke, builtin, Sem.run_bind, Sem.run_pure, Result.andThen_ok, List.map_toArray, List.map_cons, List.map_nil, hs, hx, hr]
  exact hK _ _ h2 h3

theorem infoSet : (Tryd.prog.info? 57).map (fun i => (i.zero, i.size, i.bytes)) = some (some (.int .u64 0), 1, 8) := by kernel_rfl
/-- sets one behind another -/
def usV (L : List Nat) : List Value := L.map fun n : Nat => Value.int .u64 (n : Int)
/-- the slice value v holds the sets of L -/
def OwnsU (w : World) (B : Nat) (v : Value) (L : List Nat) : Prop := w.ownsRow B 57 1 v L.length (usV L)
theorem owns_move {w w1 : World} {base size n : Nat} {e : TypeId} {v : Value} {xs : List Value} (h : w.ownsRow base e size v n xs) (hm : ∀ k, base ≤ k → k < w.heap.size → w1.heap[k]? = w.heap[k]?) : w1.ownsRow base e size v n xs := by
  obtain ⟨h1, h2⟩ := h
  refine ⟨h1, ?_⟩
  rcases h2 with h2 | ⟨g, cap, cur, hv, hg, hh, r⟩
  · exact .inl h2
  · exact .inr ⟨g, cap, cur, hv, hg, (hm g hg (Array.getElem?_eq_some_iff.1 hh).1).trans hh, r⟩
/-- the table in block T -/
def TblAt (w : World) (T : Nat) (P Q : Nat → Nat) (L : List Nat) : Prop :=
  PrsAt w T P Q ∧ (∃ v, w.cell? ⟨T, 72, none⟩ = some v ∧ OwnsU w (T + 1) v L) ∧ ∀ o, w.frozen? ⟨T, o, none⟩ = false
theorem TblAt.below {w w' : World} {T N : Nat} {P Q : Nat → Nat} {L : List Nat} (h : TblAt w T P Q L) (hb : Below N w w') (hN : w.heap.size ≤ N) : TblAt w' T P Q L := by
  have hT := h.1.lt
  obtain ⟨h1, ⟨v, h2, h3⟩, h4⟩ := h
  exact ⟨h1.below hb (by omega), ⟨v, (hb.cell (p := ⟨T, 72, none⟩) (by show T < N; omega)).trans h2, owns_move h3 fun k _ hk => hb.block k (by omega)⟩, fun o => (hb.frozen (p := ⟨T, o, none⟩) (by show T < N; omega)).trans (h4 o)⟩
theorem set_at {w : World} {g o : Nat} {v u : Value} (h : w.cell? ⟨g, o, none⟩ = some u) (j : Nat) : (w.setCell ⟨g, o, none⟩ v).cell? ⟨g, j, none⟩ = if j = o then some v else w.cell? ⟨g, j, none⟩ := by
  split
  · rename_i e; subst e; exact World.cell?_setCell_same _ _ _ h
  · rename_i e; exact World.cell?_setCell_other _ _ _ _ (fun x => e (by injection x with _ y; exact y.symm))
theorem PrsAt.store {w : World} {T : Nat} {P Q : Nat → Nat} (h : PrsAt w T P Q) (k a b : Nat) (hk : k < 36) :
    PrsAt ((w.setCell ⟨T, k * 2, none⟩ (.int .u64 (a : Int))).setCell ⟨T, k * 2 + 1, none⟩ (.int .u64 (b : Int))) T (upN P k a) (upN Q k b) := by
  obtain ⟨c0, c1⟩ := h k hk
  have c1' : (w.setCell ⟨T, k * 2, none⟩ (.int .u64 (a : Int))).cell? ⟨T, k * 2 + 1, none⟩ = some (.int .u64 (Q k : Int)) := by rw [set_at c0, if_neg (by omega)]; exact c1
  intro j hj
  obtain ⟨d0, d1⟩ := h j hj
  unfold upN
  rw [set_at c1', set_at c1', set_at c0, set_at c0]
  by_cases e : j = k
  · subst e
    rw [if_neg (by omega), if_pos rfl, if_pos rfl, if_pos rfl, if_pos rfl]
    exact ⟨rfl, rfl⟩
  · simp only [if_neg e, show ¬ (j * 2 = k * 2 + 1) by omega, show ¬ (j * 2 = k * 2) by omega, show ¬ (j * 2 + 1 = k * 2 + 1) by omega, show ¬ (j * 2 + 1 = k * 2) by omega, if_false]
    exact ⟨d0, d1⟩
theorem PrsAt.quiet {w : World} {T : Nat} {P Q : Nat → Nat} (h : PrsAt w T P Q) {u : Value} (hu : w.cell? ⟨T, 72, none⟩ = some u) (v : Value) : PrsAt (w.setCell ⟨T, 72, none⟩ v) T P Q := fun j hj => by
  obtain ⟨d0, d1⟩ := h j hj
  rw [set_at hu, set_at hu, if_neg (by omega), if_neg (by omega)]
  exact ⟨d0, d1⟩
end Go.Proofs.YtgjgefbcfcomcaaDoor
