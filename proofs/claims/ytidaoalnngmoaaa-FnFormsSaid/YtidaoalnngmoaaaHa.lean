/-
  The reference's cursor that draws inputs: contracts of next, pick, one and among. No conditions.
-/
import Derived.Test.YtidaoalnngmoaaaCk
import Derived.Lib.BufferOwn
import Derived.Lib.BufferWrite
import Derived.Lib.HexFns2
namespace Go.Proofs.Ytidaoalnngmoaaa
open Go.RowKit
set_option linter.unusedSimpArgs false
set_option linter.unusedVariables false

/-- the slice cv has len bytes that can be read, below block C -/
def CodeB (w : World) (C : Nat) (cv : Value) (len : Nat) : Prop :=
  (cv = .slice none 0 0 ∧ len = 0) ∨ ∃ cb co cap : Nat, cv = .slice (some ⟨cb, co, none⟩) len cap ∧ cb < C ∧ ∀ j, j < len → ∃ z : Int, w.cell? ⟨cb, co + j, none⟩ = some (.int .u8 z) ∧ 0 ≤ z ∧ z ≤ 255
/-- block C is a cursor over cv, at most at n -/
def Cur (w : World) (C : Nat) (cv : Value) (len n : Nat) : Prop :=
  ∃ (at' : Nat) (sd : Int), w.heap[C]? = some (.cells #[cv, .int .i64 (at' : Int), .int .u64 sd] 113 (0, 0)) ∧ at' ≤ n ∧ CodeB w C cv len
theorem Cur.lt {w : World} {C len n : Nat} {cv : Value} (h : Cur w C cv len n) : C < w.heap.size := by
  obtain ⟨a, s, h1, _⟩ := h
  exact (Array.getElem?_eq_some_iff.1 h1).1
theorem CodeB.step {w w' : World} {C len : Nat} {cv : Value} (h : CodeB w C cv len) (hC : C ≤ w.heap.size) (hb : ∀ b, b < C → w'.heap[b]? = w.heap[b]?) : CodeB w' C cv len := by
  rcases h with h | ⟨cb, co, cap, h1, h2, h3⟩
  · exact .inl h
  · refine .inr ⟨cb, co, cap, h1, h2, fun j hj => ?_⟩
    obtain ⟨z, hz⟩ := h3 j hj
    exact ⟨z, by rw [World.cell?_of_block (hb cb h2)]; exact hz⟩
theorem Cur.mono {w : World} {C len n m : Nat} {cv : Value} (h : Cur w C cv len n) (hm : n ≤ m) : Cur w C cv len m := by
  obtain ⟨a, s, h1, h2, h3⟩ := h
  exact ⟨a, s, h1, by omega, h3⟩
theorem Cur.below {w w' : World} {C len n : Nat} {cv : Value} (h : Cur w C cv len n) (hb : Below w.heap.size w w') : Cur w' C cv len n := by
  have hl := h.lt
  obtain ⟨a, s, h1, h2, h3⟩ := h
  exact ⟨a, s, (hb.block C hl).trans h1, h2, h3.step (by omega) (fun b hb2 => hb.block b (by omega))⟩
/-- what a step of a cursor leaves as it was -/
theorem gfacts {w w1 : World} {C : Nat} (hg : w.grownBy w1 (some C)) : (∀ b o, b < w.heap.size → C < b → w1.cell? ⟨b, o, none⟩ = w.cell? ⟨b, o, none⟩) ∧ (∀ b o, b < w.heap.size → C < b → w1.frozen? ⟨b, o, none⟩ = w.frozen? ⟨b, o, none⟩) ∧
    (∀ x, x < w.heap.size → x < w1.heap.size) ∧ w.heap.size ≤ w1.heap.size :=
  ⟨fun b o h h2 => World.cell?_of_block (hg.block b h (fun e => by injection e with e; omega)), fun b o h h2 => World.frozen?_of_block (hg.block b h (fun e => by injection e with e; omega)), fun _ h => Nat.lt_of_lt_of_le h hg.size, hg.size⟩

theorem and255 (x : Int) : 0 ≤ wrap64 (bits .and .u64 x 255) ∧ wrap64 (bits .and .u64 x 255) ≤ 255 := by
  have h : bits .and .u64 x 255 = IntKind.u64.wrap (((BitVec.ofInt 64 x &&& BitVec.ofInt 64 255).toNat : Nat) : Int) := rfl
  have h2 : (BitVec.ofInt 64 x &&& BitVec.ofInt 64 255).toNat ≤ 255 := by
    rw [BitVec.toNat_and]
    exact Nat.le_trans Nat.and_le_right (by decide)
  generalize (BitVec.ofInt 64 x &&& BitVec.ofInt 64 255).toNat = y at *
  have h3 : IntKind.u64.wrap (y : Int) = (y : Int) := by
    simp only [IntKind.wrap, IntKind.bits, IntKind.signed, Bool.false_and, Bool.false_eq_true, if_false]
    exact Int.emod_eq_of_lt (by omega) (by omega)
  rw [h, h3, IntWalk.wrap64_in _ ⟨by omega, by omega⟩]
  omega
/-- what next leaves -/
def NextEnd (C : Nat) (cv : Value) (len n : Nat) (w : World) (e : Ending) (w' : World) : Prop :=
  ∃ r : Int, e = .returned (.int .i64 r) ∧ (0 ≤ r ∧ r ≤ 255) ∧ Cur w' C cv len (n + 1) ∧ w.grownBy w' (some C)
theorem cur_set {w : World} {C : Nat} {cv : Value} {a b c d : Value} {T : Nat} (h : w.heap[C]? = some (.cells #[cv, a, b] T (0, 0))) :
    ((w.setCell ⟨C, 1, none⟩ c).setCell ⟨C, 2, none⟩ d).heap[C]? = some (.cells #[cv, c, d] T (0, 0)) := by
  simp [World.setCell, Array.getElem?_modify, h]
theorem cur_grown (w : World) (C : Nat) (c d : Value) : w.grownBy ((w.setCell ⟨C, 1, none⟩ c).setCell ⟨C, 2, none⟩ d) (some C) :=
  Lib.grownBy_setB (Lib.grownBy_setCell w C 1 c) 2 d
theorem next_fin {w : World} {C len n at' : Nat} {cv : Value} {sd r : Int} (hB : w.heap[C]? = some (.cells #[cv, .int .i64 (at' : Int), .int .u64 sd] 113 (0, 0))) (hat : at' ≤ n) (hc : CodeB w C cv len) (hr : 0 ≤ r ∧ r ≤ 255) (a b : Nat) (x : Int) :
    NextEnd C cv len n w (.returned (.int .i64 r)) ((((w.drewN a).setCell ⟨C, 1, none⟩ (.int .i64 ((at' : Int) + 1))).setCell ⟨C, 2, none⟩ (.int .u64 x)).drewN b) := by
  have hC : C < w.heap.size := (Array.getElem?_eq_some_iff.1 hB).1
  have hg : w.grownBy ((w.setCell ⟨C, 1, none⟩ (.int .i64 ((at' : Int) + 1))).setCell ⟨C, 2, none⟩ (.int .u64 x)) (some C) := cur_grown w C _ _
  have hg2 : w.grownBy ((((w.drewN a).setCell ⟨C, 1, none⟩ (.int .i64 ((at' : Int) + 1))).setCell ⟨C, 2, none⟩ (.int .u64 x)).drewN b) (some C) := ⟨hg.os, hg.tape, hg.output, hg.size, hg.block⟩
  have hs := cur_set (c := .int .i64 ((at' : Int) + 1)) (d := .int .u64 x) hB
  exact ⟨r, rfl, hr, ⟨at' + 1, x, hs, by omega, hc.step (by omega) (fun b' hb' => hg2.block b' (by omega) (fun e => by injection e with e; omega))⟩, hg2⟩
set_option maxRecDepth 100000 in
set_option maxHeartbeats 1600000 in
theorem next_any (C len n : Nat) (cv : Value) (hn : n ≤ 1000000) (hlen : len ≤ 1000000) (w : World) (hcur : Cur w C cv len n) : Calls Try.prog 128 #[.pointer (some ⟨C, 0, none⟩)] w (NextEnd C cv len n w) := by
  obtain ⟨at', sd, hB, hat, hcode⟩ := hcur
  have c0 : w.cell? ⟨C, 0, none⟩ = some cv := by simp [World.cell?, hB]
  have c1 : w.cell? ⟨C, 1, none⟩ = some (.int .i64 (at' : Int)) := by simp [World.cell?, hB]
  have c2 : w.cell? ⟨C, 2, none⟩ = some (.int .u64 sd) := by simp [World.cell?, hB]
  have cf : ∀ o, w.frozen? ⟨C, o, none⟩ = false := fun o => by simp [World.frozen?, hB]
  have HB := Lib.hid hB
  have HCo := Lib.hid hcode
  clear hB
  by_cases hlt : at' < len
  · rcases hcode with ⟨_, h0⟩ | ⟨cb, co, cap, rfl, hcb, hcell⟩
    · omega
    · obtain ⟨z, hz, z0, z1⟩ := hcell at' hlt
      clear hcell
      have hlt' : (at' : Int) < (len : Int) := by omega
      have hle' : (at' : Int) + 1 ≤ (len : Int) := by omega
      go_enter Try.func128, Try.ntmps128
      go_wp2
      go_quiet (fail)
      go_wp2
      go_quiet (fail)
      go_wp2
      go_quiet (fail)
      go_wp2
      go_ret
      exact next_fin HB.out hat HCo.out ⟨z0, z1⟩ _ _ _
  · have hge : ¬ (at' : Int) < (len : Int) := by omega
    have hge' : ¬ (at' : Int) + 1 ≤ (len : Int) := by omega
    have hA := Lib.hid and255
    rcases hcode with ⟨rfl, rfl⟩ | ⟨cb, co, cap, rfl, hcb, hcell⟩
    · go_enter Try.func128, Try.ntmps128
      go_wp2
      go_quiet (fail)
      go_wp2
      go_quiet (fail)
      go_wp2
      go_ret
      exact next_fin HB.out hat HCo.out (hA.out _) _ _ _
    · clear hcell
      go_enter Try.func128, Try.ntmps128
      go_wp2
      go_quiet (fail)
      go_wp2
      go_quiet (fail)
      go_wp2
      go_ret
      exact next_fin HB.out hat HCo.out (hA.out _) _ _ _

/-- what pick leaves -/
def PickEnd (C : Nat) (cv : Value) (len n : Nat) (k : Int) (w : World) (e : Ending) (w' : World) : Prop :=
  ∃ r : Int, e = .returned (.int .i64 r) ∧ (0 ≤ r ∧ r < k) ∧ Cur w' C cv len (n + 1) ∧ w.grownBy w' (some C)
set_option maxRecDepth 100000 in
theorem pick_any (C len n : Nat) (cv : Value) (k : Int) (hk : 1 ≤ k ∧ k ≤ 200) (hn : n ≤ 1000000) (hlen : len ≤ 1000000) (w : World) (hcur : Cur w C cv len n) : Calls Try.prog 121 #[.pointer (some ⟨C, 0, none⟩), .int .i64 k] w (PickEnd C cv len n k w) := by
  by_cases h1 : k ≤ 1
  · have e : k = 1 := by omega
    subst e
    have HC := Lib.hid (hcur.mono (show n ≤ n + 1 by omega))
    clear hcur
    go_enter Try.func121, Try.ntmps121
    go_wp2
    go_ret
    exact ⟨0, rfl, ⟨by omega, by omega⟩, HC.out, World.grownBy.refl _ _⟩
  · have h2 : ¬ 200 < k := by omega
    have hN := Lib.hid (next_any C len n cv hn hlen w hcur)
    clear hcur
    go_enter Try.func121, Try.ntmps121
    go_wp2_with (go_at_call 128; (with_reducible refine hN.out.mono ?_); rintro e w1 ⟨r, rfl, ⟨r0, r1⟩, hcu, hg⟩)
    go_ret
    exact ⟨r % k, by simp, ⟨Int.emod_nonneg _ (by omega), Int.emod_lt_of_pos _ (by omega)⟩, hcu, hg⟩
/-- what one leaves -/
def OneEnd (C : Nat) (cv : Value) (len n : Nat) (w : World) (e : Ending) (w' : World) : Prop :=
  ∃ b : Bool, e = .returned (.bool b) ∧ Cur w' C cv len (n + 1) ∧ w.grownBy w' (some C)
set_option maxRecDepth 100000 in
theorem one_any (C len n : Nat) (cv : Value) (k : Int) (hk : 1 ≤ k ∧ k ≤ 200) (hn : n ≤ 1000000) (hlen : len ≤ 1000000) (w : World) (hcur : Cur w C cv len n) : Calls Try.prog 107 #[.pointer (some ⟨C, 0, none⟩), .int .i64 k] w (OneEnd C cv len n w) := by
  have hN := Lib.hid (pick_any C len n cv k hk hn hlen w hcur)
  clear hcur
  go_enter Try.func107, Try.ntmps107
  go_wp2_with (go_at_call 121; (with_reducible refine hN.out.mono ?_); rintro e w1 ⟨r, rfl, ⟨r0, r1⟩, hcu, hg⟩)
  go_ret
  exact ⟨_, rfl, hcu, hg⟩
/-- what among leaves -/
def AmongEnd (C : Nat) (cv : Value) (len n : Nat) (P : Int → Prop) (w : World) (e : Ending) (w' : World) : Prop :=
  ∃ r : Int, e = .returned (.int .i64 r) ∧ P r ∧ Cur w' C cv len (n + 1) ∧ w.grownBy w' (some C)
set_option maxRecDepth 100000 in
theorem among_any (C len n : Nat) (cv : Value) (P : Int → Prop) (L q cap : Nat) (hq : 1 ≤ q ∧ q ≤ 200) (hn : n ≤ 1000000) (hlen : len ≤ 1000000) (w : World) (hcur : Cur w C cv len n) (hCL : C < L)
    (hP : ∀ j, j < q → ∃ z : Int, w.cell? ⟨L, j, none⟩ = some (.int .i64 z) ∧ P z) : Calls Try.prog 119 #[.pointer (some ⟨C, 0, none⟩), .slice (some ⟨L, 0, none⟩) q cap] w (AmongEnd C cv len n P w) := by
  have hN := Lib.hid (pick_any C len n cv (q : Int) ⟨by omega, by omega⟩ hn hlen w hcur)
  have HP := Lib.hid hP
  have hLs : L < w.heap.size := by
    obtain ⟨z, hz, _⟩ := hP 0 (by omega)
    exact World.block_lt_of_cell? w _ hz
  clear hcur hP
  go_enter Try.func119, Try.ntmps119
  go_wp2_with (go_at_call 121; (with_reducible refine hN.out.mono ?_); rintro e w1 ⟨r, rfl, ⟨r0, r1⟩, hcu, hg⟩; obtain ⟨s, rfl⟩ : ∃ s : Nat, r = (s : Int) := ⟨r.toNat, by omega⟩; obtain ⟨z, hz, hPz⟩ := HP.out s (by omega); have hz1 : w1.cell? ⟨L, s, none⟩ = some (.int .i64 z) := (World.cell?_of_block (hg.block L hLs (fun e => by injection e with e; omega))).trans hz; clear hz)
  go_ret
  exact ⟨z, rfl, hPz, hcu, hg⟩
end Go.Proofs.Ytidaoalnngmoaaa
