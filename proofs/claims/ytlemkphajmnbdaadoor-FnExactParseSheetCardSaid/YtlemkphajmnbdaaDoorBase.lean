/-
  Lemmas that every claim of this seat uses: how a law is closed from a walk that leaves old memory as it was, and how sheets and motions are opened. No conditions.
-/
import Derived.Test.YtlemkphajmnbdaaDoorRows
import Derived.WalkKit
import Derived.ProofKit
import Derived.OpenShut
import Derived.ShutString
import Derived.LoopN
import Derived.WalkSpells
import Derived.WalkLawsBesides
import Derived.Lib.Hide
namespace Go.Proofs.YtlemkphajmnbdaaDoor
open Go.ChangeShapes Go.WideShapes Go.ChangeAt Go.RowKit

theorem own : ownKnob Tryd.prog.godebug = none := by kernel_rfl
theorem laidOut : laidOutB Tryd.prog = true := by kernel_rfl

theorem bcell {B : Nat} {W w1 : World} (hb : Below B W w1) : (∀ b o, b < B → w1.cell? ⟨b, o, none⟩ = W.cell? ⟨b, o, none⟩) ∧ (∀ b o, b < B → w1.frozen? ⟨b, o, none⟩ = W.frozen? ⟨b, o, none⟩) :=
  ⟨fun b o h => hb.cell (p := ⟨b, o, none⟩) h, fun b o h => hb.frozen (p := ⟨b, o, none⟩) h⟩

/-- what a call of which Below is known leaves as it was -/
theorem bfacts {W w1 : World} (hb : Below W.heap.size W w1) : (∀ b o, b < W.heap.size → w1.cell? ⟨b, o, none⟩ = W.cell? ⟨b, o, none⟩) ∧ (∀ b o, b < W.heap.size → w1.frozen? ⟨b, o, none⟩ = W.frozen? ⟨b, o, none⟩) ∧
    (∀ x, x < W.heap.size → x < w1.heap.size) ∧ W.heap.size ≤ w1.heap.size :=
  ⟨fun b o h => hb.cell (p := ⟨b, o, none⟩) h, fun b o h => hb.frozen (p := ⟨b, o, none⟩) h, fun _ h => Nat.lt_of_lt_of_le h hb.size, hb.size⟩
@[simp, go_sem] theorem lt_two (n : Nat) : n < n + 1 + 1 := by omega
@[simp, go_sem] theorem lt_three (n : Nat) : n < n + 1 + 1 + 1 := by omega
@[simp, go_sem] theorem lt_four (n : Nat) : n < n + 1 + 1 + 1 + 1 := by omega
@[simp, go_sem] theorem lt_five (n : Nat) : n < n + 1 + 1 + 1 + 1 + 1 := by omega
@[simp, go_sem] theorem lt_six (n : Nat) : n < n + 1 + 1 + 1 + 1 + 1 + 1 := by omega
@[simp, go_sem] theorem lt_succ_of {a b : Nat} (h : a < b) : a < b + 1 := by omega
@[simp, go_sem] theorem lt_succ2_of {a b : Nat} (h : a < b) : a < b + 1 + 1 := by omega
@[simp, go_sem] theorem lt_succ3_of {a b : Nat} (h : a < b) : a < b + 1 + 1 + 1 := by omega
@[simp, go_sem] theorem lt_succ4_of {a b : Nat} (h : a < b) : a < b + 1 + 1 + 1 + 1 := by omega
theorem bat {B : Nat} {W w1 : World} (hb : Below B W w1) (k : Nat) (h : k < B) : (∀ o, w1.cell? ⟨k, o, none⟩ = W.cell? ⟨k, o, none⟩) ∧ (∀ o, w1.frozen? ⟨k, o, none⟩ = W.frozen? ⟨k, o, none⟩) :=
  ⟨fun o => hb.cell (p := ⟨k, o, none⟩) h, fun o => hb.frozen (p := ⟨k, o, none⟩) h⟩
@[simp] theorem size_drewN (w : World) (n : Nat) : (w.drewN n).heap.size = w.heap.size := rfl
theorem below_drewN {B : Nat} {a w : World} (h : Below B a w) (n : Nat) : Below B a (w.drewN n) := ⟨h.os, h.tape, h.output, h.size, h.block⟩

section
variable {H : Type} {enc : TypeId × Value → H} {P : Program}

theorem args_stay (hl : laidOutB P = true) {W W' : World} (hb : Below W.heap.size W W') :
    ∀ (ts : List TypeId) (vs : List Value) (ds : List (DataW H)) (ps : List MemPlace), (∀ t ∈ ts, P.readableRec t = true ∧ t < P.types.size) →
      DataW.TrodAll enc P W 0 (fun _ => true) true ts vs ds ps → (∀ x ∈ ps, x.block < W.heap.size) →
      DataW.TrodAll enc P W' 0 (fun b => decide (b < W.heap.size)) true ts vs ds ps
  | [], [], [], _, _, h, _ => h
  | t :: ts, v :: vs, d :: ds, ps, hts, h, hlt => by
    obtain ⟨p, q, h1, h2, rfl⟩ := h
    exact ⟨p, q, Below.trod hl (hts t (by simp)).1 (hts t (by simp)).2 h1 hb (fun x hx => hlt x (by simp [hx])),
      args_stay hl hb ts vs ds q (fun t' ht' => hts t' (by simp [ht'])) h2 (fun x hx => hlt x (by simp [hx])), rfl⟩
  | [], [], _ :: _, _, _, h, _ => h.elim
  | [], _ :: _, _, _, _, h, _ => h.elim
  | _ :: _, [], _, _, _, h, _ => h.elim
  | _ :: _, _ :: _, [], _, _, h, _ => h.elim

theorem law_post {f : Func} {s : ChangeSpec} {W W' : World} {args : Array Value} {ds gs : List (DataW H)} {before : List MemPlace} {tb : TypeId}
    (hl : laidOutB P = true) (hres : f.resultTypes = #[tb]) (hbt : P.underlying tb = some .bool)
    (hts : ∀ t ∈ f.params.toList, P.readableRec t = true ∧ t < P.types.size) (hs : s.vars = [])
    (hfn : s.fn H ds = { results := [.lit (.bool true)], args := ds })
    (hW : DataW.Whole enc P f.params.toList s.vars false W args.toList ds gs before) (hb : Below W.heap.size W W') :
    s.post enc P f false true false false W args (.bool true) W' := by
  have hlt := hW.lt
  obtain ⟨p, q, hA, hV, rfl, _, _⟩ := id hW
  rw [hs] at hV
  obtain ⟨rfl, rfl⟩ := trodVars_none hV
  refine ⟨ds, [], p ++ [], [], p, [], hW, ?_, ?_, ?_, hb.frame _, fun h => by cases h⟩
  · rw [List.append_nil, hfn, hres]
    exact trodAll_mk1 (shut_bool hbt true)
  · rw [List.append_nil, hfn]
    exact args_stay hl hb _ _ _ _ hts hA (fun x hx => hlt x (by simp [hx]))
  · rw [List.append_nil, hfn, hs]
    rfl

/-- a row of n cells of int64, one by one -/
theorem array6 {α : Type} {cs : Array α} (h : cs.size = 6) : ∃ c0 c1 c2 c3 c4 c5, cs = #[c0, c1, c2, c3, c4, c5] := by
  obtain ⟨l⟩ := cs
  match l, h with
  | [c0, c1, c2, c3, c4, c5], _ => exact ⟨c0, c1, c2, c3, c4, c5, rfl⟩

theorem okRow_ints {w : World} {r : Reach} {b0 : Nat} {te : TypeId} {v : Value} (hte : P.underlying te = some (.int .i64))
    (h : Value.okWide P w r b0 te v) : ∃ n, v = .int .i64 n := okWide_int hte h

/-- the cells of an array of whole numbers that reads as data are whole numbers within their kind -/
theorem trod_ints {w : World} {base : Nat} {spare : Nat → Bool} {held : Bool} {n : Nat} {ta te : TypeId} {fuel : Nat} {cs : List Value} {x : DataW H × List MemPlace}
    (hta : P.underlying ta = some (.array n te)) (hte : P.underlying te = some (.int .i64)) (hce : P.cellsOf te = 1)
    (h : DataW.trod enc P w base spare held fuel ta cs = some x) (hl : cs.length = n) :
    ∀ i (_ : i < n), ∃ a : Int, cs[i]? = some (.int .i64 a) ∧ (Lit.int .i64 a).wf = true := by
  obtain ⟨xs, m, rfl, rfl, _, hx, hf⟩ := DataW.trod_array hta h
  intro i hi
  have h1 := hf i hi
  rw [hce, Nat.mul_one] at h1
  have h2 : xs[i]? = some (xs[i]'(by omega)) := List.getElem?_eq_getElem (by omega)
  rw [h2] at h1
  obtain ⟨a, ha, _, hw⟩ := DataW.trod_int hte h1
  refine ⟨a, ?_, hw⟩
  have h3 : (List.take 1 (List.drop i cs))[0]? = some (.int .i64 a) := by rw [ha]; rfl
  simpa [List.getElem?_take, List.getElem?_drop] using h3

theorem get0 {α : Type} {l : List α} {a b : α} (h : (b :: l)[0]? = some a) : b = a := by simpa using h

/-- a sheet by value: six numbers -/
theorem open_sheet {w : World} {base : Nat} {spare : Nat → Bool} {held : Bool} {r : Reach} {b0 : Nat} {ts ta te : TypeId} {f0 : Field} {v : Value} {d : DataW H} {ps : List MemPlace}
    (hts : P.underlying ts = some (.struct #[f0])) (h0 : f0.type = ta) (hoff : f0.offset = 0) (hta : P.underlying ta = some (.array 6 te)) (hte : P.underlying te = some (.int .i64)) (hce : P.cellsOf te = 1)
    (hca : P.cellsOf ta = 6) (hcs : P.cellsOf ts = 6) (hv : Value.okWide P w r b0 ts v) (h : DataW.Trod enc P w base spare held ts v d ps) :
    ∃ a0 a1 a2 a3 a4 a5 : Int, v = .agg #[.int .i64 a0, .int .i64 a1, .int .i64 a2, .int .i64 a3, .int .i64 a4, .int .i64 a5] ∧
      ((Lit.int .i64 a0).wf = true ∧ (Lit.int .i64 a1).wf = true ∧ (Lit.int .i64 a2).wf = true ∧ (Lit.int .i64 a3).wf = true ∧ (Lit.int .i64 a4).wf = true ∧ (Lit.int .i64 a5).wf = true) := by
  obtain ⟨cs, rfl, hsz⟩ := okWide_struct hts hv
  obtain ⟨c0, c1, c2, c3, c4, c5, rfl⟩ := array6 (hsz.trans hcs)
  obtain ⟨fuel, hf⟩ := h
  obtain ⟨y0, n, _, _, h1⟩ := trod_struct1 hts hf
  rw [h0, hoff, hca] at h1
  have h2 := trod_ints hta hte hce h1 (by simp [Value.cells])
  obtain ⟨a0, e0, w0⟩ := h2 0 (by omega)
  obtain ⟨a1, e1, w1⟩ := h2 1 (by omega)
  obtain ⟨a2, e2, w2⟩ := h2 2 (by omega)
  obtain ⟨a3, e3, w3⟩ := h2 3 (by omega)
  obtain ⟨a4, e4, w4⟩ := h2 4 (by omega)
  obtain ⟨a5, e5, w5⟩ := h2 5 (by omega)
  simp [Value.cells] at e0 e1 e2 e3 e4 e5
  subst e0 e1 e2 e3 e4 e5
  exact ⟨a0, a1, a2, a3, a4, a5, rfl, w0, w1, w2, w3, w4, w5⟩
end
end Go.Proofs.YtlemkphajmnbdaaDoor
