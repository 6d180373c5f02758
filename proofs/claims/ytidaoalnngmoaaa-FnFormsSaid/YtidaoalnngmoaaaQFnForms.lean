/-
  What the row of FnForms asks: for every code the law returns true and its argument reads afterwards as before. No conditions.
-/
import Derived.Test.YtidaoalnngmoaaaYh
import Derived.ProofKit
import Derived.OpenShut
import Derived.ChangeOld
import Derived.Below
import Derived.SizedLaws
import Derived.WalkKit
namespace Go.Proofs.Ytidaoalnngmoaaa.fnForms
open Go.ChangeShapes Go.WideShapes Go.ChangeAt Go.RowKit
open Go.ChangeMaps (open_string shut_string)
set_option linter.unusedVariables false

theorem owned : ownKnob Try.prog.godebug = none := by kernel_rfl
theorem laidWhole : laidOutB Try.prog = true := by kernel_rfl
set_option maxRecDepth 100000 in
theorem code_of {w : World} {base : Nat} {x : Addr} {len cap : Nat} {zs : List Int} (hok : Value.okWide Try.prog w .any base 63 (.slice (some x) len cap)) (hl : len ≤ zs.length)
    (hcell : ∀ i, i < zs.length → w.cell? (x.add i) = some (.int .u8 (zs.getD i 0))) (hwf : ∀ n ∈ zs, (Lit.int .u8 n).wf = true) : CodeB w w.heap.size (.slice (some x) len cap) len := by
  simp only [Value.okWide, Try.underlying63, Cell.okWide] at hok
  right
  have h : len ≤ cap ∧ (cap : Int) ≤ IntKind.i64.max ∧ w.has Try.prog .any base x 5 cap := by
    simpa only [Cell.ok, Try.underlying63] using hok
  obtain ⟨_, _, _, hsp, row, cells, hsh, _⟩ := h
  obtain ⟨g, o, s⟩ := x
  simp only at hsp hsh
  subst hsp
  refine ⟨g, o, cap, rfl, ?_, fun j hj => ?_⟩
  · by_cases hg : g < w.heap.size
    · exact hg
    · exfalso
      unfold World.shape? at hsh
      rw [Array.getElem?_eq_none (by omega)] at hsh
      simp at hsh
  · have hj' : j < zs.length := by omega
    refine ⟨zs.getD j 0, ?_, ?_⟩
    · have := hcell j hj'
      have e1 : (⟨g, o, none⟩ : Addr).add j = ⟨g, o + j, none⟩ := by
        unfold Addr.add
        split <;> simp_all
      rwa [e1] at this
    · have hm : zs.getD j 0 ∈ zs := by rw [List.getD_eq_getElem?_getD, List.getElem?_eq_getElem hj']; exact List.getElem_mem hj'
      have := hwf _ hm
      simpa [Lit.wf, IntKind.has, IntKind.min, IntKind.max, IntKind.signed, IntKind.bits] using this
set_option maxRecDepth 100000 in
theorem cap_of {w : World} {base : Nat} {x : Addr} {len cap : Nat} (hok : Value.okWide Try.prog w .any base 63 (.slice (some x) len cap)) : len ≤ cap := by
  simp only [Value.okWide, Try.underlying63, Cell.okWide] at hok
  have h : len ≤ cap ∧ (cap : Int) ≤ IntKind.i64.max ∧ w.has Try.prog .any base x 5 cap := by
    simpa only [Cell.ok, Try.underlying63] using hok
  exact h.1
set_option maxRecDepth 100000 in
theorem lifted (os : Os) (started : os.Started) (H : Type) (enc : TypeId × Value → H) :
    ReturnsInHanded {} Try.checked os 17 .any (Rows.fnFormsSpec.pre6 enc Try.prog Try.f17 Rows.fnFormsRow.domain false) (Rows.fnFormsSpec.post enc Try.prog Try.f17 false true false false) := by
  refine returnsInHanded_of_change (C := Try.checked) owned started (by kernel_rfl) Try.func17
    (ChangeSpec.witness6 (enc := enc) (C := Try.checked) false ⟨#[], #[.slice none 0 0], []⟩ 8 (by kernel_rfl) (by kernel_rfl) (by kernel_rfl) (by kernel_rfl)) ?_
  intro W base args ds gs before hval0 hW hcnd _
  have hval : ∀ (j : Nat) t v, Try.f17.params[j]? = some t → args[j]? = some v → Value.okWide Try.prog W .any base t v := hval0
  have hW' := hW
  obtain ⟨p, q, hA0, hV, rfl, hfz, hnd⟩ := hW
  have hA : DataW.TrodAll enc Try.prog W 0 (fun _ => true) true Try.f17.params.toList args.toList ds p := hA0
  rw [Try.params17] at hA hval
  obtain ⟨v0, d0, rfl, rfl, h0⟩ := trodAll_one hA
  obtain ⟨rfl, rfl⟩ := trodVars_none hV
  have hok0 := hval 0 63 v0 rfl rfl
  obtain ⟨a0, len0, cap0, rfl⟩ := okWide_slice Try.underlying63 hok0
  have k0 := h0
  have lt0 : ∀ x ∈ p, x.block < W.heap.size := by obtain ⟨m, hm⟩ := k0; exact DataW.trod_lt m _ _ _ hm
  have hcode : CodeB W W.heap.size (.slice a0 len0 cap0) len0 ∧ len0 ≤ cap0 := by
    obtain ⟨fuel, hf⟩ := h0
    rcases open_ints Try.underlying63 Try.underlying5 (by kernel_rfl) hf with ⟨hcs, _⟩ | ⟨x, l, c, zs, hcs, _, hl, hm, hz, _, hcell, hwz⟩
    · simp [Value.cells] at hcs
      obtain ⟨rfl, rfl, rfl⟩ := hcs
      exact ⟨.inl ⟨rfl, rfl⟩, Nat.le_refl _⟩
    · simp [Value.cells] at hcs
      obtain ⟨rfl, rfl, rfl⟩ := hcs
      exact ⟨code_of (zs := zs) hok0 (by simp at hz; omega) hcell hwz, cap_of hok0⟩
  clear hA0 hval0
  refine (lawFnForms (.slice a0 len0 cap0) len0 W hcode.1 (fun a m c h => by injection h with h1 h2 h3; subst h2 h3; exact hcode.2)).mono fun e W' ⟨he, bel⟩ => ?_
  subst he
  exact ⟨_, rfl, _, _, _, [], _, [], hW', trodAll_mk1 (shut_bool Try.underlying4 _), trodAll_mk1 (Below.trod laidWhole (by kernel_rfl) (of_decide_eq_true (by kernel_rfl)) k0 bel lt0), rfl, bel.frame _, fun h => by cases h⟩
end Go.Proofs.Ytidaoalnngmoaaa.fnForms
