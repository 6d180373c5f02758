/-
  The statement FnTogglesCardSaid is proved: for every code the law returns true and its argument reads afterwards as before. Under: the library's own table of the lowest bits lies as its initialiser lays it (the card ties it by the text).
-/
import Derived.Test.YtgjgefbcfcomcaaDoorXf
import Derived.SevenTiedAt
import Derived.ChangeOld
import Derived.Below
import Derived.SizedLaws
import Derived.WalkKit
import Derived.Test.YtgjgefbcfcomcaaDoorTie
import Derived.Test.YtgjgefbcfcomcaaDoorCards
import Derived.Test.YtgjgefbcfcomcaaDoorDp
namespace Go.Proofs.YtgjgefbcfcomcaaDoor.fnToggles
open Go.ChangeShapes Go.WideShapes Go.ChangeAt Go.WideMaps Go.WideElems Go.RowKit
set_option linter.unusedVariables false

theorem laidOut : laidOutB Tryd.prog = true := by kernel_rfl
set_option maxRecDepth 100000 in
theorem code_of {w : World} {base : Nat} {x : Addr} {len cap : Nat} {zs : List Int} (hok : Value.okWide Tryd.prog w .any base 50 (.slice (some x) len cap)) (hl : len ≤ zs.length)
    (hcell : ∀ i, i < zs.length → w.cell? (x.add i) = some (.int .u8 (zs.getD i 0))) (hwf : ∀ n ∈ zs, (Lit.int .u8 n).wf = true) : CodeB w w.heap.size (.slice (some x) len cap) len := by
  simp only [Value.okWide, Tryd.underlying50, Cell.okWide] at hok
  right
  have h : len ≤ cap ∧ (cap : Int) ≤ IntKind.i64.max ∧ w.has Tryd.prog .any base x 5 cap := by
    simpa only [Cell.ok, Tryd.underlying50] using hok
  obtain ⟨_, _, _, hsp, row, cells, hsh, _⟩ := h
  obtain ⟨g, o, s⟩ := x
  simp only at hsp hsh
  subst hsp
  refine ⟨g, o, cap, rfl, ?_, fun j hj => ?_⟩
  · by_cases hg : g < w.heap.size
    · exact hg
    · exfalso
      unfold World.shape? at hsh
      rw [Array.getElem?_eq_none (by omega)] at hsh
      simp at hsh
  · have hj' : j < zs.length := by omega
    refine ⟨zs.getD j 0, ?_, ?_⟩
    · have := hcell j hj'
      have e1 : (⟨g, o, none⟩ : Addr).add j = ⟨g, o + j, none⟩ := by
        unfold Addr.add
        split <;> simp_all
      rwa [e1] at this
    · have hm : zs.getD j 0 ∈ zs := by rw [List.getD_eq_getElem?_getD, List.getElem?_eq_getElem hj']; exact List.getElem_mem hj'
      have := hwf _ hm
      simpa [Lit.wf, IntKind.has, IntKind.min, IntKind.max, IntKind.signed, IntKind.bits] using this
set_option maxRecDepth 100000 in
theorem lifted (os : Os) (started : os.Started) (H : Type) (enc : TypeId × Value → H) :
    ReturnsInHanded {} Tryd.checked os 12 .any (fun w args => (Rows.fnTogglesSpec.pre enc Tryd.prog Tryd.f12 [] false w args ∧ laidMetH Tryd.prog laid1 w) ∧ sizedMet enc Tryd.prog Tryd.f12 (OpenSpec.ofChange Rows.fnTogglesSpec) false w args)
      (Rows.fnTogglesSpec.post enc Tryd.prog Tryd.f12 false true false false) := by
  refine returnsInHanded_of_change_and (C := Tryd.checked) (X := fun w _ => laidMetH Tryd.prog laid1 w) (fun _ _ _ hh h => h.of_heap hh) own started (by kernel_rfl) Tryd.func12
    (ChangeSpec.witness_shaped (enc := enc) (C := Tryd.checked) (os := os) (X := fun w _ => laidMetH Tryd.prog laid1 w) false (World.doorLaid Tryd.prog 4000 os) #[.slice none 0 0] 8 rfl (World.shaped_of_RefB (by kernel_rfl) (by kernel_rfl)) (by kernel_rfl) (by kernel_rfl) (by kernel_rfl) (door_met os _)) ?_
  intro W base args ds gs before hval0 hW _ _ hL _
  have hval : ∀ (j : Nat) t v, Tryd.f12.params[j]? = some t → args[j]? = some v → Value.okWide Tryd.prog W .any base t v := hval0
  have hW' := hW
  obtain ⟨p, q, hA0, hV, rfl, hfz, hnd⟩ := hW
  have hA : DataW.TrodAll enc Tryd.prog W 0 (fun _ => true) true Tryd.f12.params.toList args.toList ds p := hA0
  rw [Tryd.params12] at hA hval
  obtain ⟨v0, d0, rfl, rfl, h0⟩ := trodAll_one hA
  obtain ⟨rfl, rfl⟩ := trodVars_none hV
  have hok0 := hval 0 50 v0 rfl rfl
  obtain ⟨a0, len0, cap0, rfl⟩ := okWide_slice Tryd.underlying50 hok0
  have k0 := h0
  have lt0 : ∀ x ∈ p, x.block < W.heap.size := by obtain ⟨m, hm⟩ := k0; exact DataW.trod_lt m _ _ _ hm
  have hcode : CodeB W W.heap.size (.slice a0 len0 cap0) len0 := by
    obtain ⟨fuel, hf⟩ := h0
    rcases open_ints Tryd.underlying50 Tryd.underlying5 (by kernel_rfl) hf with ⟨hcs, _⟩ | ⟨x, l, c, zs, hcs, _, hl, hm, hz, _, hcell, hwz⟩
    · simp [Value.cells] at hcs
      obtain ⟨rfl, rfl, rfl⟩ := hcs
      exact .inl ⟨rfl, rfl⟩
    · simp [Value.cells] at hcs
      obtain ⟨rfl, rfl, rfl⟩ := hcs
      exact code_of (zs := zs) hok0 (by simp at hz; omega) hcell hwz
  have htab := of_laid hL
  clear hA0 hval0
  refine (lawFnToggles (.slice a0 len0 cap0) len0 W hcode htab).mono fun e W' ⟨he, bel⟩ => ?_
  subst he
  exact ⟨_, rfl, _, _, _, [], _, [], hW', trodAll_mk1 (shut_bool Tryd.underlying4 _), trodAll_mk1 (Below.trod laidOut (by kernel_rfl) (of_decide_eq_true (by kernel_rfl)) k0 bel lt0), rfl, bel.frame _, fun h => by cases h⟩
theorem holds : Rows.FnTogglesSaid :=
  OpenClaim.holds_of_wide 12 Tryd.f12 rfl rfl rfl rfl rfl rfl rfl ⟨rfl, rfl, rfl, rfl, rfl⟩ rfl rfl rfl rfl rfl (by kernel_rfl) Tryd.func12 (by kernel_rfl)
    (of_decide_eq_true (by kernel_rfl)) (by unfold Func.isWrapper; first | (rw [if_pos (by decide +kernel)]; kernel_rfl) | (rw [if_neg (by decide +kernel)]; exact ⟨rfl, rfl⟩))
    (fun os started H enc _ => lifted os started H enc)
theorem proved : Rows.FnTogglesCardSaid :=
  Claim7.holds_tied_plain_at .later [] [.data] true (true, "70bc670d0d1819f45370af4dd8885af1765ec3753b72952b93e9665f42aef15a") false
    holds (fun _ h => by cases h) (by kernel_rfl) (fun _ h => by cases h) fnToggles_row_tie rfl ⟨rfl, rfl⟩ (by kernel_rfl) rfl
    (fun f fn hf hfn => by
      obtain rfl : f = 12 := Option.some.inj ((show Tryd.prog.funcNamed "loop.example/g01220/laws.FnToggles" = some 12 by kernel_rfl).symm.trans hf) |>.symm
      obtain rfl : fn = Tryd.f12 := (Option.some.inj (Tryd.func12.symm.trans hfn)).symm
      exact ⟨by kernel_rfl, fun j t ht => by
        rw [Tryd.params12] at ht
        have hm : t ∈ [50] := by simpa using Array.mem_of_getElem? ht
        have hall : ([50].all fun u => !Tryd.prog.wantsStandIn u) = true := by kernel_rfl
        exact (show Tryd.prog.wantsStandIn t = false by simpa using List.all_eq_true.1 hall t hm)⟩)
    (by kernel_rfl)
#print axioms proved
end Go.Proofs.YtgjgefbcfcomcaaDoor.fnToggles
