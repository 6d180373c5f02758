/-
  The statement FnExactQuietStampsCardSaid is proved: for every input the law returns true and its arguments read afterwards as before. Under: the library's own table of the lowest bits lies as its initialiser lays it (the card ties it by the text).
-/
import Derived.Test.YtgjgefbcfcomcaaDoorLQuietStamps
import Derived.SevenTiedAt
import Derived.ChangeOld
import Derived.Below
import Derived.SizedLaws
import Derived.Test.YtgjgefbcfcomcaaDoorTie
import Derived.Test.YtgjgefbcfcomcaaDoorCards
import Derived.Test.YtgjgefbcfcomcaaDoorDp
namespace Go.Proofs.YtgjgefbcfcomcaaDoor.fnExactQuietStamps
open Go.ChangeShapes Go.WideShapes Go.ChangeAt Go.WideMaps Go.WideElems Go.RowKit
open Go.ChangeMaps (open_string shut_string)
set_option linter.unusedVariables false
theorem open_sheets {H : Type} {enc : TypeId × Value → H} {P : Program} {w : World} {base : Nat} {spare : Nat → Bool} {held : Bool} {t ts ta te : TypeId} {f0 : Field} {fuel : Nat} {cs : List Value} {x : DataW H × List MemPlace}
    (ht : P.underlying t = some (.slice ts)) (hts : P.underlying ts = some (.struct #[f0])) (h0 : f0.type = ta) (hoff : f0.offset = 0) (hta : P.underlying ta = some (.array 6 te)) (hte : P.underlying te = some (.int .i64)) (hce : P.cellsOf te = 1)
    (hca : P.cellsOf ta = 6) (hcs : P.cellsOf ts = 6) (h : DataW.trod enc P w base spare held fuel t cs = some x) :
    (cs = [.slice none 0 0]) ∨ ∃ (a : Addr) (len cap : Nat) (Z : List Int), cs = [.slice (some a) len cap] ∧ len ≤ cap ∧ cap ≤ maxLen ∧ ∀ j, j < len * 6 → w.cell? (a.add j) = some (.int .i64 (Z.getD j 0)) := by
  rcases DataW.trod_slice ht h with ⟨h1, _⟩ | ⟨a, len, cap, elems, rest, n, _, rfl, _, hb, hl, hm, hlen, hel, _, _⟩
  · exact .inl h1
  · have each : ∀ j, ∃ z : Int, j < len * 6 → w.cell? (a.add j) = some (.int .i64 z) := by
      intro j
      by_cases hj : j < len * 6
      · have he := hel (j / 6) (by omega)
        rw [List.getElem?_eq_getElem (by omega), hcs, Option.bind_eq_some_iff] at he
        obtain ⟨cs', hc', hy⟩ := he
        obtain ⟨y0, n', _, hlc, h1⟩ := trod_struct1 hts hy
        rw [h0, hoff, hca] at h1
        obtain ⟨_, hlen6, hcell⟩ := World.cells?_some hc'
        have e6 : (cs'.drop 0).take 6 = cs' := by rw [List.drop_zero, List.take_of_length_le (by omega)]
        rw [e6] at h1
        have h2 := trod_ints hta hte hce h1 (by omega)
        obtain ⟨z, ez, _⟩ := h2 (j % 6) (by omega)
        refine ⟨z, fun _ => ?_⟩
        have h3 := hcell (j % 6) (by omega)
        rw [Addr.add_add, show j / 6 * 6 + j % 6 = j by omega] at h3
        rw [h3]
        exact ez
      · exact ⟨0, fun h => absurd h hj⟩
    refine .inr ⟨a, len, cap, (List.range (len * 6)).map (fun j => (each j).choose), rfl, hl, hm, fun j hj => ?_⟩
    rw [(each j).choose_spec hj, List.getD_eq_getElem?_getD, List.getElem?_map, List.getElem?_range hj]
    rfl
theorem readsA_of {w : World} {a : Addr} {len : Nat} {Z : List Int} (h : ∀ j, j < len * 6 → w.cell? (a.add j) = some (.int .i64 (Z.getD j 0))) : ReadsA w (some a) len Z := fun hn => by
  obtain ⟨g, o, s⟩ := a
  have h0 := h 0 (by omega)
  have e0 : (⟨g, o, s⟩ : Addr).add 0 = ⟨g, o, s⟩ := by simp [Addr.add]
  rw [e0] at h0
  cases s with
  | some s =>
    exfalso
    unfold World.cell? at h0
    split at h0 <;> simp at h0
  | none =>
    refine ⟨g, o, rfl, World.block_lt_of_cell? w _ h0, fun j hj => ?_⟩
    have := h j hj
    have e1 : (⟨g, o, none⟩ : Addr).add j = ⟨g, o + j, none⟩ := by
      unfold Addr.add
      split <;> simp_all
    rwa [e1] at this
set_option maxRecDepth 100000 in
theorem lifted (os : Os) (started : os.Started) (H : Type) (enc : TypeId × Value → H) :
    ReturnsInHanded {} Tryd.checked os 7 .any (fun w args => (Rows.fnExactQuietStampsSpec.pre enc Tryd.prog Tryd.f7 [] false w args ∧ laidMetH Tryd.prog laid1 w) ∧ sizedMet enc Tryd.prog Tryd.f7 (OpenSpec.ofChange Rows.fnExactQuietStampsSpec) false w args)
      (Rows.fnExactQuietStampsSpec.post enc Tryd.prog Tryd.f7 false true false false) := by
  refine returnsInHanded_of_change_and (C := Tryd.checked) (X := fun w _ => laidMetH Tryd.prog laid1 w) (fun _ _ _ hh h => h.of_heap hh) own started (by kernel_rfl) Tryd.func7
    (ChangeSpec.witness_shaped (enc := enc) (C := Tryd.checked) (os := os) (X := fun w _ => laidMetH Tryd.prog laid1 w) false (World.doorLaid Tryd.prog 4000 os) #[.slice none 0 0] 8 rfl (World.shaped_of_RefB (by kernel_rfl) (by kernel_rfl)) (by kernel_rfl) (by kernel_rfl) (by kernel_rfl) (door_met os _)) ?_
  intro W base args ds gs before hval0 hW _ _ hL _
  have hval : ∀ (j : Nat) t v, Tryd.f7.params[j]? = some t → args[j]? = some v → Value.okWide Tryd.prog W .any base t v := hval0
  have hW' := hW
  obtain ⟨p, q, hA0, hV, rfl, hfz, hnd⟩ := hW
  have hA : DataW.TrodAll enc Tryd.prog W 0 (fun _ => true) true Tryd.f7.params.toList args.toList ds p := hA0
  rw [Tryd.params7] at hA hval
  obtain ⟨v0, vs0, d0, ds0, p0, q0, hargs, rfl, rfl, h0, r0⟩ := trodAll_cons hA
  obtain ⟨rfl, rfl, rfl⟩ := trodAll_nil r0
  obtain rfl : args = #[v0] := by cases args; simp_all
  obtain ⟨rfl, rfl⟩ := trodVars_none hV
  obtain ⟨a0, len0, cap0, rfl⟩ := okWide_slice Tryd.underlying34 (hval 0 34 v0 rfl rfl)
  have k0 := h0
  have lt0 : ∀ x ∈ p0, x.block < W.heap.size := by obtain ⟨m, hm⟩ := k0; exact DataW.trod_lt m _ _ _ hm
  obtain ⟨Z, hlen, hrd⟩ : ∃ Z : List Int, len0 ≤ maxLen ∧ ReadsA W a0 len0 Z := by
    obtain ⟨fuel, hf⟩ := h0
    rcases open_sheets Tryd.underlying34 Tryd.underlying24 rfl rfl Tryd.underlying22 Tryd.underlying3 (by kernel_rfl) (by kernel_rfl) (by kernel_rfl) hf with hcs | ⟨x, l, c, Z, hcs, hl, hm, hcell⟩
    · simp [Value.cells] at hcs
      obtain ⟨rfl, rfl, rfl⟩ := hcs
      exact ⟨[], Nat.zero_le _, fun h => absurd h (Nat.lt_irrefl 0)⟩
    · simp [Value.cells] at hcs
      obtain ⟨rfl, rfl, rfl⟩ := hcs
      exact ⟨Z, Nat.le_trans hl hm, readsA_of hcell⟩
  have htab := of_laid hL
  clear hA0 hval0
  refine (lawQuietStamps a0 len0 cap0 Z hlen W hrd htab).mono fun e W' ⟨he, bel⟩ => ?_
  subst he
  exact ⟨_, rfl, _, _, _, [], _, [], hW', trodAll_mk1 (shut_bool Tryd.underlying4 _), (trodAll_cons_mk (Below.trod laidOut (by kernel_rfl) (of_decide_eq_true (by kernel_rfl)) k0 bel lt0) trodAll_mk0), rfl, bel.frame _, fun h => by cases h⟩
theorem holds : Rows.FnExactQuietStampsSaid :=
  OpenClaim.holds_of_wide 7 Tryd.f7 rfl rfl rfl rfl rfl rfl rfl ⟨rfl, rfl, rfl, rfl, rfl⟩ rfl rfl rfl rfl rfl (by kernel_rfl) Tryd.func7 (by kernel_rfl)
    (of_decide_eq_true (by kernel_rfl)) (by unfold Func.isWrapper; first | (rw [if_pos (by decide +kernel)]; kernel_rfl) | (rw [if_neg (by decide +kernel)]; exact ⟨rfl, rfl⟩))
    (fun os started H enc _ => lifted os started H enc)
theorem proved : Rows.FnExactQuietStampsCardSaid :=
  Claim7.holds_tied_plain_at .later [] [.data] true (true, "70bc670d0d1819f45370af4dd8885af1765ec3753b72952b93e9665f42aef15a") false
    holds (fun _ h => by cases h) (by kernel_rfl) (fun _ h => by cases h) fnExactQuietStamps_row_tie rfl ⟨rfl, rfl⟩ (by kernel_rfl) rfl
    (fun f fn hf hfn => by
      obtain rfl : f = 7 := Option.some.inj ((show Tryd.prog.funcNamed "loop.example/g01220/laws.FnExactQuietStamps" = some 7 by kernel_rfl).symm.trans hf) |>.symm
      obtain rfl : fn = Tryd.f7 := (Option.some.inj (Tryd.func7.symm.trans hfn)).symm
      exact ⟨by kernel_rfl, fun j t ht => by
        rw [Tryd.params7] at ht
        have hm : t ∈ [34] := by simpa using Array.mem_of_getElem? ht
        have hall : ([34].all fun u => !Tryd.prog.wantsStandIn u) = true := by kernel_rfl
        exact (show Tryd.prog.wantsStandIn t = false by simpa using List.all_eq_true.1 hall t hm)⟩)
    (by kernel_rfl)
#print axioms proved
end Go.Proofs.YtgjgefbcfcomcaaDoor.fnExactQuietStamps
