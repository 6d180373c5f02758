/-
  FnStrings: the law answers true for every code. No conditions.
-/
import Derived.Test.YtneaomnlpfeedaaDoorSle
namespace Go.Proofs.YtneaomnlpfeedaaDoor.PFnStrings
open Go.RowKit Go.Proofs.YtneaomnlpfeedaaDoorW.PrintWords Go.Proofs.YtneaomnlpfeedaaDoorW.PrintLast Go.Proofs.YtneaomnlpfeedaaDoor.Pure
set_option linter.unusedVariables false
set_option linter.unusedSimpArgs false

theorem vAt_ok (l : List Int) (hl : Wf l) (hs : l.length ≤ 65536) (i : Int) (h0 : 0 ≤ i) (h1 : i ≤ 1000) : ∃ v, laws_vAt.f l i = some v ∧ 0 ≤ v ∧ v ≤ 255 := by
  have hr := rd_wf l hl i
  have hwr : wrap64 (rd l i) = rd l i := by unfold wrap64; omega
  have e1 : wrap64 (i * 7) = i * 7 := by unfold wrap64; omega
  have e2 : wrap64 (i * 7 + (l.length : Int)) = i * 7 + (l.length : Int) := by unfold wrap64; omega
  unfold laws_vAt.f
  split
  · try rw [if_pos h0]
    exact ⟨_, rfl, by first | (rw [hwr]; exact hr) | exact hr⟩
  · rw [e1, e2, Int.tmod_eq_emod_of_nonneg (by omega)]
    exact ⟨_, rfl, by omega, by omega⟩
theorem law_all (A0 : Option Addr) (c0 : Nat) (l0 : List Int) (w : World) (hr0 : Kd.C (Kd.int .u8) w A0 l0.length l0) (hc0 : l0.length ≤ c0) (hl : Wf l0) (hT : TabE w) :
    Calls Tryd.prog 7 #[.slice A0 l0.length c0] w fun e w' => e = .returned (.bool true) ∧ Below w.heap.size w w' := by
  have hB : laws_vBig.f l0 = some (decide ((l0.length : Int) > 65536)) := by
    unfold laws_vBig.f
    rfl
  by_cases hb : (l0.length : Int) > 65536
  · rw [decide_eq_true hb] at hB
    exact law_big A0 c0 l0 w hr0 hc0 hB
  rw [decide_eq_false hb] at hB
  obtain ⟨n, hN, n0, n1⟩ := drawF_ok l0 hl
  obtain ⟨⟨s, ok⟩, hG, hF, hok, hsz⟩ := both_fmt n n0 n1
  obtain ⟨t, hP, ht⟩ := drawP_ok l0 hl
  obtain ⟨hQ, hR⟩ := both_parse t (by omega)
  obtain ⟨x, hX, hx⟩ := drawA_ok l0 hl
  obtain ⟨y, sealed, hZ, hA, hno, hyes⟩ := sealed_ok x hx
  have hI := (both_parse s (by have : s.size ≤ 40 := hsz; omega)).2
  have hI2 : ok = true → (pfI s).2 = true ∧ (pfI s).1 = n := fun h => by
    obtain ⟨e, a, b⟩ := hok h
    have e' : s = ⟨(Lib.itoa n).toArray⟩ := e
    rw [e', parse_back n a b]
    exact ⟨rfl, rfl⟩
  cases sealed with
  | false =>
    have e := hno rfl
    subst e
    exact law_open A0 c0 l0 w hr0 hc0 hB hT n s ok t (pfI t).1 (pfI t).2 x (pfI s).1 (pfI s).2 hN hF hG hP hR hQ hX hA hZ hI hI2
  | true =>
    obtain ⟨hpos, hs, hO, hch⟩ := hyes rfl
    obtain ⟨i, hK, i0, i1⟩ := vAt_ok l0 hl (by omega) 9 (by omega) (by omega)
    obtain ⟨j, hL, j0, j1⟩ := vAt_ok l0 hl (by omega) 10 (by omega) (by omega)
    have hm : Int.tmod i ((y.size : Nat) : Int) = (((i % (y.size : Int)).toNat : Nat) : Int) := by
      rw [Int.tmod_eq_emod_of_nonneg i0]
      have := Int.emod_nonneg i (b := (y.size : Int)) (by omega)
      omega
    have hk : (i % (y.size : Int)).toNat < y.size := by
      have := Int.emod_lt_of_pos i (b := (y.size : Int)) (by omega)
      omega
    generalize (i % (y.size : Int)).toNat = k at hm hk
    have hg : Int.tmod j 255 = j % 255 := Int.tmod_eq_emod_of_nonneg j0
    have hlen : k < y.data.toList.length := by rw [len_data]; exact hk
    have hbk : y.data.toList.getD k 0 = y.data.toList[k] := by rw [List.getD_eq_getElem?_getD, List.getElem?_eq_getElem hlen]; rfl
    have h8 := (y.data.toList[k]).toNat_lt
    obtain ⟨v, hv, hne⟩ := xor_byte (y.data.toList[k]).toNat (1 + j % 255).toNat h8 (by omega) (by omega)
    have hv2 : bits .xor .u8 (((y.data.toList[k]).toNat : Nat) : Int) (1 + j % 255) = ((v.toNat : Nat) : Int) := by
      rw [← hv]
      congr 1
      omega
    obtain ⟨r, hC⟩ := hch k hlen v (fun h => hne (by rw [h]))
    cases ok with
    | true => exact law_sealed_t A0 c0 l0 w hr0 hc0 hB hT n s true t (pfI t).1 (pfI t).2 x (pfI s).1 (pfI s).2 hN hF hG hP hR hQ hX rfl y hA hZ hI hI2 hO i j hK hL k hk hm hs (j % 255) hg (by omega) (by omega) _ hbk v hv2 r hC
    | false => exact law_sealed_f A0 c0 l0 w hr0 hc0 hB hT n s false t (pfI t).1 (pfI t).2 x (pfI s).1 (pfI s).2 hN hF hG hP hR hQ hX rfl y hA hZ hI hI2 hO i j hK hL k hk hm hs (j % 255) hg (by omega) (by omega) _ hbk v hv2 r hC
end Go.Proofs.YtneaomnlpfeedaaDoor.PFnStrings
