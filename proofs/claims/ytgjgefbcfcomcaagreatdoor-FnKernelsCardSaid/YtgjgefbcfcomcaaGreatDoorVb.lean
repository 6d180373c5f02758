/-
  The program's numbers of sets: the lead, and a row of them sorted downward by the library's sort: contracts. No conditions.
-/
import Derived.Test.YtgjgefbcfcomcaaGreatDoorShelf
import Derived.Test.YtgjgefbcfcomcaaGreatDoorVa
import Derived.Test.YtgjgefbcfcomcaaGreatDoorJC
namespace Go.Proofs.YtgjgefbcfcomcaaGreatDoor
open Go.RowKit
set_option linter.unusedSimpArgs false
set_option linter.unusedVariables false

set_option maxRecDepth 100000 in
set_option maxHeartbeats 1000000 in
theorem lead_any (r : Nat) (hr : r < 68719476736) (h0 : r ≠ 0) (w : World) : Calls Tryz.prog 62 #[.int .u64 (r : Int)] w fun e w' => e = .returned (.int .u64 ((2 ^ tb r : Nat) : Int)) ∧ w = w' := by
  have hcon := Go.Proofs.Tryz.bits_Len64 (r : Int) w (by omega) (by omega)
  rw [Int.toNat_natCast] at hcon
  obtain ⟨h1, h2, h3⟩ := Lib.bitLenAux_bounds 64 r (by omega) h0
  have h4 : Lib.bitLen r = tb r + 1 := by unfold tb Lib.bitLen; omega
  obtain ⟨_, h5⟩ := rk_tb r hr h0
  rw [h4] at hcon
  generalize tb r = k at *
  have hp64 : (2 : Nat) ^ k < 18446744073709551616 := Nat.lt_of_lt_of_le (Nat.pow_lt_pow_right (by omega) h5) (by decide)
  have hpI : ((2 : Int) ^ k) = ((2 ^ k : Nat) : Int) := by simp
  have hw : IntKind.u64.wrap ((2 : Int) ^ k) = (2 : Int) ^ k := by rw [hpI]; exact wrap_u64n _ hp64
  have hk : ¬ ((k : Int) < 0) := by omega
  have hk36 : (k : Int) < 36 := by omega
  have hs : (((k + 1 : Nat) : Int) - 1) = (k : Int) := by omega
  have hC := Lib.hid hcon
  clear hcon h1 h2 h3 h4 hs hk
  have HPI := Lib.hid hpI
  clear hpI
  go_enter Tryz.func62, Tryz.ntmps62
  go_wp2_with (go_at_call 79; (with_reducible refine hC.out.mono ?_); rintro e w1 ⟨rfl, rfl⟩)
  go_ret
  exact ⟨by simp [hw], rfl⟩
def encR (n : Nat) : Value := .int .u64 (n : Int)
def cfR (x y : Nat) : Int := if y < x then -1 else 1
theorem ltR (x y : Nat) : Go.Proofs.ltOf cfR x y = decide (y < x) := by
  unfold Go.Proofs.ltOf cfR
  by_cases h : y < x
  · simp [h]
  · simp [h]
theorem swoR : Go.Sort.SWO (Go.Proofs.ltOf cfR) where
  irrefl x := by rw [ltR]; simp
  trans x y z h1 h2 := by rw [ltR] at *; simp at *; omega
  ntrans x y z h1 h2 := by rw [ltR] at *; simp at *; omega
theorem closureR (x y : Nat) (W : World) : Calls Tryz.prog 61 #[.int .u64 (x : Int), .int .u64 (y : Int)] W fun e w' => e = .returned (.int .i64 (cfR x y)) ∧ ∃ q, w' = W.drewN q := by
  by_cases h : y < x
  · have h' : (y : Int) < (x : Int) := by omega
    go_enter Tryz.func61, Tryz.ntmps61
    go_wp2
    go_ret
    exact ⟨by simp [cfR, h], 0, rfl⟩
  · have h' : ¬ (y : Int) < (x : Int) := by omega
    go_enter Tryz.func61, Tryz.ntmps61
    go_wp2
    go_ret
    exact ⟨by simp [cfR, h], 0, rfl⟩
/-- the numbers D in the block g from the place off on -/
def RowU (w : World) (g off : Nat) (D : List Nat) : Prop := ∀ j, j < D.length → w.cell? ⟨g, off + j, none⟩ = some (.int .u64 ((D.getD j 0 : Nat) : Int)) ∧ w.frozen? ⟨g, off + j, none⟩ = false
theorem rowU_holds (w : World) (g off : Nat) (D : List Nat) : RowU w g off D ↔ Go.Sort.Holds encR w g off D.toArray := by
  unfold RowU Go.Sort.Holds encR
  have e : ∀ j, j < D.length → D.toArray[j]! = D.getD j 0 := fun j hj => by
    rw [List.getD_eq_getElem?_getD, List.getElem?_eq_getElem hj]
    simp [hj]
  constructor
  · intro h j hj
    have hj' : j < D.length := by simpa using hj
    rw [e j hj']
    exact h j hj'
  · intro h j hj
    have := h j (by simpa using hj)
    rw [e j hj] at this
    exact this
def srt (D : List Nat) : List Nat := D.mergeSort (fun x y => decide (y ≤ x))
theorem srt_len (D : List Nat) : (srt D).length = D.length := List.length_mergeSort D
theorem srt_mem (D : List Nat) (x : Nat) : x ∈ srt D ↔ x ∈ D := List.mem_mergeSort
theorem srt_max (D : List Nat) (p : Nat) (C : List Nat) (h : srt D = p :: C) : ∀ c, c ∈ C → c ≤ p := by
  have hs := List.pairwise_mergeSort (le := fun x y : Nat => decide (y ≤ x)) (fun a b c h1 h2 => by simp at *; omega) (fun a b => by simp; omega) D
  rw [show D.mergeSort (fun x y => decide (y ≤ x)) = srt D from rfl, h] at hs
  intro c hc
  have := (List.pairwise_cons.1 hs).1 c hc
  simpa using this
theorem sort_any (g off cap : Nat) (D : List Nat) (w : World) (hH : RowU w g off D) (hg : g < w.heap.size) (hsz : D.length < 1000) :
    Calls Tryz.prog 60 #[.slice (some ⟨g, off, none⟩) D.length cap, .func (.func 61) #[] #[]] w
      fun e w' => e = .returned (.tuple #[]) ∧ RowU w' g off (srt D) ∧ (∀ j, j < off → w'.cell? ⟨g, j, none⟩ = w.cell? ⟨g, j, none⟩) ∧ (∀ j, w'.frozen? ⟨g, j, none⟩ = w.frozen? ⟨g, j, none⟩) ∧ Below g w w' := by
  have hH' := (rowU_holds w g off D).1 hH
  have eg : ∀ args w, (callFunc 61 args).run Tryz.prog w = .ok (.enter 61 args) w := enters_of Tryz.func61 (by kernel_rfl) rfl
  have hcmp : Go.Proofs.CmpReads Tryz.prog 61 #[] encR cfR g off D.toArray.size w := fun _ _ _ _ x y => closureR x y _
  have hcon := Go.Proofs.Any.slices_SortFunc_total Go.Proofs.Tryz.sortR encR (fun _ => rfl) cfR swoR 61 #[] g off cap D.toArray w eg hcmp.lays hH' hg (by simp; omega) (fun x y h1 h2 => by rw [ltR] at h1 h2; simp at h1 h2; omega)
  rw [show (fun x y => !(Go.Proofs.ltOf cfR) y x) = fun x y : Nat => decide (y ≤ x) by funext x y; rw [ltR]; by_cases h : x < y <;> simp [h] <;> omega] at hcon
  change Calls Tryz.prog 60 _ _ _ at hcon
  rw [show D.toArray.size = D.length by simp] at hcon
  refine hcon.mono ?_
  rintro e w' ⟨rfl, n, os, rfl⟩
  have e1 : D.toArray.toList = D := rfl
  rw [e1]
  have hs : (srt D).toArray.size = D.toArray.size := by simp [srt_len]
  have hgs : g < (Go.Sort.putRow encR (Go.Sort.ahead w n) g off (srt D).toArray).heap.size := by
    rw [Go.Proofs.size_putRow]; exact hg
  refine ⟨rfl, (rowU_holds _ g off (srt D)).2 (Go.Proofs.holds_sortWorld encR w g off n D.toArray (srt D).toArray os hg hH' hs), fun j hj => ?_, fun j => ?_, ?_⟩
  · show (Go.Sort.grow (Go.Sort.putRow encR (Go.Sort.ahead w n) g off (srt D).toArray) os).cell? ⟨g, j, none⟩ = _
    rw [Go.Sort.cell?_grow _ _ _ hgs, Go.Sort.cell?_putRow_other _ _ _ _ _ _ (.inr (.inl hj))]
    rfl
  · show (Go.Sort.grow (Go.Sort.putRow encR (Go.Sort.ahead w n) g off (srt D).toArray) os).frozen? ⟨g, j, none⟩ = _
    rw [Go.Sort.frozen?_grow _ _ _ hgs]
    exact Go.Sort.frozen?_mapBlock _ _ _ _
  · refine ⟨rfl, rfl, rfl, ?_, fun k hk => ?_⟩
    · show w.heap.size ≤ (Go.Sort.grow (Go.Sort.putRow encR (Go.Sort.ahead w n) g off (srt D).toArray) os).heap.size
      rw [Go.Sort.size_grow, Go.Proofs.size_putRow]
      show w.heap.size ≤ w.heap.size + _
      omega
    · show (Go.Sort.grow (Go.Sort.putRow encR (Go.Sort.ahead w n) g off (srt D).toArray) os).heap[k]? = _
      rw [Go.Sort.heap_grow_old _ _ (by rw [Go.Proofs.size_putRow]; show k < w.heap.size; omega)]
      show ((Go.Sort.ahead w n).heap.modify g _)[k]? = _
      rw [Array.getElem?_modify, if_neg (by omega)]
      rfl
end Go.Proofs.YtgjgefbcfcomcaaGreatDoor
