/-
  The program's reading of a text, first part: its rows, cut at the slashes, and plain facts on them. No conditions.
-/
import Derived.Test.YtlemkphajmnbdaaDoorPt
import Derived.Test.YtlemkphajmnbdaaDoorPw
import Derived.Test.YtlemkphajmnbdaaDoorCa
namespace Go.Proofs.YtlemkphajmnbdaaDoor
open Go.RowKit
set_option linter.unusedSimpArgs false
set_option linter.unusedVariables false

theorem cut_count : ∀ l : List UInt8, (cutS l).length ≤ l.length + 1
  | [] => by simp [cutS]
  | b :: l => by
      have h := cut_count l
      have hn := List.length_pos_iff.2 (cutS_ne l)
      unfold cutS
      split
      · simpa using h
      · simp only [List.length_cons, List.length_tail]
        omega
theorem cut_small : ∀ (l : List UInt8), ∀ r ∈ cutS l, r.length ≤ l.length
  | [] => fun r hr => by
      rw [List.mem_singleton.1 (show r ∈ [[]] from hr)]
      simp
  | b :: l => fun r hr => by
      have h := cut_small l
      have hn := cutS_ne l
      unfold cutS at hr
      split at hr
      · rcases List.mem_cons.1 hr with rfl | hr
        · simp
        · have := h r hr
          rw [List.length_cons]
          omega
      · generalize cutS l = c at *
        cases c with
        | nil => exact absurd rfl hn
        | cons a t =>
          rcases List.mem_cons.1 hr with rfl | hr
          · have := h a List.mem_cons_self
            simp only [List.headD_cons, List.length_cons]
            omega
          · have := h r (List.mem_cons_of_mem _ hr)
            rw [List.length_cons]
            omega
/-- the rows of a text and what strings.Split leaves -/
theorem split_any (s : ByteArray) (hs : s.size ≤ 1048576) : ∃ zs : List ByteArray, zs.map (·.data.toList) = cutS s.data.toList ∧ zs.length ≤ 1048577 ∧ (∀ r ∈ zs, r.size ≤ 1048576) ∧
    ∀ (m : Int) (w : World), w.cell? ⟨0, 0, none⟩ = some (.int .i64 m) → Calls Tryd.prog 8 #[.string s, .string ⟨#[47]⟩] w fun e w' => e = .returned (.slice (some ⟨w.heap.size, 0, none⟩) zs.length zs.length) ∧ w' = w.alloc (.cells (zs.map Value.string).toArray 9) := by
  have hc := splitB_cut s
  have hl : (Lib.splitB ⟨#[47]⟩ 0 (Lib.countB s ⟨#[47]⟩) s).length = Lib.countB s ⟨#[47]⟩ + 1 := Lib.splitB_all ⟨#[47]⟩ (by decide) 0 _ s rfl
  refine ⟨_, hc, ?_, ?_, fun m w hm => ?_⟩
  · have h1 := cut_count s.data.toList
    rw [← hc, List.length_map, size_list] at h1
    omega
  · intro r hr
    have h1 := cut_small s.data.toList r.data.toList (by rw [← hc]; exact List.mem_map_of_mem hr)
    rw [size_list, size_list] at h1
    omega
  · rw [hl]
    exact Tryd.strings_Split s ⟨#[47]⟩ m w (by omega) hm (by decide)
/-- what a row of strings holds in memory -/
theorem cells_strings (zs : List ByteArray) (T : Nat) (w : World) (j : Nat) (r : ByteArray) (h : zs[j]? = some r) : (w.alloc (.cells (zs.map Value.string).toArray T)).cell? ⟨w.heap.size, j, none⟩ = some (.string r) := by
  rw [World.cell?_alloc_at _ _ _ _ (by simp)]
  simp [h]
theorem any_bad (zs : List ByteArray) : zs.any badR = false ↔ ∀ r ∈ zs.map (·.data.toList), RowOk r := by
  rw [List.any_eq_false]
  simp only [List.mem_map, forall_exists_index, and_imp, forall_apply_eq_imp_iff₂, Bool.not_eq_true, badR_no]
theorem rows_of (s : ByteArray) (zs : List ByteArray) (hz : zs.map (·.data.toList) = cutS s.data.toList) (h : Rows6 5 s.data.toList) (y : Nat) (hy : y < 6) :
    ∃ r, zs[y]? = some r ∧ r.size = 6 ∧ ∀ x, x < 6 → r.data.toList[x]? = s.data.toList[7 * y + x]? := by
  obtain ⟨h1, h2⟩ := (cut_rows 5 _).2 h
  have hl : zs.length = 6 := by rw [← List.length_map (f := fun r : ByteArray => r.data.toList), hz, h1]
  obtain ⟨r, hr⟩ : ∃ r, zs[y]? = some r := ⟨_, List.getElem?_eq_getElem (by omega)⟩
  have hm : (cutS s.data.toList)[y]? = some r.data.toList := by rw [← hz, List.getElem?_map, hr]; rfl
  have hok := h2 r.data.toList (List.mem_of_getElem? hm)
  refine ⟨r, hr, by rw [← size_list]; exact hok.1, fun x hx => ?_⟩
  obtain ⟨q, h3, h4⟩ := row_at 5 _ h y (by omega) x hx
  rw [hm] at h3
  injection h3 with h3
  rw [h3]
  exact h4
theorem ps_close (l : List UInt8) (n e : Nat) (h : n % 7 < 6) (h2 : l[n]? = some 35) (hn : n < 41) (he : e = 6 * (n / 7) + n % 7) :
    bits .or .u64 ((psN l n : Nat) : Int) (IntKind.u64.wrap (2 ^ e)) = ((psN l (n + 1) : Nat) : Int) := by
  subst he
  have h1 : psN l n < 2 ^ 36 := psN_vs l n (by omega)
  have h5 : 2 ^ (6 * (n / 7) + n % 7) < 2 ^ 36 := Nat.pow_lt_pow_right (by omega) (by omega)
  have h3 := or_u64 (psN l n) (2 ^ (6 * (n / 7) + n % 7)) (by omega) (by omega)
  have h4 : IntKind.u64.wrap (2 ^ (6 * (n / 7) + n % 7)) = ((2 ^ (6 * (n / 7) + n % 7) : Nat) : Int) := by
    rw [show (2 : Int) ^ (6 * (n / 7) + n % 7) = ((2 ^ (6 * (n / 7) + n % 7) : Nat) : Int) from by simp]
    simp only [IntKind.wrap, IntKind.bits, IntKind.signed]
    simp only [Bool.false_and, Bool.false_eq_true, if_false]
    generalize 2 ^ (6 * (n / 7) + n % 7) = z at h5
    exact Int.emod_eq_of_lt (by omega) (by omega)
  rw [psN, if_pos ⟨h, h2⟩, ← h3, h4]
/-- a row's end tells nothing -/
theorem ps_row (l : List UInt8) (y : Nat) : psN l (7 * y + 6) = psN l (7 * (y + 1)) := by
  have h : psN l ((7 * y + 6) + 1) = psN l (7 * y + 6) := by
    rw [psN.eq_2, if_neg (fun h => by omega)]
  rw [show 7 * (y + 1) = (7 * y + 6) + 1 by omega, h]
theorem ps_42 (l : List UInt8) : psN l (7 * 6) = psN l 41 := by
  rw [show 7 * 6 = 41 + 1 from rfl, psN, if_neg (fun h => by omega)]
end Go.Proofs.YtlemkphajmnbdaaDoor
