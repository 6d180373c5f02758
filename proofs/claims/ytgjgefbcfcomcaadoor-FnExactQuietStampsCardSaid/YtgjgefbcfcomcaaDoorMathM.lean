/-
  Prints as a linear map: single presses are a basis, prints are associative, and the order of an undoable stamp divides six. Plain mathematics, no program. No conditions.
-/
import Derived.Test.YtgjgefbcfcomcaaDoorMathL
namespace Go.Proofs.YtgjgefbcfcomcaaDoor

theorem print_lin (X : Nat) : Lin (printS X) := fun a b => by
  refine eq_of_cells (printS_vs _ _) ((printS_vs _ _).xor (printS_vs _ _)) fun j hj => ?_
  rw [Nat.testBit_xor, print_bit X _ j hj, print_bit X a j hj, print_bit X b j hj, ← xf_xor]
  refine xf_congr _ _ 36 fun c _ => ?_
  rw [Nat.testBit_xor]
  cases a.testBit c <;> cases b.testBit c <;> cases X.testBit (sbN j c) <;> rfl
/-- the first single presses -/
def sgl (n : Nat) : List Nat := (List.range n).map (2 ^ ·)
theorem sgl_succ (n : Nat) : sgl (n + 1) = sgl n ++ [2 ^ n] := by unfold sgl; rw [List.range_succ, List.map_append]; rfl
theorem sgl_len (n : Nat) : (sgl n).length = n := by unfold sgl; simp
theorem pow_bit (i j : Nat) : (2 ^ i).testBit j = decide (i = j) := Nat.testBit_two_pow
theorem sgl_tri : ∀ n, Tri ((List.range n).map fun i => (2 ^ i, i))
  | 0 => trivial
  | n + 1 => by
    rw [List.range_succ, List.map_append]
    refine tri_app _ _ (sgl_tri n) (by show (2 ^ n).testBit n = true; rw [pow_bit]; simp) fun s hs => ?_
    obtain ⟨i, hi, rfl⟩ := List.mem_map.1 hs
    have := List.mem_range.1 hi
    show (2 ^ n).testBit i = false
    rw [pow_bit, decide_eq_false (by omega)]
theorem sgl_ind (n : Nat) : Ind (sgl n) := by
  have := tri_ind _ (sgl_tri n)
  rw [List.map_map] at this
  exact this
theorem sp_lt (n : Nat) : ∀ (l : List Nat) (x : Nat), (∀ v, v ∈ l → v < 2 ^ n) → Sp l x → x < 2 ^ n
  | [], x, _, hx => by
    have e : x = 0 := hx
    rw [e]
    exact Nat.two_pow_pos n
  | v :: l, x, h, hx => by
    rcases hx with hx | hx
    · exact sp_lt n l x (fun u hu => h u (List.mem_cons_of_mem _ hu)) hx
    · have := Nat.xor_lt_two_pow (sp_lt n l _ (fun u hu => h u (List.mem_cons_of_mem _ hu)) hx) (h v List.mem_cons_self)
      rw [xx] at this
      exact this
theorem sp_sgl : ∀ (n x : Nat), Sp (sgl n) x ↔ x < 2 ^ n
  | 0, x => by show x = 0 ↔ x < 1; omega
  | n + 1, x => by
    constructor
    · refine sp_lt (n + 1) _ x fun v hv => ?_
      obtain ⟨i, hi, rfl⟩ := List.mem_map.1 hv
      exact Nat.pow_lt_pow_right (by omega) (List.mem_range.1 hi)
    · intro hx
      rw [sgl_succ]
      by_cases hb : x.testBit n = true
      · refine (sp_app _ _ _).2 ⟨x ^^^ 2 ^ n, 2 ^ n, (sp_sgl n _).2 (lt_of_bits _ _ fun j hj => ?_), .inr (by rw [Nat.xor_self]; rfl), by rw [xx]⟩
        rw [Nat.testBit_xor, pow_bit]
        by_cases e : n = j
        · subst e
          rw [hb]; simp
        · rw [Nat.testBit_lt_two_pow (Nat.lt_of_lt_of_le hx (Nat.pow_le_pow_right (by omega) (by omega))), decide_eq_false e]; rfl
      · refine sp_left ((sp_sgl n x).2 (lt_of_bits _ _ fun j hj => ?_))
        by_cases e : n = j
        · subst e
          exact Bool.eq_false_iff.2 hb
        · exact Nat.testBit_lt_two_pow (Nat.lt_of_lt_of_le hx (Nat.pow_le_pow_right (by omega) (by omega)))
theorem lin_ext {G H : Nat → Nat} (hG : Lin G) (hH : Lin H) : ∀ (l : List Nat) (x : Nat), (∀ v, v ∈ l → G v = H v) → Sp l x → G x = H x
  | [], x, _, hx => by
    have e : x = 0 := hx
    rw [e, hG.zero, hH.zero]
  | v :: l, x, h, hx => by
    rcases hx with hx | hx
    · exact lin_ext hG hH l x (fun u hu => h u (List.mem_cons_of_mem _ hu)) hx
    · have := lin_ext hG hH l _ (fun u hu => h u (List.mem_cons_of_mem _ hu)) hx
      rw [hG, hH, h v List.mem_cons_self] at this
      exact xor_cancel this
theorem lin_cells {G H : Nat → Nat} (hG : Lin G) (hH : Lin H) (h : ∀ c, c < 36 → G (2 ^ c) = H (2 ^ c)) (x : Nat) (hx : Vs x) : G x = H x :=
  lin_ext hG hH (sgl 36) x (fun v hv => by obtain ⟨i, hi, rfl⟩ := List.mem_map.1 hv; exact h i (List.mem_range.1 hi)) ((sp_sgl 36 x).2 hx)
/-- the cell a and b together -/
def adN (a b : Nat) : Nat := 6 * ((a / 6 + b / 6) % 6) + (a % 6 + b % 6) % 6
theorem ad_lt (a b : Nat) : adN a b < 36 := by unfold adN; omega
theorem ad_div (a b : Nat) : adN a b / 6 = (a / 6 + b / 6) % 6 := by unfold adN; omega
theorem ad_mod (a b : Nat) : adN a b % 6 = (a % 6 + b % 6) % 6 := by unfold adN; omega
theorem ad_assoc (a b c : Nat) : adN a (adN b c) = adN (adN a b) c := by
  have h1 := ad_div b c
  have h2 := ad_mod b c
  have h3 := ad_div a b
  have h4 := ad_mod a b
  unfold adN at *
  rw [h1, h2, h3, h4]
  omega
theorem print_cells : ∀ a, a < 36 → ∀ b, b < 36 → printS (2 ^ a) (2 ^ b) = 2 ^ adN a b := by decide +kernel
theorem print_assoc (X Y Z : Nat) (hX : Vs X) (hY : Vs Y) (hZ : Vs Z) : printS X (printS Y Z) = printS (printS X Y) Z := by
  have lL : ∀ Z, Lin fun X => printS X Z := fun Z a b => by
    show printS (a ^^^ b) Z = printS a Z ^^^ printS b Z
    rw [print_comm, print_lin, print_comm Z a, print_comm Z b]
  have c1 : ∀ a, a < 36 → ∀ b, b < 36 → ∀ c, c < 36 → printS (2 ^ a) (printS (2 ^ b) (2 ^ c)) = printS (printS (2 ^ a) (2 ^ b)) (2 ^ c) := by
    intro a ha b hb c hc
    rw [print_cells b hb c hc, print_cells a ha b hb, print_cells a ha _ (ad_lt _ _), print_cells _ (ad_lt _ _) c hc, ad_assoc]
  have c2 : ∀ a, a < 36 → ∀ b, b < 36 → printS (2 ^ a) (printS (2 ^ b) Z) = printS (printS (2 ^ a) (2 ^ b)) Z := by
    intro a ha b hb
    refine lin_cells (G := fun Z => printS (2 ^ a) (printS (2 ^ b) Z)) (H := fun Z => printS (printS (2 ^ a) (2 ^ b)) Z) (fun p q => ?_) (print_lin _) (fun c hc => c1 a ha b hb c hc) Z hZ
    show printS _ (printS _ (p ^^^ q)) = _
    rw [print_lin, print_lin]
  have c3 : ∀ a, a < 36 → printS (2 ^ a) (printS Y Z) = printS (printS (2 ^ a) Y) Z := by
    intro a ha
    refine lin_cells (G := fun Y => printS (2 ^ a) (printS Y Z)) (H := fun Y => printS (printS (2 ^ a) Y) Z) (fun p q => ?_) (fun p q => ?_) (fun b hb => c2 a ha b hb) Y hY
    · have := lL Z p q
      show printS _ (printS (p ^^^ q) Z) = _
      rw [show printS (p ^^^ q) Z = printS p Z ^^^ printS q Z from this, print_lin]
    · have := lL Z (printS (2 ^ a) p) (printS (2 ^ a) q)
      show printS (printS _ (p ^^^ q)) Z = _
      rw [print_lin]
      exact this
  refine lin_cells (G := fun X => printS X (printS Y Z)) (H := fun X => printS (printS X Y) Z) (lL _) (fun p q => ?_) c3 X hX
  have h1 : printS (p ^^^ q) Y = printS p Y ^^^ printS q Y := lL Y p q
  show printS (printS (p ^^^ q) Y) Z = _
  rw [h1]
  exact lL Z _ _
theorem sq_lin : Lin fun X => printS X X := fun a b => by
  show printS (a ^^^ b) (a ^^^ b) = printS a a ^^^ printS b b
  rw [print_lin, print_comm _ a, print_comm _ b, print_lin, print_lin, print_comm b a, ← Nat.xor_assoc, xx]
theorem ad8 : ∀ c, c < 36 → adN (adN (adN c c) (adN c c)) (adN (adN c c) (adN c c)) = adN c c := by decide +kernel
theorem sq_sq (X : Nat) (hX : Vs X) : printS (printS (printS X X) (printS X X)) (printS (printS X X) (printS X X)) |> fun Y => Y = printS X X := by
  show printS (printS (printS X X) (printS X X)) (printS (printS X X) (printS X X)) = printS X X
  refine lin_cells (G := fun X => printS (printS (printS X X) (printS X X)) (printS (printS X X) (printS X X))) (H := fun X => printS X X) (fun a b => ?_) sq_lin (fun c hc => ?_) X hX
  · have h1 : printS (a ^^^ b) (a ^^^ b) = printS a a ^^^ printS b b := sq_lin a b
    have h2 : ∀ p q, printS (p ^^^ q) (p ^^^ q) = printS p p ^^^ printS q q := fun p q => sq_lin p q
    show printS (printS (printS (a ^^^ b) (a ^^^ b)) (printS (a ^^^ b) (a ^^^ b))) (printS (printS (a ^^^ b) (a ^^^ b)) (printS (a ^^^ b) (a ^^^ b))) = _
    rw [h1, h2, h2]
  · show printS (printS (printS (2 ^ c) (2 ^ c)) (printS (2 ^ c) (2 ^ c))) (printS (printS (2 ^ c) (2 ^ c)) (printS (2 ^ c) (2 ^ c))) = printS (2 ^ c) (2 ^ c)
    rw [print_cells c hc c hc, print_cells _ (ad_lt _ _) _ (ad_lt _ _), print_cells _ (ad_lt _ _) _ (ad_lt _ _)]
    rw [ad8 c hc]
theorem vs_one : Vs 1 := by unfold Vs; omega
theorem print_one (X : Nat) (hX : Vs X) : printS 1 X = X := by
  refine lin_cells (G := fun X => printS 1 X) (H := fun X => X) (print_lin 1) (fun _ _ => rfl) (fun c hc => ?_) X hX
  have := print_cells 0 (by omega) c hc
  rw [show (2 : Nat) ^ 0 = 1 from rfl] at this
  show printS 1 (2 ^ c) = 2 ^ c
  rw [this]
  congr 1
  unfold adN
  omega
theorem pw_add (X : Nat) (hX : Vs X) (n : Nat) : ∀ m, pwN X (m + n) = printS (pwN X m) (pwN X n)
  | 0 => by rw [Nat.zero_add]; exact (print_one _ (pwN_vs X n)).symm
  | m + 1 => by
    rw [show m + 1 + n = m + n + 1 by omega]
    show printS X (pwN X (m + n)) = printS (printS X (pwN X m)) (pwN X n)
    rw [pw_add X hX n m, print_assoc X _ _ hX (pwN_vs _ _) (pwN_vs _ _)]
theorem pw_one (X : Nat) (hX : Vs X) : pwN X 1 = X := by
  show printS X 1 = X
  rw [print_comm, print_one X hX]
/-- the sixth power of a stamp without kernel is the unit -/
theorem pw_six (X : Nat) (hX : Vs X) (hk : ∀ y, Vs y → printS X y = 0 → y = 0) : pwN X 6 = 1 := by
  have h2 : pwN X 2 = printS X X := by have := pw_add X hX 1 1; rw [pw_one X hX] at this; exact this
  have h4 : pwN X 4 = printS (printS X X) (printS X X) := by have := pw_add X hX 2 2; rw [h2] at this; exact this
  have h8 : pwN X 8 = printS (printS (printS X X) (printS X X)) (printS (printS X X) (printS X X)) := by have := pw_add X hX 4 4; rw [h4] at this; exact this
  have e : pwN X 8 = pwN X 2 := by rw [h8, h2]; exact sq_sq X hX
  have inj : ∀ a b, Vs a → Vs b → printS X a = printS X b → a = b := fun a b ha hb h => by
    refine xor_eq0 (hk _ (ha.xor hb) ?_)
    rw [print_lin, h, Nat.xor_self]
  have e1 : pwN X 7 = pwN X 1 := inj _ _ (pwN_vs _ _) (pwN_vs _ _) e
  exact inj _ _ (pwN_vs _ _) vs_one e1
theorem pw_inv (X : Nat) (hX : Vs X) (n : Nat) (h : pwN X (n + 1) = 1) (y : Nat) (hy : Vs y) (h0 : printS X y = 0) : y = 0 := by
  have h1 : printS (pwN X (n + 1)) y = y := by rw [h]; exact print_one y hy
  rw [pw_add X hX 1 n, ← print_assoc _ _ _ (pwN_vs _ _) (pwN_vs _ _) hy, pw_one X hX, h0, print_comm] at h1
  rw [← h1, print_comm]
  exact (print_lin _).zero
end Go.Proofs.YtgjgefbcfcomcaaDoor
