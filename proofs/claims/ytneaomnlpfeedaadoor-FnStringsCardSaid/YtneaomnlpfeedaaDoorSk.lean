/-
  A checksum tells a changed byte. Plain mathematics, no program. No conditions.
-/
import Derived.Test.YtneaomnlpfeedaaDoorDwD
namespace Go.Proofs.YtneaomnlpfeedaaDoor.Pure

def sumL (h : Nat) (l : List UInt8) : Nat := l.foldl (fun h b => (41 * h + b.toNat + 1) % 999979) h
theorem sumL_lt (l : List UInt8) : ∀ h, h < 999979 → sumL h l < 999979 := by
  induction l with
  | nil => intro h hh; exact hh
  | cons b l ih => intro h _; exact ih _ (Nat.mod_lt _ (by omega))
theorem step_inj (h g c : Nat) (hh : h < 999979) (hg : g < 999979) (e : (41 * h + c + 1) % 999979 = (41 * g + c + 1) % 999979) : h = g := by omega
theorem step_byte (h : Nat) (x y : Nat) (hx : x < 256) (hy : y < 256) (e : (41 * h + x + 1) % 999979 = (41 * h + y + 1) % 999979) : x = y := by omega
theorem sumL_inj (l : List UInt8) : ∀ h g, h < 999979 → g < 999979 → sumL h l = sumL g l → h = g := by
  induction l with
  | nil => intro h g _ _ e; exact e
  | cons b l ih =>
    intro h g hh hg e
    exact step_inj h g b.toNat hh hg (ih _ _ (Nat.mod_lt _ (by omega)) (Nat.mod_lt _ (by omega)) e)
/-- one changed byte changes the checksum -/
theorem sum_changed (a b : List UInt8) (x y : UInt8) (h : Nat) (e : sumL h (a ++ x :: b) = sumL h (a ++ y :: b)) : x = y := by
  unfold sumL at e
  rw [List.foldl_append, List.foldl_append, List.foldl_cons, List.foldl_cons] at e
  have h1 := sumL_inj b _ _ (Nat.mod_lt _ (by omega)) (Nat.mod_lt _ (by omega)) e
  have h2 := step_byte _ x.toNat y.toNat x.toNat_lt y.toNat_lt h1
  exact UInt8.toNat_inj.1 h2
/-- what stands before the first 35 of a text -/
def cutL : List UInt8 → List UInt8
  | [] => []
  | c :: l => if c = 35 then [] else c :: cutL l
theorem cutL_clean : ∀ (a b : List UInt8), (∀ c, c ∈ a → c ≠ 35) → cutL (a ++ 35 :: b) = a
  | [], b, _ => by simp [cutL]
  | c :: a, b, h => by
    have hc := h c List.mem_cons_self
    show cutL (c :: (a ++ 35 :: b)) = c :: a
    unfold cutL
    rw [if_neg hc, cutL_clean a b fun d hd => h d (List.mem_cons_of_mem _ hd)]
theorem cutL_none : ∀ (a : List UInt8), (∀ c, c ∈ a → c ≠ 35) → cutL a = a
  | [], _ => rfl
  | c :: a, h => by
    unfold cutL
    rw [if_neg (h c List.mem_cons_self), cutL_none a fun d hd => h d (List.mem_cons_of_mem _ hd)]
/-- a sealed text of which one byte has been changed isn't sealed: its part before the first 35, sealed, is another text. D: the digits of a number -/
theorem seal_changed (D : Nat → List UInt8) (hD : ∀ n c, c ∈ D n → c ≠ 35) (hi : ∀ n m, n < 999979 → m < 999979 → D n = D m → n = m) (x : List UInt8) (hx : ∀ c, c ∈ x → c ≠ 35)
    (y : List UInt8) (hy : y = x ++ 35 :: D (sumL 7 x)) (k : Nat) (hk : k < y.length) (v : UInt8) (hv : v ≠ y[k]) :
    cutL (y.set k v) ++ 35 :: D (sumL 7 (cutL (y.set k v))) ≠ y.set k v := by
  intro e
  have hset : ∀ (l : List UInt8) (j : Nat) (hj : j < l.length), l.set j v = l.take j ++ v :: l.drop (j + 1) := fun l j hj => by rw [List.set_eq_take_append_cons_drop, if_pos hj]
  by_cases h1 : k < x.length
  · have es : y.set k v = x.set k v ++ 35 :: D (sumL 7 x) := by rw [hy, List.set_append_left _ _ h1]
    have hxk : v ≠ x[k] := by
      intro e2
      apply hv
      rw [e2]
      subst hy
      rw [List.getElem_append_left h1]
    have hxs : x = x.take k ++ x[k] :: x.drop (k + 1) := by simp
    have hsx := hset x k h1
    by_cases hv35 : v = 35
    · subst hv35
      have hc : cutL (y.set k 35) = x.take k := by
        rw [es, hsx, List.append_assoc, List.cons_append]
        exact cutL_clean _ _ fun c hc => hx c (List.mem_of_mem_take hc)
      rw [hc, es, hsx, List.append_assoc, List.cons_append] at e
      have e2 := List.append_cancel_left e
      injection e2 with _ e2
      have : (35 : UInt8) ∈ D (sumL 7 (x.take k)) := by rw [e2]; exact List.mem_append_right _ List.mem_cons_self
      exact hD _ _ this rfl
    · have hcl : ∀ c, c ∈ x.set k v → c ≠ 35 := fun c hc => by
        rw [hsx] at hc
        rcases List.mem_append.1 hc with hc | hc
        · exact hx c (List.mem_of_mem_take hc)
        · rcases List.mem_cons.1 hc with rfl | hc
          · exact hv35
          · exact hx c (List.mem_of_mem_drop hc)
      have hc : cutL (y.set k v) = x.set k v := by rw [es]; exact cutL_clean _ _ hcl
      rw [hc, es] at e
      have e2 := List.append_cancel_left e
      injection e2 with _ e2
      have e3 := hi _ _ (sumL_lt _ _ (by omega)) (sumL_lt _ _ (by omega)) e2
      rw [hsx] at e3
      have e4 : sumL 7 (x.take k ++ v :: x.drop (k + 1)) = sumL 7 (x.take k ++ x[k] :: x.drop (k + 1)) := by rw [e3, ← hxs]
      exact hxk (sum_changed _ _ _ _ _ e4)
  · by_cases h2 : k = x.length
    · subst h2
      have hyk : y[x.length] = 35 := by subst hy; simp
      have es : y.set x.length v = x ++ v :: D (sumL 7 x) := by rw [hy, List.set_append_right _ _ (Nat.le_refl _), Nat.sub_self]; rfl
      have hcl : ∀ c, c ∈ x ++ v :: D (sumL 7 x) → c ≠ 35 := fun c hc => by
        rcases List.mem_append.1 hc with hc | hc
        · exact hx c hc
        · rcases List.mem_cons.1 hc with rfl | hc
          · rw [hyk] at hv; exact hv
          · exact hD _ _ hc
      rw [es, cutL_none _ hcl] at e
      have := congrArg List.length e
      simp at this
    · have es : y.set k v = x ++ 35 :: (D (sumL 7 x)).set (k - x.length - 1) v := by
        rw [hy, List.set_append_right _ _ (by omega)]
        obtain ⟨j, hj⟩ : ∃ j, k - x.length = j + 1 := ⟨k - x.length - 1, by omega⟩
        rw [hj, List.set_cons_succ, Nat.add_sub_cancel]
      have hc : cutL (y.set k v) = x := by rw [es]; exact cutL_clean _ _ hx
      rw [hc, ← hy] at e
      apply hv
      have := congrArg (fun l => l[k]?) e
      simp only [List.getElem?_set_self hk] at this
      rw [List.getElem?_eq_getElem hk] at this
      injection this with this
      exact this.symm
end Go.Proofs.YtneaomnlpfeedaaDoor.Pure
