/-
  Plain facts on first forms and on the motions that keep a sheet: these are a group, their number divides 288. No conditions.
-/
import Derived.Test.YtidaoalnngmoaaaYa
import Derived.Test.YtidaoalnngmoaaaJF
namespace Go.Proofs.Ytidaoalnngmoaaa
set_option linter.unusedVariables false

/-- the motion m behind the motion k, the motion back, by their numbers -/
def mulI (k m : Nat) : Nat := 36 * tbN (k / 36) (m / 36) + 6 * mbX (k % 36 / 6) (k % 6) (m / 36) (m % 36 / 6) + mbY (k % 36 / 6) (k % 6) (m / 36) (m % 6)
def bkI (k : Nat) : Nat := 36 * bkN (k / 36) + 6 * mkX (k / 36) (k % 36 / 6) (k % 6) + mkY (k / 36) (k % 36 / 6) (k % 6)
theorem mulI_at (k m : Nat) : mulI k m / 36 = tbN (k / 36) (m / 36) ∧ mulI k m % 36 / 6 = mbX (k % 36 / 6) (k % 6) (m / 36) (m % 36 / 6) ∧ mulI k m % 6 = mbY (k % 36 / 6) (k % 6) (m / 36) (m % 6) := by
  have h1 := mbX_lt (k % 36 / 6) (k % 6) (m / 36) (m % 36 / 6)
  have h2 := mbY_lt (k % 36 / 6) (k % 6) (m / 36) (m % 6)
  unfold mulI
  generalize mbX (k % 36 / 6) (k % 6) (m / 36) (m % 36 / 6) = x at *
  generalize mbY (k % 36 / 6) (k % 6) (m / 36) (m % 6) = y at *
  generalize tbN (k / 36) (m / 36) = t at *
  omega
theorem bkI_at (k : Nat) : bkI k / 36 = bkN (k / 36) ∧ bkI k % 36 / 6 = mkX (k / 36) (k % 36 / 6) (k % 6) ∧ bkI k % 6 = mkY (k / 36) (k % 36 / 6) (k % 6) := by
  have h1 := mkX_lt (k / 36) (k % 36 / 6) (k % 6)
  have h2 := mkY_lt (k / 36) (k % 36 / 6) (k % 6)
  unfold bkI
  generalize mkX (k / 36) (k % 36 / 6) (k % 6) = x at *
  generalize mkY (k / 36) (k % 36 / 6) (k % 6) = y at *
  generalize bkN (k / 36) = t at *
  omega
theorem mulI_lt (k m : Nat) : mulI k m < 288 := by
  have h := (mulI_at k m).1
  have := tbN_lt (k / 36) (m / 36)
  omega
theorem bkI_lt (k : Nat) (hk : k < 288) : bkI k < 288 := by
  have h := (bkI_at k).1
  have := bkN_lt (k / 36) (by omega)
  omega
theorem mvN_mul (X k m : Nat) (hk : k < 288) (hm : m < 288) : mvN (mvN X k) m = mvN X (mulI k m) := by
  obtain ⟨h1, h2, h3⟩ := mulI_at k m
  unfold mvN
  rw [h1, h2, h3]
  exact move_move _ _ _ _ _ _ X (by omega) (by omega) (by omega) (by omega) (by omega) (by omega)
theorem mvN_back (X k : Nat) (hX : Vs X) (hk : k < 288) : mvN (mvN X k) (bkI k) = X := by
  obtain ⟨h1, h2, h3⟩ := bkI_at k
  show moveS (bkI k / 36) (bkI k % 36 / 6) (bkI k % 6) (moveS (k / 36) (k % 36 / 6) (k % 6) X) = X
  rw [h1, h2, h3]
  exact move_back _ _ _ X hX (by omega) (by omega) (by omega)
theorem tb_inj : ∀ g, g < 8 → ∀ k, k < 8 → ∀ m, m < 8 → tbN k g = tbN m g → k = m := by decide +kernel
theorem vT_inj : ∀ t, t < 8 → ∀ c, c < 36 → ∀ d, d < 36 → vT t (((c / 6 : Nat) : Int), ((c % 6 : Nat) : Int)) = vT t (((d / 6 : Nat) : Int), ((d % 6 : Nat) : Int)) → c = d := by decide +kernel
theorem len_split (p : Nat → Bool) : ∀ L : List Nat, L.length = (L.filter p).length + (L.filter fun m => !p m).length
  | [] => rfl
  | a :: L => by
      have ih := len_split p L
      rw [List.filter_cons, List.filter_cons]
      cases p a
      · simp; omega
      · simp; omega
theorem mulI_inj (k m g : Nat) (hk : k < 288) (hm : m < 288) (hg : g < 288) (h : mulI k g = mulI m g) : k = m := by
  obtain ⟨a1, a2, a3⟩ := mulI_at k g
  obtain ⟨b1, b2, b3⟩ := mulI_at m g
  rw [h] at a1 a2 a3
  have c1 := tb_inj (g / 36) (by omega) (k / 36) (by omega) (m / 36) (by omega) (a1.symm.trans b1)
  have c2 := a2.symm.trans b2
  have c3 := a3.symm.trans b3
  have d1 := vT_bd ((k % 36 / 6 : Nat) : Int) ((k % 6 : Nat) : Int) (by omega) (by omega) (g / 36)
  have d2 := vT_bd ((m % 36 / 6 : Nat) : Int) ((m % 6 : Nat) : Int) (by omega) (by omega) (g / 36)
  have e := vT_inj (g / 36) (by omega) (k % 36) (by omega) (m % 36) (by omega)
  rw [show k % 36 % 6 = k % 6 by omega, show m % 36 % 6 = m % 6 by omega] at e
  unfold mbX at c2
  unfold mbY at c3
  generalize vT (g / 36) (((k % 36 / 6 : Nat) : Int), ((k % 6 : Nat) : Int)) = u at *
  generalize vT (g / 36) (((m % 36 / 6 : Nat) : Int), ((m % 6 : Nat) : Int)) = v at *
  have f := e (Prod.ext (by omega) (by omega))
  omega
/-- the numbers of the motions that lead X to Y -/
def fib (X Y : Nat) : List Nat := (List.range 288).filter fun k => decide (mvN X k = Y)
theorem kpN_fil (X : Nat) : ∀ n, kpN X n = (List.range n).filter fun k => decide (mvN X k = X)
  | 0 => rfl
  | n + 1 => by
      rw [List.range_succ, List.filter_append, ← kpN_fil X n, kpN]
      by_cases h : mvN X n = X
      · simp [h]
      · simp [h]
theorem kpL_fib (X : Nat) : kpL X = fib X X := kpN_fil X 288
theorem mem_fib (X Y k : Nat) : k ∈ fib X Y ↔ k < 288 ∧ mvN X k = Y := by simp [fib]
theorem mem_kpL (X k : Nat) : k ∈ kpL X ↔ k < 288 ∧ mvN X k = X := by rw [kpL_fib, mem_fib]
theorem fib_nodup (X Y : Nat) : (fib X Y).Nodup := List.Nodup.sublist List.filter_sublist List.nodup_range
theorem map_nodup (L : List Nat) (f : Nat → Nat) (hL : L.Nodup) (hf : ∀ a ∈ L, ∀ b ∈ L, f a = f b → a = b) : (L.map f).Nodup := by
  induction L with
  | nil => simp
  | cons a L ih =>
    rw [List.map_cons, List.nodup_cons]
    rw [List.nodup_cons] at hL
    refine ⟨fun h => ?_, ih hL.2 (fun x hx y hy => hf x (List.mem_cons_of_mem _ hx) y (List.mem_cons_of_mem _ hy))⟩
    obtain ⟨b, hb, he⟩ := List.mem_map.1 h
    have := hf b (List.mem_cons_of_mem _ hb) a List.mem_cons_self he
    subst this
    exact hL.1 hb
theorem le_of_inj (L M : List Nat) (f : Nat → Nat) (hL : L.Nodup) (hf : ∀ a ∈ L, ∀ b ∈ L, f a = f b → a = b) (hm : ∀ a ∈ L, f a ∈ M) : L.length ≤ M.length := by
  have h := (map_nodup L f hL hf).length_le_of_subset (l₂ := M) (fun x hx => by
    obtain ⟨a, ha, rfl⟩ := List.mem_map.1 hx
    exact hm a ha)
  rwa [List.length_map] at h
theorem fib_len (X g : Nat) (hX : Vs X) (hg : g < 288) : (fib X (mvN X g)).length = (kpL X).length := by
  rw [kpL_fib]
  apply Nat.le_antisymm
  · refine le_of_inj _ _ (fun m => mulI m (bkI g)) (fib_nodup _ _) (fun a ha b hb h => ?_) (fun a ha => ?_)
    · exact mulI_inj a b _ ((mem_fib _ _ _).1 ha).1 ((mem_fib _ _ _).1 hb).1 (bkI_lt g hg) h
    · obtain ⟨h1, h2⟩ := (mem_fib _ _ _).1 ha
      refine (mem_fib _ _ _).2 ⟨mulI_lt _ _, ?_⟩
      rw [← mvN_mul X a (bkI g) h1 (bkI_lt g hg), h2, mvN_back X g hX hg]
  · refine le_of_inj _ _ (fun m => mulI m g) (fib_nodup _ _) (fun a ha b hb h => ?_) (fun a ha => ?_)
    · exact mulI_inj a b _ ((mem_fib _ _ _).1 ha).1 ((mem_fib _ _ _).1 hb).1 hg h
    · obtain ⟨h1, h2⟩ := (mem_fib _ _ _).1 ha
      refine (mem_fib _ _ _).2 ⟨mulI_lt _ _, ?_⟩
      rw [← mvN_mul X a g h1 hg, h2]
theorem part (f : Nat → Nat) (d : Nat) : ∀ (n : Nat) (L : List Nat), L.length = n → (∀ g ∈ L, (L.filter fun m => decide (f m = f g)).length = d) → d ∣ n := by
  intro n
  induction n using Nat.strongRecOn with
  | _ n ih =>
    intro L hL h
    match L, hL with
    | [], hL => subst hL; exact Nat.dvd_zero d
    | g :: M, hL =>
      have h0 := h g List.mem_cons_self
      have hs : (g :: M).length = ((g :: M).filter fun m => decide (f m = f g)).length + ((g :: M).filter fun m => !decide (f m = f g)).length := len_split _ _
      have h1 : 1 ≤ ((g :: M).filter fun m => decide (f m = f g)).length := by simp
      have hd : d ∣ ((g :: M).filter fun m => !decide (f m = f g)).length := by
        refine ih _ (by omega) _ rfl (fun k hk => ?_)
        obtain ⟨hk1, hk2⟩ := List.mem_filter.1 hk
        rw [← h k hk1, List.filter_filter]
        congr 1
        apply List.filter_congr
        intro m _
        by_cases e : f m = f k
        · have e2 : ¬ f m = f g := by rw [e]; simpa using hk2
          rw [e] at e2
          simp [e, e2]
        · simp [e]
      rw [h0] at hs
      rw [← hL, hs]
      exact Nat.dvd_add (Nat.dvd_refl d) hd
theorem kp_dvd (X : Nat) (hX : Vs X) : (kpL X).length ∣ 288 := by
  refine part (mvN X) _ 288 (List.range 288) List.length_range (fun g hg => ?_)
  exact fib_len X g hX (List.mem_range.1 hg)
theorem kp_mul (X : Nat) (hX : Vs X) : 288 / (kpL X).length * (kpL X).length = 288 := Nat.div_mul_cancel (kp_dvd X hX)
theorem ffS_mv (X n : Nat) (hX : Vs X) (hn : n < 288) : ffS (mvN X n) = ffS X := by
  apply rkN_inj _ _ (ffS_vs _) (ffS_vs _)
  refine amN_same (fun i => rkN (mvN (mvN X n) i)) (fun i => rkN (mvN X i)) 288 (by omega) (fun i => mulI (bkI n) i) (fun i => mulI n i) ?_ ?_
  · intro i hi
    refine ⟨mulI_lt _ _, ?_⟩
    show rkN (mvN (mvN X n) (mulI (bkI n) i)) = rkN (mvN X i)
    rw [← mvN_mul (mvN X n) (bkI n) i (bkI_lt n hn) hi, mvN_back X n hX hn]
  · intro i hi
    refine ⟨mulI_lt _ _, ?_⟩
    show rkN (mvN X (mulI n i)) = rkN (mvN (mvN X n) i)
    rw [mvN_mul X n i hn hi]
theorem ffS_again (X : Nat) (hX : Vs X) : ffS (ffS X) = ffS X := ffS_mv X (ffA X) hX (ffA_lt X)
theorem place_form (X : Nat) (hX : Vs X) : rkN (ffS X) ≤ rkN (plS X) := by
  have h := mvN_block X 0 (plA X) (plA_lt X)
  rw [turnS_zero X hX, show 36 * 0 + plA X = plA X by omega] at h
  have h2 := amN_le (fun i => rkN (mvN X i)) 288 (plA X) (by have := plA_lt X; omega)
  have h3 : rkN (mvN X (plA X)) = rkN (plS X) := by rw [h]; rfl
  show rkN (mvN X (ffA X)) ≤ rkN (plS X)
  rw [← h3]
  exact h2
theorem kp_mul_mem (X a b : Nat) (ha : a ∈ kpL X) (hb : b ∈ kpL X) : mulI a b ∈ kpL X := by
  obtain ⟨a1, a2⟩ := (mem_kpL X a).1 ha
  obtain ⟨b1, b2⟩ := (mem_kpL X b).1 hb
  refine (mem_kpL X _).2 ⟨mulI_lt _ _, ?_⟩
  rw [← mvN_mul X a b a1 b1, a2, b2]
theorem kp_bk_mem (X a : Nat) (hX : Vs X) (ha : a ∈ kpL X) : bkI a ∈ kpL X := by
  obtain ⟨a1, a2⟩ := (mem_kpL X a).1 ha
  refine (mem_kpL X _).2 ⟨bkI_lt a a1, ?_⟩
  have h := mvN_back X a hX a1
  rwa [a2] at h
theorem kp_zero_mem (X : Nat) (hX : Vs X) : 0 ∈ kpL X := (mem_kpL X 0).2 ⟨by omega, mvN_zero X hX⟩
end Go.Proofs.Ytidaoalnngmoaaa
