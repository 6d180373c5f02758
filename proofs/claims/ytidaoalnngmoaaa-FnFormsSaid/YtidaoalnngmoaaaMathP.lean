/-
  Plain facts on the number of black cells, and on the counting of bits in a word. No conditions.
-/
import Derived.Test.YtidaoalnngmoaaaMathC
namespace Go.Proofs.Ytidaoalnngmoaaa

theorem and_split (n a b c e : Nat) (ha : a < 2 ^ n) (hc : c < 2 ^ n) : (2 ^ n * b + a) &&& (2 ^ n * e + c) = 2 ^ n * (b &&& e) + (a &&& c) := by
  apply Nat.eq_of_testBit_eq
  intro i
  have h : a &&& c < 2 ^ n := Nat.and_lt_two_pow a hc
  rw [Nat.testBit_and, Nat.testBit_two_pow_mul_add _ ha, Nat.testBit_two_pow_mul_add _ hc, Nat.testBit_two_pow_mul_add _ h]
  split <;> simp [Nat.testBit_and]
/-- k fields of w ones, each with w zeros above -/
def mkM (w : Nat) : Nat → Nat
  | 0 => 0
  | k + 1 => 2 ^ (2 * w) * mkM w k + (2 ^ w - 1)
theorem and_step (w k X : Nat) : X &&& mkM w (k + 1) = 2 ^ (2 * w) * (X / 2 ^ (2 * w) &&& mkM w k) + X % 2 ^ w := by
  have e : X = 2 ^ (2 * w) * (X / 2 ^ (2 * w)) + X % 2 ^ (2 * w) := (Nat.div_add_mod X (2 ^ (2 * w))).symm
  have h1 : X % 2 ^ (2 * w) < 2 ^ (2 * w) := Nat.mod_lt _ (Nat.two_pow_pos _)
  have hp : 2 ^ w ≤ 2 ^ (2 * w) := Nat.pow_le_pow_right (by omega) (by omega)
  have hw := Nat.two_pow_pos w
  have h2 : 2 ^ w - 1 < 2 ^ (2 * w) := by omega
  have h3 := and_split (2 * w) (X % 2 ^ (2 * w)) (X / 2 ^ (2 * w)) (2 ^ w - 1) (mkM w k) h1 h2
  rw [← e] at h3
  rw [mkM, h3, Nat.and_two_pow_sub_one_eq_mod]
  congr 1
  exact Nat.mod_mod_of_dvd _ (Nat.pow_dvd_pow 2 (by omega))
/-- the sums of two fields side by side -/
def pairS (w : Nat) : Nat → Nat → Nat
  | 0, _ => 0
  | k + 1, X => 2 ^ (2 * w) * pairS w k (X / 2 ^ (2 * w)) + (X / 2 ^ w % 2 ^ w + X % 2 ^ w)
theorem pair_and (w : Nat) : ∀ k X, (X / 2 ^ w &&& mkM w k) + (X &&& mkM w k) = pairS w k X
  | 0, X => by simp [mkM, pairS]
  | k + 1, X => by
      rw [and_step, and_step, pairS, ← pair_and w k (X / 2 ^ (2 * w)), Nat.mul_add, Nat.div_div_eq_div_mul, Nat.div_div_eq_div_mul, Nat.mul_comm (2 ^ w)]
      omega
/-- the sum of k digits of w bits -/
def dsN (w : Nat) : Nat → Nat → Nat
  | 0, _ => 0
  | k + 1, X => X % 2 ^ w + dsN w k (X / 2 ^ w)
theorem pair_low (w X a : Nat) (hw : 0 < w) : (2 ^ (2 * w) * a + (X / 2 ^ w % 2 ^ w + X % 2 ^ w)) % 2 ^ (2 * w) = X / 2 ^ w % 2 ^ w + X % 2 ^ w ∧ (2 ^ (2 * w) * a + (X / 2 ^ w % 2 ^ w + X % 2 ^ w)) / 2 ^ (2 * w) = a := by
  have h0 := Nat.two_pow_pos w
  have h1 : X / 2 ^ w % 2 ^ w < 2 ^ w := Nat.mod_lt _ h0
  have h2 : X % 2 ^ w < 2 ^ w := Nat.mod_lt _ h0
  have h3 : 2 * 2 ^ w ≤ 2 ^ (2 * w) := by
    rw [show 2 * w = w + w by omega, Nat.pow_add]
    exact Nat.mul_le_mul_right _ (by have := Nat.pow_le_pow_right (n := 2) (by omega) (show 1 ≤ w from hw); simpa using this)
  have h4 := Nat.two_pow_pos (2 * w)
  have hr : X / 2 ^ w % 2 ^ w + X % 2 ^ w < 2 ^ (2 * w) := by omega
  generalize X / 2 ^ w % 2 ^ w + X % 2 ^ w = r at *
  refine ⟨?_, ?_⟩
  · rw [Nat.mul_add_mod, Nat.mod_eq_of_lt hr]
  · rw [Nat.mul_add_div h4, Nat.div_eq_of_lt hr]; rfl
theorem ds_pair (w : Nat) (hw : 0 < w) : ∀ k X, dsN (2 * w) k (pairS w k X) = dsN w (2 * k) X
  | 0, X => rfl
  | k + 1, X => by
      have h := pair_low w X (pairS w k (X / 2 ^ (2 * w))) hw
      rw [show 2 * (k + 1) = 2 * k + 1 + 1 by omega, pairS, dsN, dsN, dsN, h.1, h.2, ds_pair w hw k, Nat.div_div_eq_div_mul, show 2 * w = w + w by omega, Nat.pow_add]
      omega
/-- k digits are at most b -/
def DgN (w b : Nat) : Nat → Nat → Prop
  | 0, _ => True
  | k + 1, X => X % 2 ^ w ≤ b ∧ DgN w b k (X / 2 ^ w)
theorem dg_pair (w b w2 b2 : Nat) (hw : 0 < w) (hw2 : w2 = 2 * w) (hb2 : b2 = 2 * b) : ∀ k k2 X, k2 = 2 * k → DgN w b k2 X → DgN w2 b2 k (pairS w k X)
  | 0, _, X, _, _ => trivial
  | k + 1, k2, X, hk, h => by
      subst hw2 hb2 hk
      have h5 := pair_low w X (pairS w k (X / 2 ^ (2 * w))) hw
      rw [show 2 * (k + 1) = 2 * k + 1 + 1 by omega] at h
      obtain ⟨h1, h2, h3⟩ := h
      rw [Nat.div_div_eq_div_mul, show 2 ^ w * 2 ^ w = 2 ^ (2 * w) by rw [← Nat.pow_add]; congr 1; omega] at h3
      rw [pairS]
      refine ⟨?_, ?_⟩
      · rw [h5.1]; omega
      · rw [h5.2]; exact dg_pair w b _ _ hw rfl rfl k _ _ rfl h3
theorem dg_one : ∀ k X, DgN 1 1 k X
  | 0, _ => trivial
  | k + 1, X => ⟨by omega, dg_one k _⟩
theorem fold_and : ∀ k X, DgN 4 4 (2 * k) X → (X / 16 + X) &&& mkM 4 k = pairS 4 k X
  | 0, X, _ => by simp [mkM, pairS]
  | k + 1, X, h => by
      rw [show 2 * (k + 1) = 2 * k + 1 + 1 by omega] at h
      obtain ⟨h1, h2, h3⟩ := h
      rw [Nat.div_div_eq_div_mul] at h3
      simp only [Nat.reducePow, Nat.reduceMul] at h1 h2 h3
      rw [and_step, pairS]
      simp only [Nat.reducePow, Nat.reduceMul]
      have ih := fold_and k (X / 256) h3
      have e0 : (X / 16 + X) % 16 = X / 16 % 16 + X % 16 := by omega
      rw [e0]
      congr 2
      by_cases hk : k = 0
      · subst hk; simp [mkM, pairS]
      · obtain ⟨k, rfl⟩ : ∃ m, k = m + 1 := ⟨k - 1, by omega⟩
        rw [show 2 * (k + 1) = 2 * k + 1 + 1 by omega] at h3
        have h4 := h3.1
        simp only [Nat.reducePow] at h4
        rw [← ih]
        congr 1
        clear ih e0 h3
        have a1 : X / 16 = 16 * (X / 256) + X / 16 % 16 := by omega
        have a2 : X = 256 * (X / 256) + 16 * (X / 16 % 16) + X % 16 := by omega
        have a3 : X / 256 = 16 * (X / 256 / 16) + X / 256 % 16 := by omega
        generalize X / 256 / 16 = q at *
        generalize X / 256 % 16 = d2 at *
        generalize X / 256 = z at *
        generalize X / 16 % 16 = d1 at *
        generalize X % 16 = d0 at *
        generalize X / 16 = u at *
        omega
theorem fold_sum (Y d0 d1 d2 d3 d4 : Nat) (h0 : d0 ≤ 8) (h1 : d1 ≤ 8) (h2 : d2 ≤ 8) (h3 : d3 ≤ 8) (h4 : d4 ≤ 8) (hY : Y = d0 + 256 * d1 + 65536 * d2 + 16777216 * d3 + 4294967296 * d4) :
    (Y + Y / 256) + (Y + Y / 256) / 65536 + ((Y + Y / 256) + (Y + Y / 256) / 65536) / 4294967296 < 2 ^ 40 ∧
    ((Y + Y / 256) + (Y + Y / 256) / 65536 + ((Y + Y / 256) + (Y + Y / 256) / 65536) / 4294967296) % 128 = d0 + d1 + d2 + d3 + d4 := by
  have q1 : Y / 256 = d1 + 256 * d2 + 65536 * d3 + 16777216 * d4 := by omega
  have x4 : Y + Y / 256 = (d0 + d1) + 256 * (d1 + d2) + 65536 * (d2 + d3) + 16777216 * (d3 + d4) + 4294967296 * d4 := by omega
  rw [x4]
  have q2 : ((d0 + d1) + 256 * (d1 + d2) + 65536 * (d2 + d3) + 16777216 * (d3 + d4) + 4294967296 * d4) / 65536 = (d2 + d3) + 256 * (d3 + d4) + 65536 * d4 := by omega
  rw [q2]
  have q3 : ((d0 + d1) + 256 * (d1 + d2) + 65536 * (d2 + d3) + 16777216 * (d3 + d4) + 4294967296 * d4 + ((d2 + d3) + 256 * (d3 + d4) + 65536 * d4)) / 4294967296 = d4 := by omega
  rw [q3]
  omega
theorem pair_le (w : Nat) : ∀ k X, pairS w k X ≤ X
  | 0, X => Nat.zero_le _
  | k + 1, X => by
      have ih := pair_le w k (X / 2 ^ (2 * w))
      have e1 : X = 2 ^ w * (X / 2 ^ w) + X % 2 ^ w := (Nat.div_add_mod _ _).symm
      have e2 : X / 2 ^ w = 2 ^ w * (X / 2 ^ w / 2 ^ w) + X / 2 ^ w % 2 ^ w := (Nat.div_add_mod _ _).symm
      rw [Nat.div_div_eq_div_mul, show 2 ^ w * 2 ^ w = 2 ^ (2 * w) by rw [← Nat.pow_add]; congr 1; omega] at e2
      have e3 : 2 ^ (2 * w) * pairS w k (X / 2 ^ (2 * w)) ≤ 2 ^ (2 * w) * (X / 2 ^ (2 * w)) := Nat.mul_le_mul_left _ ih
      have e4 : 2 ^ w * (2 ^ w * (X / 2 ^ (2 * w))) = 2 ^ (2 * w) * (X / 2 ^ (2 * w)) := by rw [← Nat.mul_assoc, ← Nat.pow_add]; congr 2; omega
      have e5 : X / 2 ^ w % 2 ^ w ≤ 2 ^ w * (X / 2 ^ w % 2 ^ w) := Nat.le_mul_of_pos_left _ (Nat.two_pow_pos w)
      have e6 : 2 ^ w * (X / 2 ^ w) = 2 ^ (2 * w) * (X / 2 ^ (2 * w)) + 2 ^ w * (X / 2 ^ w % 2 ^ w) := by
        rw [← e4, ← Nat.mul_add, ← e2]
      rw [pairS]
      omega
/-- how many cells of a sheet are black -/
def popN (X : Nat) : Nat := dsN 1 36 X
theorem ds_zero (w : Nat) : ∀ k, dsN w k 0 = 0
  | 0 => rfl
  | k + 1 => by rw [dsN, Nat.zero_mod, Nat.zero_div, ds_zero w k]
theorem ds_add (w m : Nat) : ∀ n X, dsN w (n + m) X = dsN w n X + dsN w m (X / 2 ^ (w * n))
  | 0, X => by simp [dsN]
  | n + 1, X => by
      rw [show n + 1 + m = (n + m) + 1 by omega, dsN, dsN, ds_add w m n, Nat.div_div_eq_div_mul, ← Nat.pow_add, show w + w * n = w * (n + 1) by rw [Nat.mul_add]; omega]
      omega
theorem pop_64 (X : Nat) (hX : Vs X) : dsN 1 64 X = popN X := by
  have h0 : X / 2 ^ (1 * 36) = 0 := by
    have := hX.lt
    rw [Nat.one_mul]
    exact Nat.div_eq_of_lt hX
  rw [show (64 : Nat) = 36 + 28 from rfl, ds_add 1 28 36 X, h0, ds_zero, Nat.add_zero]
  rfl
theorem m0_eq : mkM 1 32 = 6148914691236517205 := by decide +kernel
theorem m1_eq : mkM 2 16 = 3689348814741910323 := by decide +kernel
theorem m2_eq : mkM 4 8 = 1085102592571150095 := by decide +kernel
/-- the three sums of the counting -/
def o1N (X : Nat) : Nat := pairS 1 32 X
def o2N (X : Nat) : Nat := pairS 2 16 (o1N X)
def o3N (X : Nat) : Nat := pairS 4 8 (o2N X)
theorem o1_eq (X : Nat) : (X / 2 &&& 6148914691236517205) + (X &&& 6148914691236517205) = o1N X := by
  have h := pair_and 1 32 X
  rw [m0_eq] at h
  exact h
theorem o2_eq (X : Nat) : (o1N X / 4 &&& 3689348814741910323) + (o1N X &&& 3689348814741910323) = o2N X := by
  have h := pair_and 2 16 (o1N X)
  rw [m1_eq] at h
  exact h
theorem o1_dg (X : Nat) : DgN 2 2 32 (o1N X) := dg_pair 1 1 2 2 (by omega) rfl rfl 32 64 X rfl (dg_one 64 X)
theorem o2_dg (X : Nat) : DgN 4 4 16 (o2N X) := dg_pair 2 2 4 4 (by omega) rfl rfl 16 32 (o1N X) rfl (o1_dg X)
theorem o3_dg (X : Nat) : DgN 8 8 8 (o3N X) := dg_pair 4 4 8 8 (by omega) rfl rfl 8 16 (o2N X) rfl (o2_dg X)
theorem fold_and' (k k2 X : Nat) (hk : k2 = 2 * k) (h : DgN 4 4 k2 X) : (X / 16 + X) &&& mkM 4 k = pairS 4 k X := by
  subst hk; exact fold_and k X h
theorem o3_eq (X : Nat) : (o2N X / 16 + o2N X) &&& 1085102592571150095 = o3N X := by
  have h := fold_and' 8 16 (o2N X) rfl (o2_dg X)
  rw [m2_eq] at h
  exact h
theorem o3_le (X : Nat) : o3N X ≤ X := Nat.le_trans (pair_le 4 8 _) (Nat.le_trans (pair_le 2 16 _) (pair_le 1 32 X))
theorem o2_le (X : Nat) : o2N X ≤ X := Nat.le_trans (pair_le 2 16 _) (pair_le 1 32 X)
theorem o1_le (X : Nat) : o1N X ≤ X := pair_le 1 32 X
theorem o3_sum (X : Nat) (hX : Vs X) : dsN 8 8 (o3N X) = popN X := by
  rw [← pop_64 X hX]
  unfold o3N o2N o1N
  have a := ds_pair 4 (by omega) 8 (pairS 2 16 (pairS 1 32 X))
  have b := ds_pair 2 (by omega) 16 (pairS 1 32 X)
  have c := ds_pair 1 (by omega) 32 X
  exact a.trans (b.trans c)
theorem dm (a b : Nat) : a = b * (a / b) + a % b := (Nat.div_add_mod a b).symm
theorem digits5 (Y : Nat) (h : Y < 1099511627776) : Y = Y % 256 + 256 * (Y / 256 % 256) + 65536 * (Y / 65536 % 256) + 16777216 * (Y / 16777216 % 256) + 4294967296 * (Y / 4294967296 % 256) := by
  have a0 := dm Y 256
  have a1 := dm (Y / 256) 256
  have a2 := dm (Y / 65536) 256
  have a3 := dm (Y / 16777216) 256
  have a4 := dm (Y / 4294967296) 256
  have a5 : Y / 4294967296 / 256 = 0 := by omega
  rw [Nat.div_div_eq_div_mul] at a1 a2 a3
  simp only [Nat.reduceMul] at a1 a2 a3
  rw [a5] at a4
  generalize Y / 256 % 256 = c1 at *
  generalize Y / 65536 % 256 = c2 at *
  generalize Y / 16777216 % 256 = c3 at *
  generalize Y / 4294967296 % 256 = c4 at *
  generalize Y % 256 = c0 at *
  generalize Y / 256 = z1 at *
  generalize Y / 65536 = z2 at *
  generalize Y / 16777216 = z3 at *
  generalize Y / 4294967296 = z4 at *
  omega
theorem ones_eq (X : Nat) (hX : Vs X) : ((o3N X + o3N X / 256) + (o3N X + o3N X / 256) / 65536 + ((o3N X + o3N X / 256) + (o3N X + o3N X / 256) / 65536) / 4294967296) < 2 ^ 40 ∧
    ((o3N X + o3N X / 256) + (o3N X + o3N X / 256) / 65536 + ((o3N X + o3N X / 256) + (o3N X + o3N X / 256) / 65536) / 4294967296) % 128 = popN X := by
  have hs := o3_sum X hX
  have hd := o3_dg X
  have hY40 : o3N X < 1099511627776 := Nat.lt_of_le_of_lt (o3_le X) (Nat.lt_of_lt_of_le hX.lt (by decide))
  generalize o3N X = Y at *
  have z5 : Y / 1099511627776 = 0 := Nat.div_eq_of_lt hY40
  have hY := digits5 Y hY40
  obtain ⟨p0, p1, p2, p3, p4, -⟩ := hd
  simp only [dsN, Nat.div_div_eq_div_mul, Nat.reducePow, Nat.reduceMul, z5, Nat.zero_div, Nat.zero_mod, Nat.add_zero] at hs p0 p1 p2 p3 p4
  have h := fold_sum Y (Y % 256) (Y / 256 % 256) (Y / 65536 % 256) (Y / 16777216 % 256) (Y / 4294967296 % 256) p0 p1 p2 p3 p4 hY
  refine ⟨h.1, ?_⟩
  rw [h.2, ← hs]
  simp only [Nat.add_assoc]
/-- the number of black cells below n, by the list of these -/
theorem ds_cells (X : Nat) : ∀ n, dsN 1 n X = (cellsN X n).length
  | 0 => rfl
  | n + 1 => by
      rw [ds_add 1 1 n, ds_cells X n, cellsN]
      have h : dsN 1 1 (X / 2 ^ (1 * n)) = if X.testBit n = true then 1 else 0 := by
        rw [Nat.testBit_eq_decide_div_mod_eq, Nat.one_mul]
        simp only [dsN, Nat.pow_one, Nat.add_zero, decide_eq_true_eq]
        split <;> omega
      rw [h]
      split
      · rw [List.length_append]; rfl
      · rfl
theorem pop_row (y X : Nat) : dsN 1 (6 * (y + 1)) X = dsN 1 (6 * y) X + dsN 1 6 (X / 64 ^ y % 64) := by
  rw [show 6 * (y + 1) = 6 * y + 6 by omega, ds_add 1 6, Nat.one_mul, ← pow64]
  generalize X / 64 ^ y = z
  congr 1
  simp only [dsN, Nat.div_div_eq_div_mul, Nat.reducePow, Nat.reduceMul]
  omega
theorem pop_half : ∀ r, r < 64 → dsN 1 6 r = r % 2 + dsN 1 6 (r / 2) := by decide
theorem pop6_le : ∀ r, r < 64 → dsN 1 6 r ≤ 6 := by decide
theorem ds1_le : ∀ n X, dsN 1 n X ≤ n
  | 0, _ => Nat.le_refl _
  | n + 1, X => by have := ds1_le n (X / 2 ^ 1); rw [dsN]; omega
end Go.Proofs.Ytidaoalnngmoaaa
