/-
  Plain facts on sheets as numbers: a sheet is a number below 2^36, its row y are the six bits from 6*y on.  Plain facts on sheets as numbers: sheets made cell by cell, moved, shifted.  Plain facts on sheets as numbers: flipped, reflected, spread, shrunk.  Plain facts on the number of black cells, and on the counting of bits in a word.  Plain facts on prints of presses: they are sums of black cells by two, and stamp and presses can be exchanged.  Sums of lists of numbers bit by bit (a space over two elements): counting, independence, tables of a linear map. Plain mathematics, no program.  Prints as a linear map: single presses are a basis, prints are associative, and the order of an undoable stamp divides six. Plain mathematics, no program.  Plain facts on the order of sheets and on the first one of several. No conditions.
-/
namespace Go.Proofs.YtgjgefbcfcomcaaGreatDoor

/-- a number of a sheet -/
def Vs (X : Nat) : Prop := X < 2 ^ 36
theorem Vs.lt {X : Nat} (h : Vs X) : X < 2 ^ 36 := h

/-- row y of a sheet -/
def row (X y : Nat) : Int := ((X / 64 ^ y % 64 : Nat) : Int)

theorem row_lo (X y : Nat) : 0 ≤ row X y := Int.natCast_nonneg _
theorem row_hi (X y : Nat) : row X y ≤ 63 := by unfold row; omega

theorem set_of_rows (a0 a1 a2 a3 a4 a5 : Int) (h0 : 0 ≤ a0 ∧ a0 ≤ 63) (h1 : 0 ≤ a1 ∧ a1 ≤ 63) (h2 : 0 ≤ a2 ∧ a2 ≤ 63) (h3 : 0 ≤ a3 ∧ a3 ≤ 63) (h4 : 0 ≤ a4 ∧ a4 ≤ 63) (h5 : 0 ≤ a5 ∧ a5 ≤ 63) :
    ∃ X : Nat, Vs X ∧ a0 = row X 0 ∧ a1 = row X 1 ∧ a2 = row X 2 ∧ a3 = row X 3 ∧ a4 = row X 4 ∧ a5 = row X 5 := by
  obtain ⟨n0, rfl⟩ := Int.eq_ofNat_of_zero_le h0.1
  obtain ⟨n1, rfl⟩ := Int.eq_ofNat_of_zero_le h1.1
  obtain ⟨n2, rfl⟩ := Int.eq_ofNat_of_zero_le h2.1
  obtain ⟨n3, rfl⟩ := Int.eq_ofNat_of_zero_le h3.1
  obtain ⟨n4, rfl⟩ := Int.eq_ofNat_of_zero_le h4.1
  obtain ⟨n5, rfl⟩ := Int.eq_ofNat_of_zero_le h5.1
  refine ⟨n0 + 64 * n1 + 4096 * n2 + 262144 * n3 + 16777216 * n4 + 1073741824 * n5, by unfold Vs; omega, ?_, ?_, ?_, ?_, ?_, ?_⟩ <;> simp only [row, Nat.reducePow] <;> omega

theorem pow64 (y : Nat) : 64 ^ y = 2 ^ (6 * y) := by rw [Nat.pow_mul]

theorem testBit_row (X y x : Nat) : (X / 64 ^ y % 64).testBit x = (decide (x < 6) && X.testBit (6 * y + x)) := by
  rw [pow64, show (64 : Nat) = 2 ^ 6 from rfl, Nat.testBit_mod_two_pow, Nat.testBit_div_two_pow, Nat.add_comm x]

/-- the other color everywhere -/
def oth (X : Nat) : Nat := 68719476735 - X

theorem and_rows (X Y y : Nat) : (X &&& Y) / 64 ^ y % 64 = (X / 64 ^ y % 64) &&& (Y / 64 ^ y % 64) := by
  apply Nat.eq_of_testBit_eq; intro x
  rw [Nat.testBit_and, testBit_row, testBit_row, testBit_row, Nat.testBit_and]
  cases decide (x < 6) <;> simp
theorem or_rows (X Y y : Nat) : (X ||| Y) / 64 ^ y % 64 = (X / 64 ^ y % 64) ||| (Y / 64 ^ y % 64) := by
  apply Nat.eq_of_testBit_eq; intro x
  rw [Nat.testBit_or, testBit_row, testBit_row, testBit_row, Nat.testBit_or]
  cases decide (x < 6) <;> simp
theorem xor_rows (X Y y : Nat) : (X ^^^ Y) / 64 ^ y % 64 = (X / 64 ^ y % 64) ^^^ (Y / 64 ^ y % 64) := by
  apply Nat.eq_of_testBit_eq; intro x
  rw [Nat.testBit_xor, testBit_row, testBit_row, testBit_row, Nat.testBit_xor]
  cases decide (x < 6) <;> simp

theorem oth_row0 (X : Nat) (h : X < 2 ^ 36) : 63 - row X 0 = row (oth X) 0 := by unfold row oth; omega
theorem oth_row1 (X : Nat) (h : X < 2 ^ 36) : 63 - row X 1 = row (oth X) 1 := by unfold row oth; omega
theorem oth_row2 (X : Nat) (h : X < 2 ^ 36) : 63 - row X 2 = row (oth X) 2 := by unfold row oth; omega
theorem oth_row3 (X : Nat) (h : X < 2 ^ 36) : 63 - row X 3 = row (oth X) 3 := by unfold row oth; omega
theorem oth_row4 (X : Nat) (h : X < 2 ^ 36) : 63 - row X 4 = row (oth X) 4 := by unfold row oth; omega
theorem oth_row5 (X : Nat) (h : X < 2 ^ 36) : 63 - row X 5 = row (oth X) 5 := by unfold row oth; omega

theorem oth_vs (X : Nat) : Vs (oth X) := by unfold Vs oth; omega
theorem Vs.and {X : Nat} (h : Vs X) (Y : Nat) : Vs (X &&& Y) := Nat.lt_of_le_of_lt Nat.and_le_left h
theorem Vs.or {X Y : Nat} (h : Vs X) (k : Vs Y) : Vs (X ||| Y) := Nat.or_lt_two_pow h k
theorem Vs.xor {X Y : Nat} (h : Vs X) (k : Vs Y) : Vs (X ^^^ Y) := Nat.xor_lt_two_pow h k

/-- two sheets with the same rows are one -/
theorem eq_of_rows (X Y : Nat) (hX : Vs X) (hY : Vs Y) (h0 : row X 0 = row Y 0) (h1 : row X 1 = row Y 1) (h2 : row X 2 = row Y 2) (h3 : row X 3 = row Y 3) (h4 : row X 4 = row Y 4) (h5 : row X 5 = row Y 5) : X = Y := by
  unfold Vs row at *; omega
theorem rows_iff (X Y : Nat) (hX : Vs X) (hY : Vs Y) : (row X 0 = row Y 0 ∧ row X 1 = row Y 1 ∧ row X 2 = row Y 2 ∧ row X 3 = row Y 3 ∧ row X 4 = row Y 4 ∧ row X 5 = row Y 5) ↔ X = Y :=
  ⟨fun ⟨h0, h1, h2, h3, h4, h5⟩ => eq_of_rows X Y hX hY h0 h1 h2 h3 h4 h5, fun h => by subst h; exact ⟨rfl, rfl, rfl, rfl, rfl, rfl⟩⟩
end Go.Proofs.YtgjgefbcfcomcaaGreatDoor
namespace Go.Proofs.YtgjgefbcfcomcaaGreatDoor

/-- the sheet of the cells below n of which p is so -/
def mkN (p : Nat → Bool) : Nat → Nat
  | 0 => 0
  | n + 1 => if p n = true then mkN p n ||| 2 ^ n else mkN p n

theorem testBit_mkN (p : Nat → Bool) (n j : Nat) : (mkN p n).testBit j = (decide (j < n) && p j) := by
  induction n with
  | zero => simp [mkN]
  | succ n ih =>
    unfold mkN
    split
    · rename_i h
      rw [Nat.testBit_or, ih, Nat.testBit_two_pow]
      by_cases e : n = j
      · subst e; simp [h]
      · by_cases l : j < n
        · simp [l, Nat.lt_succ_of_lt l, e]
        · have l' : ¬ j < n + 1 := by omega
          simp [l, l', e]
    · rename_i h
      rw [ih]
      by_cases e : n = j
      · subst e; simp [h]
      · by_cases l : j < n
        · simp [l, Nat.lt_succ_of_lt l]
        · have l' : ¬ j < n + 1 := by omega
          simp [l, l']

/-- the sheet of the cells of which p is so -/
def mk (p : Nat → Bool) : Nat := mkN p 36
theorem testBit_mk (p : Nat → Bool) (j : Nat) : (mk p).testBit j = (decide (j < 36) && p j) := testBit_mkN p 36 j

theorem lt_of_bits (X n : Nat) (h : ∀ j, n ≤ j → X.testBit j = false) : X < 2 ^ n := by
  apply Nat.lt_pow_two_of_testBit
  intro i hi
  exact h i hi
theorem bit_high {X : Nat} (h : Vs X) (j : Nat) (hj : 36 ≤ j) : X.testBit j = false :=
  Nat.testBit_lt_two_pow (Nat.lt_of_lt_of_le h (Nat.pow_le_pow_right (by omega) hj))
theorem mk_vs (p : Nat → Bool) : Vs (mk p) := lt_of_bits _ _ fun j hj => by rw [testBit_mk, decide_eq_false (by omega)]; rfl

/-- two sheets with the same cells are one -/
theorem eq_of_cells {X Y : Nat} (hX : Vs X) (hY : Vs Y) (h : ∀ j, j < 36 → X.testBit j = Y.testBit j) : X = Y := by
  apply Nat.eq_of_testBit_eq
  intro j
  by_cases l : j < 36
  · exact h j l
  · rw [bit_high hX j (by omega), bit_high hY j (by omega)]
theorem mk_congr {p q : Nat → Bool} (h : ∀ j, j < 36 → p j = q j) : mk p = mk q :=
  eq_of_cells (mk_vs p) (mk_vs q) fun j hj => by rw [testBit_mk, testBit_mk, h j hj]
theorem mk_self {X : Nat} (h : Vs X) : mk X.testBit = X := eq_of_cells (mk_vs _) h fun j hj => by rw [testBit_mk]; simp [hj]

/-- what the program's moved computes: the cells below n of X, each sent where f tells -/
def movN (X : Nat) (f : Nat → Nat) : Nat → Nat
  | 0 => 0
  | n + 1 => if X.testBit n = true then movN X f n ||| 2 ^ f n else movN X f n

theorem testBit_movN (X : Nat) (f : Nat → Nat) (n j : Nat) : (movN X f n).testBit j = true ↔ ∃ k, k < n ∧ X.testBit k = true ∧ f k = j := by
  induction n with
  | zero => simp [movN]
  | succ n ih =>
    unfold movN
    split
    · rename_i h
      rw [Nat.testBit_or, Bool.or_eq_true, ih, Nat.testBit_two_pow, decide_eq_true_eq]
      constructor
      · rintro (⟨k, h1, h2, h3⟩ | h1)
        · exact ⟨k, by omega, h2, h3⟩
        · exact ⟨n, by omega, h, h1⟩
      · rintro ⟨k, h1, h2, h3⟩
        by_cases e : k = n
        · subst e; exact .inr h3
        · exact .inl ⟨k, by omega, h2, h3⟩
    · rename_i h
      rw [ih]
      constructor
      · rintro ⟨k, h1, h2, h3⟩
        exact ⟨k, by omega, h2, h3⟩
      · rintro ⟨k, h1, h2, h3⟩
        by_cases e : k = n
        · subst e; exact absurd h2 h
        · exact ⟨k, by omega, h2, h3⟩

theorem movN_lt (X : Nat) (f : Nat → Nat) (hf : ∀ k, k < 36 → f k < 36) (n : Nat) (hn : n ≤ 36) : movN X f n < 2 ^ 36 := by
  apply lt_of_bits
  intro j hj
  cases e : (movN X f n).testBit j with
  | false => rfl
  | true =>
    obtain ⟨k, h1, _, h3⟩ := (testBit_movN X f n j).1 e
    have := hf k (by omega)
    omega

/-- where f has an inverse g on the cells, the moved sheet has at j the cell g j -/
theorem movN_inv {X : Nat} (f g : Nat → Nat) (hf : ∀ k, k < 36 → f k < 36) (hg : ∀ j, j < 36 → g j < 36) (hfg : ∀ j, j < 36 → f (g j) = j) (hgf : ∀ k, k < 36 → g (f k) = k) :
    movN X f 36 = mk fun j => X.testBit (g j) := by
  apply eq_of_cells (movN_lt X f hf 36 (Nat.le_refl _)) (mk_vs _)
  intro j hj
  rw [testBit_mk, decide_eq_true hj, Bool.true_and, Bool.eq_iff_iff, testBit_movN]
  constructor
  · rintro ⟨k, h1, h2, rfl⟩
    rw [hgf k h1]; exact h2
  · intro h
    exact ⟨g j, hg j hj, h, hfg j hj⟩

/-- a sheet shifted by x columns and y rows -/
def shiftN (X x y : Nat) : Nat := mk fun j => X.testBit (6 * ((j / 6 + (6 - y)) % 6) + (j % 6 + (6 - x)) % 6)
theorem shiftN_vs (X x y : Nat) : Vs (shiftN X x y) := mk_vs _
/-- where a shift brings a cell -/
def shTo (x y k : Nat) : Nat := 6 * ((k / 6 + y) % 6) + (k % 6 + x) % 6
theorem movN_shift (X x y : Nat) (hx : x < 6) (hy : y < 6) : movN X (shTo x y) 36 = shiftN X x y := by
  apply movN_inv
  · intro k hk; unfold shTo; omega
  · intro j hj; omega
  · intro j hj; unfold shTo; omega
  · intro k hk; unfold shTo; omega

/-- what of X is not in Y -/
def mi (X Y : Nat) : Nat := X &&& oth Y

/-- the black cells below k, rising -/
def cellsN (X : Nat) : Nat → List Nat
  | 0 => []
  | k + 1 => if X.testBit k = true then cellsN X k ++ [k] else cellsN X k
theorem cellsN_le (X k : Nat) : (cellsN X k).length ≤ k := by
  induction k with
  | zero => simp [cellsN]
  | succ k ih =>
    unfold cellsN
    split
    · simp; omega
    · omega
theorem cellsN_lt (X k : Nat) : ∀ c ∈ cellsN X k, c < k := by
  induction k with
  | zero => simp [cellsN]
  | succ k ih =>
    unfold cellsN
    split
    · intro c hc
      rcases List.mem_append.1 hc with h | h
      · have := ih c h; omega
      · simp at h; omega
    · intro c hc; have := ih c hc; omega
theorem mem_cellsN (X k c : Nat) : c ∈ cellsN X k ↔ c < k ∧ X.testBit c = true := by
  induction k with
  | zero => simp [cellsN]
  | succ k ih =>
    unfold cellsN
    split
    · rename_i h
      rw [List.mem_append, ih, List.mem_singleton]
      constructor
      · rintro (⟨h1, h2⟩ | rfl)
        · exact ⟨by omega, h2⟩
        · exact ⟨by omega, h⟩
      · rintro ⟨h1, h2⟩
        by_cases e : c = k
        · exact .inr e
        · exact .inl ⟨by omega, h2⟩
    · rename_i h
      rw [ih]
      constructor
      · rintro ⟨h1, h2⟩; exact ⟨by omega, h2⟩
      · rintro ⟨h1, h2⟩
        by_cases e : c = k
        · subst e; exact absurd h2 h
        · exact ⟨by omega, h2⟩
/-- all black cells -/
def cellsL (X : Nat) : List Nat := cellsN X 36
end Go.Proofs.YtgjgefbcfcomcaaGreatDoor
namespace Go.Proofs.YtgjgefbcfcomcaaGreatDoor

theorem flip_vs {X : Nat} (h : Vs X) (k : Nat) (hk : k < 36) : Vs (X ^^^ 2 ^ k) :=
  Nat.xor_lt_two_pow h (Nat.pow_lt_pow_right (by omega) hk)
theorem row_flip_same (X y x : Nat) (hx : x < 6) : (X ^^^ 2 ^ (6 * y + x)) / 64 ^ y % 64 = (X / 64 ^ y % 64) ^^^ 2 ^ x := by
  apply Nat.eq_of_testBit_eq; intro b
  rw [Nat.testBit_xor, testBit_row, testBit_row, Nat.testBit_xor, Nat.testBit_two_pow, Nat.testBit_two_pow]
  by_cases hb : b < 6
  · simp [hb]
  · have : ¬ x = b := by omega
    simp [hb, this]
theorem row_flip_other (X y x i : Nat) (hx : x < 6) (hi : i ≠ y) : row (X ^^^ 2 ^ (6 * y + x)) i = row X i := by
  unfold row
  congr 1
  apply Nat.eq_of_testBit_eq; intro b
  rw [testBit_row, testBit_row, Nat.testBit_xor, Nat.testBit_two_pow]
  by_cases hb : b < 6
  · have : ¬ 6 * y + x = 6 * i + b := by omega
    simp [hb, this]
  · simp [hb]
theorem xor_of_clear (Z k : Nat) (h : Z.testBit k = false) : Z ^^^ 2 ^ k = Z ||| 2 ^ k := by
  apply Nat.eq_of_testBit_eq; intro j
  rw [Nat.testBit_xor, Nat.testBit_or, Nat.testBit_two_pow]
  by_cases e : k = j
  · subst e; simp [h]
  · simp [e]
theorem mkN_vs (p : Nat → Bool) (n : Nat) (h : n ≤ 36) : Vs (mkN p n) := lt_of_bits _ _ fun j hj => by rw [testBit_mkN, decide_eq_false (by omega)]; rfl
theorem mkN_flip (p : Nat → Bool) (k : Nat) (h : p k = true) : mkN p k ^^^ 2 ^ k = mkN p (k + 1) := by
  rw [xor_of_clear _ _ (by rw [testBit_mkN]; simp), mkN, if_pos h]
theorem mkN_skip (p : Nat → Bool) (k : Nat) (h : p k = false) : mkN p (k + 1) = mkN p k := by
  rw [mkN, if_neg (by rw [h]; decide)]

/-- a stamp as it is pressed at a cell -/
def pressN (X k : Nat) : Nat := shiftN X (k % 6) (k / 6)
theorem pressN_vs (X k : Nat) : Vs (pressN X k) := shiftN_vs X (k % 6) (k / 6)
/-- the cells of a list, pressed by X one after another, all inked -/
def orL (X : Nat) : List Nat → Nat → Nat
  | [], o => o
  | c :: L, o => orL X L (o ||| pressN X c)
/-- the first n cells of a list pressed -/
def orT (X : Nat) (L : List Nat) : Nat → Nat
  | 0 => 0
  | n + 1 => orT X L n ||| pressN X (L.getD n 0)
theorem orT_vs (X : Nat) (L : List Nat) (n : Nat) : Vs (orT X L n) := by
  induction n with
  | zero => unfold orT Vs; omega
  | succ n ih => exact ih.or (pressN_vs _ _)
/-- X spread by Y -/
def spreadS (X Y : Nat) : Nat := orT X (cellsL Y) (cellsL Y).length
theorem spreadS_vs (X Y : Nat) : Vs (spreadS X Y) := orT_vs _ _ _
/-- X shrunk by Y -/
def shrinkP (X Y k : Nat) : Bool := decide (pressN Y k &&& X = pressN Y k)
def shrinkS (X Y : Nat) : Nat := mkN (shrinkP X Y) 36
theorem shrinkS_vs (X Y : Nat) : Vs (shrinkS X Y) := mkN_vs _ _ (by omega)
/-- where the reflection brings a cell -/
def reTo (k : Nat) : Nat := 6 * ((6 - k / 6) % 6) + (6 - k % 6) % 6
def reflS (X : Nat) : Nat := mk fun j => X.testBit (reTo j)
theorem reflS_vs (X : Nat) : Vs (reflS X) := by unfold reflS; exact mk_vs _
theorem movN_refl (X : Nat) : movN X reTo 36 = reflS X := by
  apply movN_inv
  · intro k hk; unfold reTo; omega
  · intro k hk; unfold reTo; omega
  · intro k hk; unfold reTo; omega
  · intro k hk; unfold reTo; omega
end Go.Proofs.YtgjgefbcfcomcaaGreatDoor
namespace Go.Proofs.YtgjgefbcfcomcaaGreatDoor

theorem and_split (n a b c e : Nat) (ha : a < 2 ^ n) (hc : c < 2 ^ n) : (2 ^ n * b + a) &&& (2 ^ n * e + c) = 2 ^ n * (b &&& e) + (a &&& c) := by
  apply Nat.eq_of_testBit_eq
  intro i
  have h : a &&& c < 2 ^ n := Nat.and_lt_two_pow a hc
  rw [Nat.testBit_and, Nat.testBit_two_pow_mul_add _ ha, Nat.testBit_two_pow_mul_add _ hc, Nat.testBit_two_pow_mul_add _ h]
  split <;> simp [Nat.testBit_and]
/-- k fields of w ones, each with w zeros above -/
def mkM (w : Nat) : Nat → Nat
  | 0 => 0
  | k + 1 => 2 ^ (2 * w) * mkM w k + (2 ^ w - 1)
theorem and_step (w k X : Nat) : X &&& mkM w (k + 1) = 2 ^ (2 * w) * (X / 2 ^ (2 * w) &&& mkM w k) + X % 2 ^ w := by
  have e : X = 2 ^ (2 * w) * (X / 2 ^ (2 * w)) + X % 2 ^ (2 * w) := (Nat.div_add_mod X (2 ^ (2 * w))).symm
  have h1 : X % 2 ^ (2 * w) < 2 ^ (2 * w) := Nat.mod_lt _ (Nat.two_pow_pos _)
  have hp : 2 ^ w ≤ 2 ^ (2 * w) := Nat.pow_le_pow_right (by omega) (by omega)
  have hw := Nat.two_pow_pos w
  have h2 : 2 ^ w - 1 < 2 ^ (2 * w) := by omega
  have h3 := and_split (2 * w) (X % 2 ^ (2 * w)) (X / 2 ^ (2 * w)) (2 ^ w - 1) (mkM w k) h1 h2
  rw [← e] at h3
  rw [mkM, h3, Nat.and_two_pow_sub_one_eq_mod]
  congr 1
  exact Nat.mod_mod_of_dvd _ (Nat.pow_dvd_pow 2 (by omega))
/-- the sums of two fields side by side -/
def pairS (w : Nat) : Nat → Nat → Nat
  | 0, _ => 0
  | k + 1, X => 2 ^ (2 * w) * pairS w k (X / 2 ^ (2 * w)) + (X / 2 ^ w % 2 ^ w + X % 2 ^ w)
theorem pair_and (w : Nat) : ∀ k X, (X / 2 ^ w &&& mkM w k) + (X &&& mkM w k) = pairS w k X
  | 0, X => by simp [mkM, pairS]
  | k + 1, X => by
      rw [and_step, and_step, pairS, ← pair_and w k (X / 2 ^ (2 * w)), Nat.mul_add, Nat.div_div_eq_div_mul, Nat.div_div_eq_div_mul, Nat.mul_comm (2 ^ w)]
      omega
/-- the sum of k digits of w bits -/
def dsN (w : Nat) : Nat → Nat → Nat
  | 0, _ => 0
  | k + 1, X => X % 2 ^ w + dsN w k (X / 2 ^ w)
theorem pair_low (w X a : Nat) (hw : 0 < w) : (2 ^ (2 * w) * a + (X / 2 ^ w % 2 ^ w + X % 2 ^ w)) % 2 ^ (2 * w) = X / 2 ^ w % 2 ^ w + X % 2 ^ w ∧ (2 ^ (2 * w) * a + (X / 2 ^ w % 2 ^ w + X % 2 ^ w)) / 2 ^ (2 * w) = a := by
  have h0 := Nat.two_pow_pos w
  have h1 : X / 2 ^ w % 2 ^ w < 2 ^ w := Nat.mod_lt _ h0
  have h2 : X % 2 ^ w < 2 ^ w := Nat.mod_lt _ h0
  have h3 : 2 * 2 ^ w ≤ 2 ^ (2 * w) := by
    rw [show 2 * w = w + w by omega, Nat.pow_add]
    exact Nat.mul_le_mul_right _ (by have := Nat.pow_le_pow_right (n := 2) (by omega) (show 1 ≤ w from hw); simpa using this)
  have h4 := Nat.two_pow_pos (2 * w)
  have hr : X / 2 ^ w % 2 ^ w + X % 2 ^ w < 2 ^ (2 * w) := by omega
  generalize X / 2 ^ w % 2 ^ w + X % 2 ^ w = r at *
  refine ⟨?_, ?_⟩
  · rw [Nat.mul_add_mod, Nat.mod_eq_of_lt hr]
  · rw [Nat.mul_add_div h4, Nat.div_eq_of_lt hr]; rfl
theorem ds_pair (w : Nat) (hw : 0 < w) : ∀ k X, dsN (2 * w) k (pairS w k X) = dsN w (2 * k) X
  | 0, X => rfl
  | k + 1, X => by
      have h := pair_low w X (pairS w k (X / 2 ^ (2 * w))) hw
      rw [show 2 * (k + 1) = 2 * k + 1 + 1 by omega, pairS, dsN, dsN, dsN, h.1, h.2, ds_pair w hw k, Nat.div_div_eq_div_mul, show 2 * w = w + w by omega, Nat.pow_add]
      omega
/-- k digits are at most b -/
def DgN (w b : Nat) : Nat → Nat → Prop
  | 0, _ => True
  | k + 1, X => X % 2 ^ w ≤ b ∧ DgN w b k (X / 2 ^ w)
theorem dg_pair (w b w2 b2 : Nat) (hw : 0 < w) (hw2 : w2 = 2 * w) (hb2 : b2 = 2 * b) : ∀ k k2 X, k2 = 2 * k → DgN w b k2 X → DgN w2 b2 k (pairS w k X)
  | 0, _, X, _, _ => trivial
  | k + 1, k2, X, hk, h => by
      subst hw2 hb2 hk
      have h5 := pair_low w X (pairS w k (X / 2 ^ (2 * w))) hw
      rw [show 2 * (k + 1) = 2 * k + 1 + 1 by omega] at h
      obtain ⟨h1, h2, h3⟩ := h
      rw [Nat.div_div_eq_div_mul, show 2 ^ w * 2 ^ w = 2 ^ (2 * w) by rw [← Nat.pow_add]; congr 1; omega] at h3
      rw [pairS]
      refine ⟨?_, ?_⟩
      · rw [h5.1]; omega
      · rw [h5.2]; exact dg_pair w b _ _ hw rfl rfl k _ _ rfl h3
theorem dg_one : ∀ k X, DgN 1 1 k X
  | 0, _ => trivial
  | k + 1, X => ⟨by omega, dg_one k _⟩
theorem fold_and : ∀ k X, DgN 4 4 (2 * k) X → (X / 16 + X) &&& mkM 4 k = pairS 4 k X
  | 0, X, _ => by simp [mkM, pairS]
  | k + 1, X, h => by
      rw [show 2 * (k + 1) = 2 * k + 1 + 1 by omega] at h
      obtain ⟨h1, h2, h3⟩ := h
      rw [Nat.div_div_eq_div_mul] at h3
      simp only [Nat.reducePow, Nat.reduceMul] at h1 h2 h3
      rw [and_step, pairS]
      simp only [Nat.reducePow, Nat.reduceMul]
      have ih := fold_and k (X / 256) h3
      have e0 : (X / 16 + X) % 16 = X / 16 % 16 + X % 16 := by omega
      rw [e0]
      congr 2
      by_cases hk : k = 0
      · subst hk; simp [mkM, pairS]
      · obtain ⟨k, rfl⟩ : ∃ m, k = m + 1 := ⟨k - 1, by omega⟩
        rw [show 2 * (k + 1) = 2 * k + 1 + 1 by omega] at h3
        have h4 := h3.1
        simp only [Nat.reducePow] at h4
        rw [← ih]
        congr 1
        clear ih e0 h3
        have a1 : X / 16 = 16 * (X / 256) + X / 16 % 16 := by omega
        have a2 : X = 256 * (X / 256) + 16 * (X / 16 % 16) + X % 16 := by omega
        have a3 : X / 256 = 16 * (X / 256 / 16) + X / 256 % 16 := by omega
        generalize X / 256 / 16 = q at *
        generalize X / 256 % 16 = d2 at *
        generalize X / 256 = z at *
        generalize X / 16 % 16 = d1 at *
        generalize X % 16 = d0 at *
        generalize X / 16 = u at *
        omega
theorem fold_sum (Y d0 d1 d2 d3 d4 : Nat) (h0 : d0 ≤ 8) (h1 : d1 ≤ 8) (h2 : d2 ≤ 8) (h3 : d3 ≤ 8) (h4 : d4 ≤ 8) (hY : Y = d0 + 256 * d1 + 65536 * d2 + 16777216 * d3 + 4294967296 * d4) :
    (Y + Y / 256) + (Y + Y / 256) / 65536 + ((Y + Y / 256) + (Y + Y / 256) / 65536) / 4294967296 < 2 ^ 40 ∧
    ((Y + Y / 256) + (Y + Y / 256) / 65536 + ((Y + Y / 256) + (Y + Y / 256) / 65536) / 4294967296) % 128 = d0 + d1 + d2 + d3 + d4 := by
  have q1 : Y / 256 = d1 + 256 * d2 + 65536 * d3 + 16777216 * d4 := by omega
  have x4 : Y + Y / 256 = (d0 + d1) + 256 * (d1 + d2) + 65536 * (d2 + d3) + 16777216 * (d3 + d4) + 4294967296 * d4 := by omega
  rw [x4]
  have q2 : ((d0 + d1) + 256 * (d1 + d2) + 65536 * (d2 + d3) + 16777216 * (d3 + d4) + 4294967296 * d4) / 65536 = (d2 + d3) + 256 * (d3 + d4) + 65536 * d4 := by omega
  rw [q2]
  have q3 : ((d0 + d1) + 256 * (d1 + d2) + 65536 * (d2 + d3) + 16777216 * (d3 + d4) + 4294967296 * d4 + ((d2 + d3) + 256 * (d3 + d4) + 65536 * d4)) / 4294967296 = d4 := by omega
  rw [q3]
  omega
theorem pair_le (w : Nat) : ∀ k X, pairS w k X ≤ X
  | 0, X => Nat.zero_le _
  | k + 1, X => by
      have ih := pair_le w k (X / 2 ^ (2 * w))
      have e1 : X = 2 ^ w * (X / 2 ^ w) + X % 2 ^ w := (Nat.div_add_mod _ _).symm
      have e2 : X / 2 ^ w = 2 ^ w * (X / 2 ^ w / 2 ^ w) + X / 2 ^ w % 2 ^ w := (Nat.div_add_mod _ _).symm
      rw [Nat.div_div_eq_div_mul, show 2 ^ w * 2 ^ w = 2 ^ (2 * w) by rw [← Nat.pow_add]; congr 1; omega] at e2
      have e3 : 2 ^ (2 * w) * pairS w k (X / 2 ^ (2 * w)) ≤ 2 ^ (2 * w) * (X / 2 ^ (2 * w)) := Nat.mul_le_mul_left _ ih
      have e4 : 2 ^ w * (2 ^ w * (X / 2 ^ (2 * w))) = 2 ^ (2 * w) * (X / 2 ^ (2 * w)) := by rw [← Nat.mul_assoc, ← Nat.pow_add]; congr 2; omega
      have e5 : X / 2 ^ w % 2 ^ w ≤ 2 ^ w * (X / 2 ^ w % 2 ^ w) := Nat.le_mul_of_pos_left _ (Nat.two_pow_pos w)
      have e6 : 2 ^ w * (X / 2 ^ w) = 2 ^ (2 * w) * (X / 2 ^ (2 * w)) + 2 ^ w * (X / 2 ^ w % 2 ^ w) := by
        rw [← e4, ← Nat.mul_add, ← e2]
      rw [pairS]
      omega
/-- how many cells of a sheet are black -/
def popN (X : Nat) : Nat := dsN 1 36 X
theorem ds_zero (w : Nat) : ∀ k, dsN w k 0 = 0
  | 0 => rfl
  | k + 1 => by rw [dsN, Nat.zero_mod, Nat.zero_div, ds_zero w k]
theorem ds_add (w m : Nat) : ∀ n X, dsN w (n + m) X = dsN w n X + dsN w m (X / 2 ^ (w * n))
  | 0, X => by simp [dsN]
  | n + 1, X => by
      rw [show n + 1 + m = (n + m) + 1 by omega, dsN, dsN, ds_add w m n, Nat.div_div_eq_div_mul, ← Nat.pow_add, show w + w * n = w * (n + 1) by rw [Nat.mul_add]; omega]
      omega
theorem pop_64 (X : Nat) (hX : Vs X) : dsN 1 64 X = popN X := by
  have h0 : X / 2 ^ (1 * 36) = 0 := by
    have := hX.lt
    rw [Nat.one_mul]
    exact Nat.div_eq_of_lt hX
  rw [show (64 : Nat) = 36 + 28 from rfl, ds_add 1 28 36 X, h0, ds_zero, Nat.add_zero]
  rfl
theorem m0_eq : mkM 1 32 = 6148914691236517205 := by decide +kernel
theorem m1_eq : mkM 2 16 = 3689348814741910323 := by decide +kernel
theorem m2_eq : mkM 4 8 = 1085102592571150095 := by decide +kernel
/-- the three sums of the counting -/
def o1N (X : Nat) : Nat := pairS 1 32 X
def o2N (X : Nat) : Nat := pairS 2 16 (o1N X)
def o3N (X : Nat) : Nat := pairS 4 8 (o2N X)
theorem o1_eq (X : Nat) : (X / 2 &&& 6148914691236517205) + (X &&& 6148914691236517205) = o1N X := by
  have h := pair_and 1 32 X
  rw [m0_eq] at h
  exact h
theorem o2_eq (X : Nat) : (o1N X / 4 &&& 3689348814741910323) + (o1N X &&& 3689348814741910323) = o2N X := by
  have h := pair_and 2 16 (o1N X)
  rw [m1_eq] at h
  exact h
theorem o1_dg (X : Nat) : DgN 2 2 32 (o1N X) := dg_pair 1 1 2 2 (by omega) rfl rfl 32 64 X rfl (dg_one 64 X)
theorem o2_dg (X : Nat) : DgN 4 4 16 (o2N X) := dg_pair 2 2 4 4 (by omega) rfl rfl 16 32 (o1N X) rfl (o1_dg X)
theorem o3_dg (X : Nat) : DgN 8 8 8 (o3N X) := dg_pair 4 4 8 8 (by omega) rfl rfl 8 16 (o2N X) rfl (o2_dg X)
theorem fold_and' (k k2 X : Nat) (hk : k2 = 2 * k) (h : DgN 4 4 k2 X) : (X / 16 + X) &&& mkM 4 k = pairS 4 k X := by
  subst hk; exact fold_and k X h
theorem o3_eq (X : Nat) : (o2N X / 16 + o2N X) &&& 1085102592571150095 = o3N X := by
  have h := fold_and' 8 16 (o2N X) rfl (o2_dg X)
  rw [m2_eq] at h
  exact h
theorem o3_le (X : Nat) : o3N X ≤ X := Nat.le_trans (pair_le 4 8 _) (Nat.le_trans (pair_le 2 16 _) (pair_le 1 32 X))
theorem o2_le (X : Nat) : o2N X ≤ X := Nat.le_trans (pair_le 2 16 _) (pair_le 1 32 X)
theorem o1_le (X : Nat) : o1N X ≤ X := pair_le 1 32 X
theorem o3_sum (X : Nat) (hX : Vs X) : dsN 8 8 (o3N X) = popN X := by
  rw [← pop_64 X hX]
  unfold o3N o2N o1N
  have a := ds_pair 4 (by omega) 8 (pairS 2 16 (pairS 1 32 X))
  have b := ds_pair 2 (by omega) 16 (pairS 1 32 X)
  have c := ds_pair 1 (by omega) 32 X
  exact a.trans (b.trans c)
theorem dm (a b : Nat) : a = b * (a / b) + a % b := (Nat.div_add_mod a b).symm
theorem digits5 (Y : Nat) (h : Y < 1099511627776) : Y = Y % 256 + 256 * (Y / 256 % 256) + 65536 * (Y / 65536 % 256) + 16777216 * (Y / 16777216 % 256) + 4294967296 * (Y / 4294967296 % 256) := by
  have a0 := dm Y 256
  have a1 := dm (Y / 256) 256
  have a2 := dm (Y / 65536) 256
  have a3 := dm (Y / 16777216) 256
  have a4 := dm (Y / 4294967296) 256
  have a5 : Y / 4294967296 / 256 = 0 := by omega
  rw [Nat.div_div_eq_div_mul] at a1 a2 a3
  simp only [Nat.reduceMul] at a1 a2 a3
  rw [a5] at a4
  generalize Y / 256 % 256 = c1 at *
  generalize Y / 65536 % 256 = c2 at *
  generalize Y / 16777216 % 256 = c3 at *
  generalize Y / 4294967296 % 256 = c4 at *
  generalize Y % 256 = c0 at *
  generalize Y / 256 = z1 at *
  generalize Y / 65536 = z2 at *
  generalize Y / 16777216 = z3 at *
  generalize Y / 4294967296 = z4 at *
  omega
theorem ones_eq (X : Nat) (hX : Vs X) : ((o3N X + o3N X / 256) + (o3N X + o3N X / 256) / 65536 + ((o3N X + o3N X / 256) + (o3N X + o3N X / 256) / 65536) / 4294967296) < 2 ^ 40 ∧
    ((o3N X + o3N X / 256) + (o3N X + o3N X / 256) / 65536 + ((o3N X + o3N X / 256) + (o3N X + o3N X / 256) / 65536) / 4294967296) % 128 = popN X := by
  have hs := o3_sum X hX
  have hd := o3_dg X
  have hY40 : o3N X < 1099511627776 := Nat.lt_of_le_of_lt (o3_le X) (Nat.lt_of_lt_of_le hX.lt (by decide))
  generalize o3N X = Y at *
  have z5 : Y / 1099511627776 = 0 := Nat.div_eq_of_lt hY40
  have hY := digits5 Y hY40
  obtain ⟨p0, p1, p2, p3, p4, -⟩ := hd
  simp only [dsN, Nat.div_div_eq_div_mul, Nat.reducePow, Nat.reduceMul, z5, Nat.zero_div, Nat.zero_mod, Nat.add_zero] at hs p0 p1 p2 p3 p4
  have h := fold_sum Y (Y % 256) (Y / 256 % 256) (Y / 65536 % 256) (Y / 16777216 % 256) (Y / 4294967296 % 256) p0 p1 p2 p3 p4 hY
  refine ⟨h.1, ?_⟩
  rw [h.2, ← hs]
  simp only [Nat.add_assoc]
/-- the number of black cells below n, by the list of these -/
theorem ds_cells (X : Nat) : ∀ n, dsN 1 n X = (cellsN X n).length
  | 0 => rfl
  | n + 1 => by
      rw [ds_add 1 1 n, ds_cells X n, cellsN]
      have h : dsN 1 1 (X / 2 ^ (1 * n)) = if X.testBit n = true then 1 else 0 := by
        rw [Nat.testBit_eq_decide_div_mod_eq, Nat.one_mul]
        simp only [dsN, Nat.pow_one, Nat.add_zero, decide_eq_true_eq]
        split <;> omega
      rw [h]
      split
      · rw [List.length_append]; rfl
      · rfl
theorem pop_row (y X : Nat) : dsN 1 (6 * (y + 1)) X = dsN 1 (6 * y) X + dsN 1 6 (X / 64 ^ y % 64) := by
  rw [show 6 * (y + 1) = 6 * y + 6 by omega, ds_add 1 6, Nat.one_mul, ← pow64]
  generalize X / 64 ^ y = z
  congr 1
  simp only [dsN, Nat.div_div_eq_div_mul, Nat.reducePow, Nat.reduceMul]
  omega
theorem pop_half : ∀ r, r < 64 → dsN 1 6 r = r % 2 + dsN 1 6 (r / 2) := by decide
theorem pop6_le : ∀ r, r < 64 → dsN 1 6 r ≤ 6 := by decide
theorem ds1_le : ∀ n X, dsN 1 n X ≤ n
  | 0, _ => Nat.le_refl _
  | n + 1, X => by have := ds1_le n (X / 2 ^ 1); rw [dsN]; omega
end Go.Proofs.YtgjgefbcfcomcaaGreatDoor
namespace Go.Proofs.YtgjgefbcfcomcaaGreatDoor

/-- the first n cells of a list pressed, toggling -/
def xrT (X : Nat) (L : List Nat) : Nat → Nat
  | 0 => 0
  | n + 1 => xrT X L n ^^^ pressN X (L.getD n 0)
theorem xrT_vs (X : Nat) (L : List Nat) (n : Nat) : Vs (xrT X L n) := by
  induction n with
  | zero => unfold xrT Vs; omega
  | succ n ih => exact ih.xor (pressN_vs _ _)
/-- the print of the presses Y by the stamp X -/
def printS (X Y : Nat) : Nat := xrT X (cellsL Y) (cellsL Y).length
theorem printS_vs (X Y : Nat) : Vs (printS X Y) := xrT_vs _ _ _
theorem xrT_append (X : Nat) (L M : List Nat) : ∀ n, n ≤ L.length → xrT X (L ++ M) n = xrT X L n
  | 0, _ => rfl
  | n + 1, h => by
      rw [xrT, xrT, xrT_append X L M n (by omega), List.getD_eq_getElem?_getD, List.getD_eq_getElem?_getD, List.getElem?_append_left (by omega)]
/-- sums by two -/
def xf (f : Nat → Bool) : Nat → Bool
  | 0 => false
  | n + 1 => xor (xf f n) (f n)
/-- the cell j less the cell c -/
def sbN (j c : Nat) : Nat := 6 * ((j / 6 + (6 - c / 6)) % 6) + (j % 6 + (6 - c % 6)) % 6
theorem press_bit (X c j : Nat) (hj : j < 36) : (pressN X c).testBit j = X.testBit (sbN j c) := by
  unfold pressN shiftN
  rw [testBit_mk, decide_eq_true hj, Bool.true_and]
  rfl
theorem xr_bit (X Y j : Nat) (hj : j < 36) : ∀ n, (xrT X (cellsN Y n) (cellsN Y n).length).testBit j = xf (fun c => Y.testBit c && X.testBit (sbN j c)) n
  | 0 => by simp [cellsN, xrT, xf]
  | n + 1 => by
      have ih := xr_bit X Y j hj n
      rw [xf, ← ih]
      by_cases h : Y.testBit n = true
      · have e : cellsN Y (n + 1) = cellsN Y n ++ [n] := by rw [cellsN, if_pos h]
        rw [e, List.length_append, h, Bool.true_and]
        show (xrT X (cellsN Y n ++ [n]) ((cellsN Y n).length + 1)).testBit j = _
        rw [xrT, Nat.testBit_xor, xrT_append X _ _ _ (Nat.le_refl _)]
        congr 1
        rw [List.getD_eq_getElem?_getD, List.getElem?_append_right (Nat.le_refl _), Nat.sub_self]
        exact press_bit X n j hj
      · have e : cellsN Y (n + 1) = cellsN Y n := by rw [cellsN, if_neg h]
        simp only [Bool.not_eq_true] at h
        rw [e, h, Bool.false_and, Bool.xor_false]
theorem print_bit (X Y j : Nat) (hj : j < 36) : (printS X Y).testBit j = xf (fun c => Y.testBit c && X.testBit (sbN j c)) 36 := xr_bit X Y j hj 36
theorem xf_count (f : Nat → Bool) : ∀ n, xf f n = decide ((List.range n).countP f % 2 = 1)
  | 0 => rfl
  | n + 1 => by
      rw [xf, xf_count f n, List.range_succ, List.countP_append, List.countP_singleton]
      cases f n
      · simp
      · simp only [if_true]
        by_cases h : (List.range n).countP f % 2 = 1
        · have h2 : ¬ ((List.range n).countP f + 1) % 2 = 1 := by omega
          simp [h, h2]
        · have h2 : ((List.range n).countP f + 1) % 2 = 1 := by omega
          simp [h, h2]
theorem xf_perm (f : Nat → Bool) (p : Nat → Nat) (n : Nat) (h : ((List.range n).map p).Perm (List.range n)) : xf f n = xf (fun c => f (p c)) n := by
  rw [xf_count, xf_count, ← h.countP_eq f, List.countP_map]
  rfl
theorem xf_congr (f g : Nat → Bool) : ∀ n, (∀ c, c < n → f c = g c) → xf f n = xf g n
  | 0, _ => rfl
  | n + 1, h => by rw [xf, xf, xf_congr f g n (fun c hc => h c (by omega)), h n (by omega)]
theorem xf_xor (f g : Nat → Bool) : ∀ n, xf (fun c => xor (f c) (g c)) n = xor (xf f n) (xf g n)
  | 0 => rfl
  | n + 1 => by
      rw [xf, xf, xf, xf_xor f g n]
      cases xf f n <;> cases xf g n <;> cases f n <;> cases g n <;> rfl
theorem sb_perm : ∀ j, j < 36 → ((List.range 36).map (sbN j)).isPerm (List.range 36) = true := by decide +kernel
theorem sb_sb : ∀ j, j < 36 → ∀ c, c < 36 → sbN j (sbN j c) = c := by decide +kernel
theorem sb_lt (j c : Nat) : sbN j c < 36 := by unfold sbN; omega
theorem print_comm (X Y : Nat) : printS X Y = printS Y X := by
  apply eq_of_cells (printS_vs X Y) (printS_vs Y X)
  intro j hj
  rw [print_bit X Y j hj, print_bit Y X j hj, xf_perm _ (sbN j) 36 (List.isPerm_iff.1 (sb_perm j hj))]
  apply xf_congr
  intro c hc
  rw [sb_sb j hj c hc, Bool.and_comm]
/-- powers of a stamp -/
def pwN (X : Nat) : Nat → Nat
  | 0 => 1
  | n + 1 => printS X (pwN X n)
theorem pwN_vs (X : Nat) : ∀ n, Vs (pwN X n)
  | 0 => by unfold pwN Vs; omega
  | n + 1 => printS_vs _ _
end Go.Proofs.YtgjgefbcfcomcaaGreatDoor
namespace Go.Proofs.YtgjgefbcfcomcaaGreatDoor

/-- the sums of some of a list -/
def Sp : List Nat → Nat → Prop
  | [], x => x = 0
  | v :: l, x => Sp l x ∨ Sp l (x ^^^ v)
def alls : List Nat → List Nat
  | [] => [0]
  | v :: l => alls l ++ (alls l).map (fun x => x ^^^ v)
theorem xx (a b : Nat) : a ^^^ b ^^^ b = a := by rw [Nat.xor_assoc, Nat.xor_self, Nat.xor_zero]
theorem xor_cancel {a b c : Nat} (h : a ^^^ c = b ^^^ c) : a = b := by rw [← xx a c, h, xx]
theorem xor_eq0 {a b : Nat} (h : a ^^^ b = 0) : a = b := by
  have := xx a b
  rw [h, Nat.zero_xor] at this
  exact this.symm
theorem mem_alls : ∀ (l : List Nat) (x : Nat), x ∈ alls l ↔ Sp l x
  | [], x => by simp [alls, Sp]
  | v :: l, x => by
    show x ∈ alls l ++ (alls l).map (fun x => x ^^^ v) ↔ Sp l x ∨ Sp l (x ^^^ v)
    rw [List.mem_append, List.mem_map, mem_alls l x]
    refine or_congr Iff.rfl ⟨?_, fun h => ⟨x ^^^ v, (mem_alls l _).2 h, xx x v⟩⟩
    rintro ⟨a, ha, rfl⟩
    rw [xx]
    exact (mem_alls l a).1 ha
theorem alls_len : ∀ l : List Nat, (alls l).length = 2 ^ l.length
  | [] => rfl
  | v :: l => by
    show (alls l ++ (alls l).map (fun x => x ^^^ v)).length = 2 ^ (l.length + 1)
    rw [List.length_append, List.length_map, alls_len l, Nat.pow_succ]; omega
theorem sp_zero : ∀ l : List Nat, Sp l 0
  | [] => rfl
  | _ :: l => .inl (sp_zero l)
theorem x4 (x y v : Nat) : x ^^^ y ^^^ v = x ^^^ (y ^^^ v) := Nat.xor_assoc _ _ _
theorem xr (x y v : Nat) : x ^^^ v ^^^ y = x ^^^ y ^^^ v := by rw [Nat.xor_assoc, Nat.xor_comm v y, Nat.xor_assoc]
theorem sp_xor : ∀ (l : List Nat) (x y : Nat), Sp l x → Sp l y → Sp l (x ^^^ y)
  | [], x, y, hx, hy => by
    have e : x = 0 := hx
    have f : y = 0 := hy
    subst e f
    rfl
  | v :: l, x, y, hx, hy => by
    rcases hx with hx | hx <;> rcases hy with hy | hy
    · exact .inl (sp_xor l x y hx hy)
    · exact .inr (by rw [x4]; exact sp_xor l x _ hx hy)
    · exact .inr (by rw [← xr]; exact sp_xor l _ y hx hy)
    · exact .inl (by have := sp_xor l _ _ hx hy; rw [← Nat.xor_assoc, xr x y v, xx] at this; exact this)
theorem sp_mem : ∀ (l : List Nat) (v : Nat), v ∈ l → Sp l v
  | [], v, h => by cases h
  | a :: l, v, h => by
    rcases List.mem_cons.1 h with rfl | h
    · exact .inr (by rw [Nat.xor_self]; exact sp_zero l)
    · exact .inl (sp_mem l v h)
theorem sp_sub : ∀ (l m : List Nat) (x : Nat), (∀ v, v ∈ l → Sp m v) → Sp l x → Sp m x
  | [], m, x, _, hx => by
    have e : x = 0 := hx
    subst e
    exact sp_zero m
  | v :: l, m, x, h, hx => by
    rcases hx with hx | hx
    · exact sp_sub l m x (fun u hu => h u (List.mem_cons_of_mem _ hu)) hx
    · have := sp_sub l m _ (fun u hu => h u (List.mem_cons_of_mem _ hu)) hx
      have := sp_xor m _ _ this (h v List.mem_cons_self)
      rw [xx] at this
      exact this
theorem sp_app : ∀ (a b : List Nat) (x : Nat), Sp (a ++ b) x ↔ ∃ y z, Sp a y ∧ Sp b z ∧ x = y ^^^ z
  | [], b, x => ⟨fun h => ⟨0, x, rfl, h, by rw [Nat.zero_xor]⟩, by rintro ⟨y, z, hy, hz, rfl⟩; have e : y = 0 := hy; subst e; rw [Nat.zero_xor]; exact hz⟩
  | v :: a, b, x => by
    show Sp (a ++ b) x ∨ Sp (a ++ b) (x ^^^ v) ↔ _
    rw [sp_app a b x, sp_app a b (x ^^^ v)]
    constructor
    · rintro (⟨y, z, hy, hz, rfl⟩ | ⟨y, z, hy, hz, e⟩)
      · exact ⟨y, z, .inl hy, hz, rfl⟩
      · refine ⟨y ^^^ v, z, .inr (by rw [xx]; exact hy), hz, ?_⟩
        rw [xr y z v, ← e, xx]
    · rintro ⟨y, z, hy | hy, hz, rfl⟩
      · exact .inl ⟨y, z, hy, hz, rfl⟩
      · exact .inr ⟨_, z, hy, hz, by rw [xr y z v]⟩

theorem nodup_len : ∀ (l m : List Nat), l.Nodup → (∀ x, x ∈ l → x ∈ m) → l.length ≤ m.length
  | [], m, _, _ => Nat.zero_le _
  | a :: l, m, hn, hs => by
    have ha := hs a List.mem_cons_self
    obtain ⟨h1, h2⟩ := List.nodup_cons.1 hn
    have := nodup_len l (m.erase a) h2 (fun x hx => (List.mem_erase_of_ne (fun e : x = a => h1 (by rw [← e]; exact hx))).2 (hs x (List.mem_cons_of_mem _ hx)))
    rw [List.length_erase_of_mem ha] at this
    have := List.length_pos_of_mem ha
    rw [List.length_cons]; omega
theorem nodup_of_len : ∀ (l m : List Nat), l.Nodup → (∀ x, x ∈ l → x ∈ m) → m.length ≤ l.length → m.Nodup
  | [], m, _, _, h => by
    have := List.eq_nil_of_length_eq_zero (Nat.le_zero.1 h)
    subst this
    exact List.nodup_nil
  | a :: l, m, hn, hs, h => by
    have ha := hs a List.mem_cons_self
    obtain ⟨h1, h2⟩ := List.nodup_cons.1 hn
    have hsub : ∀ x, x ∈ l → x ∈ m.erase a := fun x hx => (List.mem_erase_of_ne (fun e : x = a => h1 (by rw [← e]; exact hx))).2 (hs x (List.mem_cons_of_mem _ hx))
    have hl := List.length_erase_of_mem ha
    have hp := List.length_pos_of_mem ha
    rw [List.length_cons] at h
    have hd := nodup_of_len l (m.erase a) h2 hsub (by omega)
    refine (List.perm_cons_erase ha).nodup_iff.2 (List.nodup_cons.2 ⟨fun hm => ?_, hd⟩)
    have := nodup_len (a :: l) (m.erase a) hn (fun x hx => by rcases List.mem_cons.1 hx with rfl | hx; exact hm; exact hsub x hx)
    rw [List.length_cons] at this; omega

/-- independent: no sum comes twice -/
def Ind (l : List Nat) : Prop := (alls l).Nodup
theorem ind_nil : Ind [] := by unfold Ind alls; simp
theorem ind_cons (v : Nat) (l : List Nat) : Ind (v :: l) ↔ Ind l ∧ ¬ Sp l v := by
  unfold Ind
  show (alls l ++ (alls l).map (fun x => x ^^^ v)).Nodup ↔ _
  rw [List.nodup_append]
  constructor
  · rintro ⟨h1, _, h3⟩
    refine ⟨h1, fun hv => ?_⟩
    exact h3 v ((mem_alls l v).2 hv) v (List.mem_map.2 ⟨0, (mem_alls l 0).2 (sp_zero l), Nat.zero_xor v⟩) rfl
  · rintro ⟨h1, h2⟩
    refine ⟨h1, ?_, ?_⟩
    · exact List.pairwise_map.2 (h1.imp fun hab e => hab (xor_cancel e))
    · intro a ha b hb e
      subst e
      obtain ⟨c, hc, rfl⟩ := List.mem_map.1 hb
      have := sp_xor l _ _ ((mem_alls l _).1 ha) ((mem_alls l c).1 hc)
      rw [Nat.xor_comm c v, xx] at this
      exact h2 this
theorem ind_right : ∀ (a b : List Nat), Ind (a ++ b) → Ind b
  | [], _, h => h
  | _ :: a, b, h => ind_right a b ((ind_cons _ _).1 h).1
theorem alls_sub {l m : List Nat} (h : ∀ v, v ∈ l → Sp m v) (x : Nat) (hx : x ∈ alls l) : x ∈ alls m := (mem_alls m x).2 (sp_sub l m x h ((mem_alls l x).1 hx))
theorem ind_le {l m : List Nat} (hi : Ind l) (h : ∀ v, v ∈ l → Sp m v) : l.length ≤ m.length := by
  have := nodup_len _ _ hi (alls_sub h)
  rw [alls_len, alls_len] at this
  exact (Nat.pow_le_pow_iff_right (by omega)).1 this
theorem ind_of_len {l m : List Nat} (hi : Ind l) (h : ∀ v, v ∈ l → Sp m v) (hl : m.length ≤ l.length) : Ind m :=
  nodup_of_len _ _ hi (alls_sub h) (by rw [alls_len, alls_len]; exact Nat.pow_le_pow_right (by omega) hl)
theorem ind_len {l m : List Nat} (hl : Ind l) (hm : Ind m) (h : ∀ x, Sp l x ↔ Sp m x) : l.length = m.length :=
  Nat.le_antisymm (ind_le hl fun v hv => (h v).1 (sp_mem l v hv)) (ind_le hm fun v hv => (h v).2 (sp_mem m v hv))

/-- rows with a place each: a row has its place, later rows don't have it -/
def Tri : List (Nat × Nat) → Prop
  | [] => True
  | r :: R => r.1.testBit r.2 = true ∧ (∀ s, s ∈ R → s.1.testBit r.2 = false) ∧ Tri R
theorem sp_clear (k : Nat) : ∀ (l : List Nat) (x : Nat), (∀ v, v ∈ l → v.testBit k = false) → Sp l x → x.testBit k = false
  | [], x, _, hx => by
    have e : x = 0 := hx
    subst e
    exact Nat.zero_testBit k
  | v :: l, x, h, hx => by
    rcases hx with hx | hx
    · exact sp_clear k l x (fun u hu => h u (List.mem_cons_of_mem _ hu)) hx
    · have := sp_clear k l _ (fun u hu => h u (List.mem_cons_of_mem _ hu)) hx
      rw [Nat.testBit_xor, h v List.mem_cons_self, Bool.xor_false] at this
      exact this
theorem tri_ind : ∀ R : List (Nat × Nat), Tri R → Ind (R.map (·.1))
  | [], _ => ind_nil
  | r :: R, h => by
    obtain ⟨h1, h2, h3⟩ := h
    refine (ind_cons _ _).2 ⟨tri_ind R h3, fun hs => ?_⟩
    have := sp_clear r.2 _ _ (fun v hv => by obtain ⟨s, hs, rfl⟩ := List.mem_map.1 hv; exact h2 s hs) hs
    rw [h1] at this
    cases this
theorem tri_clear : ∀ (R : List (Nat × Nat)) (x : Nat), Tri R → Sp (R.map (·.1)) x → (∀ r, r ∈ R → x.testBit r.2 = false) → x = 0
  | [], _, _, hx, _ => hx
  | r :: R, x, h, hx, hc => by
    obtain ⟨h1, h2, h3⟩ := h
    rcases hx with hx | hx
    · exact tri_clear R x h3 hx fun s hs => hc s (List.mem_cons_of_mem _ hs)
    · have := sp_clear r.2 _ _ (fun v hv => by obtain ⟨s, hs, rfl⟩ := List.mem_map.1 hv; exact h2 s hs) hx
      rw [Nat.testBit_xor, h1, hc r List.mem_cons_self] at this
      cases this
theorem tri_app : ∀ (R : List (Nat × Nat)) (r : Nat × Nat), Tri R → r.1.testBit r.2 = true → (∀ s, s ∈ R → r.1.testBit s.2 = false) → Tri (R ++ [r])
  | [], r, _, h, _ => ⟨h, (fun s hs => by cases hs), trivial⟩
  | a :: R, r, h, hr, hc => by
    obtain ⟨h1, h2, h3⟩ := h
    refine ⟨h1, fun s hs => ?_, tri_app R r h3 hr fun s hs => hc s (List.mem_cons_of_mem _ hs)⟩
    rcases List.mem_append.1 hs with hs | hs
    · exact h2 s hs
    · rw [List.mem_singleton.1 hs]
      exact hc a List.mem_cons_self
/-- places of rows are different -/
theorem tri_nodup : ∀ R : List (Nat × Nat), Tri R → (R.map (·.2)).Nodup
  | [], _ => List.nodup_nil
  | r :: R, h => by
    obtain ⟨h1, h2, h3⟩ := h
    refine List.nodup_cons.2 ⟨fun hm => ?_, tri_nodup R h3⟩
    obtain ⟨s, hs, e⟩ := List.mem_map.1 hm
    have a := h2 s hs
    have b : s.1.testBit s.2 = true := by
      clear h1 h2 hm e a
      induction R with
      | nil => cases hs
      | cons t R ih =>
        obtain ⟨g1, _, g3⟩ := h3
        rcases List.mem_cons.1 hs with rfl | hs
        · exact g1
        · exact ih g3 hs
    have e' : s.2 = r.2 := e
    rw [← e', b] at a
    cases a

/-- goes with sums -/
def Lin (F : Nat → Nat) : Prop := ∀ a b, F (a ^^^ b) = F a ^^^ F b
theorem Lin.zero {F : Nat → Nat} (h : Lin F) : F 0 = 0 := by
  have := h 0 0
  rw [Nat.xor_self, Nat.xor_self] at this
  exact this
theorem Lin.sp {F : Nat → Nat} (h : Lin F) : ∀ (l : List Nat) (y : Nat), Sp l y → Sp (l.map F) (F y)
  | [], y, hy => by
    have e : y = 0 := hy
    subst e
    exact h.zero
  | v :: l, y, hy => by
    rcases hy with hy | hy
    · exact .inl (h.sp l y hy)
    · have := h.sp l _ hy
      rw [h] at this
      exact .inr this
theorem Lin.sp_inv {F : Nat → Nat} (h : Lin F) : ∀ (l : List Nat) (z : Nat), Sp (l.map F) z → ∃ y, Sp l y ∧ F y = z
  | [], z, hz => ⟨0, rfl, by have e : z = 0 := hz; rw [e]; exact h.zero⟩
  | v :: l, z, hz => by
    rcases hz with hz | hz
    · obtain ⟨y, h1, h2⟩ := h.sp_inv l z hz
      exact ⟨y, .inl h1, h2⟩
    · obtain ⟨y, h1, h2⟩ := h.sp_inv l _ hz
      exact ⟨y ^^^ v, .inr (by rw [xx]; exact h1), by rw [h, h2, xx]⟩
theorem Lin.inj {F : Nat → Nat} (h : Lin F) : ∀ (l : List Nat) (y : Nat), Ind (l.map F) → Sp l y → F y = 0 → y = 0
  | [], _, _, hy, _ => hy
  | v :: l, y, hi, hy, h0 => by
    obtain ⟨h1, h2⟩ := (ind_cons _ _).1 hi
    rcases hy with hy | hy
    · exact h.inj l y h1 hy h0
    · have := h.sp l _ hy
      rw [h, h0, Nat.zero_xor] at this
      exact absurd this h2
theorem Lin.quiet {F : Nat → Nat} (h : Lin F) : ∀ (l : List Nat) (z : Nat), (∀ v, v ∈ l → F v = 0) → Sp l z → F z = 0
  | [], z, _, hz => by
    have e : z = 0 := hz
    rw [e]
    exact h.zero
  | v :: l, z, hq, hz => by
    rcases hz with hz | hz
    · exact h.quiet l z (fun u hu => hq u (List.mem_cons_of_mem _ hu)) hz
    · have := h.quiet l _ (fun u hu => hq u (List.mem_cons_of_mem _ hu)) hz
      rw [h, hq v List.mem_cons_self, Nat.xor_zero] at this
      exact this

/-- rows of presses with places in their prints, and quiet presses, made of generators -/
structure Tabl (F : Nat → Nat) (G : List Nat) (R : List (Nat × Nat)) (L : List Nat) : Prop where
  tri : Tri (R.map fun r => (F r.1, r.2))
  quiet : ∀ l, l ∈ L → F l = 0
  sp : ∀ x, Sp (R.map (·.1) ++ L) x ↔ Sp G x
  len : R.length + L.length = G.length
theorem Tabl.ind {F : Nat → Nat} {G : List Nat} {R : List (Nat × Nat)} {L : List Nat} (h : Tabl F G R L) (hG : Ind G) : Ind L :=
  ind_right _ _ (ind_of_len hG (fun v hv => (h.sp v).2 (sp_mem G v hv)) (by rw [List.length_append, List.length_map, h.len]; exact Nat.le_refl _))
theorem map_map1 (F : Nat → Nat) (R : List (Nat × Nat)) : (R.map fun r => (F r.1, r.2)).map (·.1) = (R.map (·.1)).map F := by simp
theorem Tabl.ker {F : Nat → Nat} {G : List Nat} {R : List (Nat × Nat)} {L : List Nat} (h : Tabl F G R L) (hF : Lin F) (x : Nat) : Sp L x ↔ Sp G x ∧ F x = 0 := by
  constructor
  · intro hx
    refine ⟨(h.sp x).1 ((sp_app _ _ _).2 ⟨0, x, sp_zero _, hx, by rw [Nat.zero_xor]⟩), hF.quiet L x h.quiet hx⟩
  · rintro ⟨hx, h0⟩
    obtain ⟨y, z, hy, hz, rfl⟩ := (sp_app _ _ _).1 ((h.sp x).2 hx)
    rw [hF, hF.quiet L z h.quiet hz, Nat.xor_zero] at h0
    have := hF.inj _ y (by rw [← map_map1]; exact tri_ind _ h.tri) hy h0
    subst this
    rw [Nat.zero_xor]
    exact hz
/-- two tables of one map out of alike generators have as many quiet presses -/
theorem Tabl.same {F : Nat → Nat} {G G' : List Nat} {R R' : List (Nat × Nat)} {L L' : List Nat} (h : Tabl F G R L) (h' : Tabl F G' R' L') (hF : Lin F) (hG : Ind G) (hG' : Ind G') (hs : ∀ x, Sp G x ↔ Sp G' x) :
    L.length = L'.length ∧ ∀ x, Sp L x ↔ Sp L' x := by
  have hk : ∀ x, Sp L x ↔ Sp L' x := fun x => by rw [h.ker hF, h'.ker hF, hs]
  exact ⟨ind_len (h.ind hG) (h'.ind hG') hk, hk⟩
/-- what is left of a target: nothing, just if it is a print -/
theorem Tabl.can {F : Nat → Nat} {G : List Nat} {R : List (Nat × Nat)} {L : List Nat} (h : Tabl F G R L) (hF : Lin F) {t p q : Nat} (hp : p = t ^^^ F q) (hq : Sp (R.map (·.1)) q) (hc : ∀ r, r ∈ R → p.testBit r.2 = false) :
    p = 0 ↔ ∃ y, Sp G y ∧ F y = t := by
  have hqG : ∀ y, Sp (R.map (·.1)) y → Sp G y := fun y hy => (h.sp y).1 ((sp_app _ _ _).2 ⟨y, 0, hy, sp_zero _, by rw [Nat.xor_zero]⟩)
  constructor
  · intro h0
    rw [h0] at hp
    exact ⟨q, hqG q hq, (xor_eq0 hp.symm).symm⟩
  · rintro ⟨y, hy, rfl⟩
    obtain ⟨a, b, ha, hb, rfl⟩ := (sp_app _ _ _).1 ((h.sp y).2 hy)
    rw [hF, hF.quiet L b h.quiet hb, Nat.xor_zero, ← hF] at hp
    refine tri_clear _ p h.tri ?_ (fun r hr => ?_)
    · rw [map_map1, hp]
      exact hF.sp _ _ (sp_xor _ _ _ ha hq)
    · obtain ⟨s, hs, rfl⟩ := List.mem_map.1 hr
      exact hc s hs
theorem Tabl.start (F : Nat → Nat) : Tabl F [] [] [] := ⟨trivial, (fun l hl => by cases hl), fun x => Iff.rfl, rfl⟩
theorem sp_swap {A B : List Nat} (hA : ∀ v, v ∈ A → Sp B v) (hB : ∀ v, v ∈ B → Sp A v) (x : Nat) : Sp A x ↔ Sp B x := ⟨sp_sub _ _ _ hA, sp_sub _ _ _ hB⟩
theorem sp_left {a b : List Nat} {x : Nat} (h : Sp a x) : Sp (a ++ b) x := (sp_app _ _ _).2 ⟨x, 0, h, sp_zero _, by rw [Nat.xor_zero]⟩
theorem sp_right {a b : List Nat} {x : Nat} (h : Sp b x) : Sp (a ++ b) x := (sp_app _ _ _).2 ⟨0, x, sp_zero _, h, by rw [Nat.zero_xor]⟩
/-- new quiet presses -/
theorem Tabl.add0 {F : Nat → Nat} {G : List Nat} {R : List (Nat × Nat)} {L : List Nat} (h : Tabl F G R L) {x q : Nat} (hq : Sp (R.map (·.1)) (x ^^^ q)) (h0 : F q = 0) : Tabl F (G ++ [x]) R (L ++ [q]) := by
  refine ⟨h.tri, fun l hl => ?_, fun z => sp_swap (fun v hv => ?_) (fun v hv => ?_) z, by rw [List.length_append, List.length_append, ← h.len]; simp; omega⟩
  · rcases List.mem_append.1 hl with hl | hl
    · exact h.quiet l hl
    · rw [List.mem_singleton.1 hl]
      exact h0
  · rw [← List.append_assoc] at hv
    rcases List.mem_append.1 hv with hv | hv
    · exact sp_left ((h.sp v).1 (sp_mem _ v hv))
    · rw [List.mem_singleton.1 hv]
      have := sp_xor (G ++ [x]) _ _ (sp_left (b := [x]) ((h.sp _).1 (sp_left hq))) (sp_mem _ x (List.mem_append_right _ List.mem_cons_self))
      rw [xr, Nat.xor_self, Nat.zero_xor] at this
      exact this
  · rw [← List.append_assoc]
    rcases List.mem_append.1 hv with hv | hv
    · exact sp_left ((h.sp v).2 (sp_mem _ v hv))
    · rw [List.mem_singleton.1 hv]
      have := sp_xor (R.map (·.1) ++ L ++ [q]) _ _ (sp_left (b := [q]) (sp_left (b := L) hq)) (sp_mem _ q (List.mem_append_right _ List.mem_cons_self))
      rw [xx] at this
      exact this
/-- a row more -/
theorem Tabl.add1 {F : Nat → Nat} {G : List Nat} {R : List (Nat × Nat)} {L : List Nat} (h : Tabl F G R L) {x q k : Nat} (hq : Sp (R.map (·.1)) (x ^^^ q)) (hk : (F q).testBit k = true) (hc : ∀ r, r ∈ R → (F q).testBit r.2 = false) :
    Tabl F (G ++ [x]) (R ++ [(q, k)]) L := by
  refine ⟨?_, h.quiet, fun z => sp_swap (fun v hv => ?_) (fun v hv => ?_) z, by rw [List.length_append, List.length_append, ← h.len]; simp; omega⟩
  · rw [List.map_append]
    refine tri_app _ _ h.tri hk fun s hs => ?_
    obtain ⟨r, hr, rfl⟩ := List.mem_map.1 hs
    exact hc r hr
  · rw [List.map_append] at hv
    rcases List.mem_append.1 hv with hv | hv
    · rcases List.mem_append.1 hv with hv | hv
      · exact sp_left ((h.sp v).1 (sp_left (sp_mem _ v hv)))
      · rw [List.mem_singleton.1 hv]
        have := sp_xor (G ++ [x]) _ _ (sp_left (b := [x]) ((h.sp _).1 (sp_left hq))) (sp_mem _ x (List.mem_append_right _ List.mem_cons_self))
        rw [xr, Nat.xor_self, Nat.zero_xor] at this
        exact this
    · exact sp_left ((h.sp v).1 (sp_right (sp_mem _ v hv)))
  · rw [List.map_append]
    rcases List.mem_append.1 hv with hv | hv
    · obtain ⟨a, b, ha, hb, rfl⟩ := (sp_app _ _ _).1 ((h.sp v).2 (sp_mem _ v hv))
      exact sp_xor _ _ _ (sp_left (sp_left ha)) (sp_right hb)
    · rw [List.mem_singleton.1 hv]
      have := sp_xor (R.map (·.1) ++ [(q, k)].map (·.1) ++ L) _ _ (sp_left (sp_left hq)) (sp_left (sp_right (sp_mem _ q List.mem_cons_self)))
      rw [xx] at this
      exact this
/-- a row more, added to some others -/
theorem Tabl.add2 {F : Nat → Nat} (hF : Lin F) {G : List Nat} {R : List (Nat × Nat)} {L : List Nat} (h : Tabl F G R L) {x q k : Nat} (hq : Sp (R.map (·.1)) (x ^^^ q)) (hk : (F q).testBit k = true) (hc : ∀ r, r ∈ R → (F q).testBit r.2 = false)
    (f : Nat × Nat → Bool) : Tabl F (G ++ [x]) ((R.map fun r => (if f r = true then r.1 ^^^ q else r.1, r.2)) ++ [(q, k)]) L := by
  have h1 := h.add1 hq hk hc
  refine ⟨?_, h.quiet, fun z => ?_, by have := h1.len; simpa using this⟩
  · have ht := h.tri
    rw [List.map_append]
    refine tri_app _ _ ?_ hk fun s hs => ?_
    · clear h h1 hq
      induction R with
      | nil => trivial
      | cons a R ih =>
        obtain ⟨g1, g2, g3⟩ := ht
        have ca := hc a List.mem_cons_self
        refine ⟨?_, fun s hs => ?_, ih (fun r hr => hc r (List.mem_cons_of_mem _ hr)) g3⟩
        · show (F (if f a = true then a.1 ^^^ q else a.1)).testBit a.2 = true
          split
          · rw [hF, Nat.testBit_xor, ca, Bool.xor_false]; exact g1
          · exact g1
        · obtain ⟨t, ht, rfl⟩ := List.mem_map.1 hs
          obtain ⟨r, hr, rfl⟩ := List.mem_map.1 ht
          have gr := g2 _ (List.mem_map.2 ⟨r, hr, rfl⟩)
          show (F (if f r = true then r.1 ^^^ q else r.1)).testBit a.2 = false
          split
          · rw [hF, Nat.testBit_xor, ca, Bool.xor_false]; exact gr
          · exact gr
    · obtain ⟨t, ht, rfl⟩ := List.mem_map.1 hs
      obtain ⟨r, hr, rfl⟩ := List.mem_map.1 ht
      exact hc r hr
  · rw [← h1.sp z]
    have hin : ∀ r, r ∈ R → Sp ((R ++ [(q, k)]).map (·.1) ++ L) r.1 := fun r hr => sp_mem _ _ (List.mem_append_left _ (List.mem_map.2 ⟨r, List.mem_append_left _ hr, rfl⟩))
    have hinq : Sp ((R ++ [(q, k)]).map (·.1) ++ L) q := sp_mem _ _ (List.mem_append_left _ (List.mem_map.2 ⟨(q, k), List.mem_append_right _ List.mem_cons_self, rfl⟩))
    refine sp_swap (fun v hv => ?_) (fun v hv => ?_) z
    · rcases List.mem_append.1 hv with hv | hv
      · obtain ⟨t, ht, rfl⟩ := List.mem_map.1 hv
        rcases List.mem_append.1 ht with ht | ht
        · obtain ⟨r, hr, rfl⟩ := List.mem_map.1 ht
          show Sp _ (if f r = true then r.1 ^^^ q else r.1)
          split
          · exact sp_xor _ _ _ (hin r hr) hinq
          · exact hin r hr
        · rw [List.mem_singleton.1 ht]
          exact hinq
      · exact sp_right (sp_mem _ v hv)
    · rcases List.mem_append.1 hv with hv | hv
      · obtain ⟨t, ht, rfl⟩ := List.mem_map.1 hv
        have hq2 : Sp (((R.map fun r => (if f r = true then r.1 ^^^ q else r.1, r.2)) ++ [(q, k)]).map (·.1) ++ L) q := sp_mem _ _ (List.mem_append_left _ (List.mem_map.2 ⟨(q, k), List.mem_append_right _ List.mem_cons_self, rfl⟩))
        rcases List.mem_append.1 ht with ht | ht
        · have hm := sp_mem (((R.map fun r => (if f r = true then r.1 ^^^ q else r.1, r.2)) ++ [(q, k)]).map (·.1) ++ L) (if f t = true then t.1 ^^^ q else t.1) (List.mem_append_left _ (List.mem_map.2 ⟨_, List.mem_append_left _ (List.mem_map.2 ⟨t, ht, rfl⟩), rfl⟩))
          split at hm
          · have := sp_xor _ _ _ hm hq2
            rw [xx] at this
            exact this
          · exact hm
        · rw [List.mem_singleton.1 ht]
          exact hq2
      · exact sp_right (sp_mem _ v hv)
end Go.Proofs.YtgjgefbcfcomcaaGreatDoor
namespace Go.Proofs.YtgjgefbcfcomcaaGreatDoor

theorem print_lin (X : Nat) : Lin (printS X) := fun a b => by
  refine eq_of_cells (printS_vs _ _) ((printS_vs _ _).xor (printS_vs _ _)) fun j hj => ?_
  rw [Nat.testBit_xor, print_bit X _ j hj, print_bit X a j hj, print_bit X b j hj, ← xf_xor]
  refine xf_congr _ _ 36 fun c _ => ?_
  rw [Nat.testBit_xor]
  cases a.testBit c <;> cases b.testBit c <;> cases X.testBit (sbN j c) <;> rfl
/-- the first single presses -/
def sgl (n : Nat) : List Nat := (List.range n).map (2 ^ ·)
theorem sgl_succ (n : Nat) : sgl (n + 1) = sgl n ++ [2 ^ n] := by unfold sgl; rw [List.range_succ, List.map_append]; rfl
theorem sgl_len (n : Nat) : (sgl n).length = n := by unfold sgl; simp
theorem pow_bit (i j : Nat) : (2 ^ i).testBit j = decide (i = j) := Nat.testBit_two_pow
theorem sgl_tri : ∀ n, Tri ((List.range n).map fun i => (2 ^ i, i))
  | 0 => trivial
  | n + 1 => by
    rw [List.range_succ, List.map_append]
    refine tri_app _ _ (sgl_tri n) (by show (2 ^ n).testBit n = true; rw [pow_bit]; simp) fun s hs => ?_
    obtain ⟨i, hi, rfl⟩ := List.mem_map.1 hs
    have := List.mem_range.1 hi
    show (2 ^ n).testBit i = false
    rw [pow_bit, decide_eq_false (by omega)]
theorem sgl_ind (n : Nat) : Ind (sgl n) := by
  have := tri_ind _ (sgl_tri n)
  rw [List.map_map] at this
  exact this
theorem sp_lt (n : Nat) : ∀ (l : List Nat) (x : Nat), (∀ v, v ∈ l → v < 2 ^ n) → Sp l x → x < 2 ^ n
  | [], x, _, hx => by
    have e : x = 0 := hx
    rw [e]
    exact Nat.two_pow_pos n
  | v :: l, x, h, hx => by
    rcases hx with hx | hx
    · exact sp_lt n l x (fun u hu => h u (List.mem_cons_of_mem _ hu)) hx
    · have := Nat.xor_lt_two_pow (sp_lt n l _ (fun u hu => h u (List.mem_cons_of_mem _ hu)) hx) (h v List.mem_cons_self)
      rw [xx] at this
      exact this
theorem sp_sgl : ∀ (n x : Nat), Sp (sgl n) x ↔ x < 2 ^ n
  | 0, x => by show x = 0 ↔ x < 1; omega
  | n + 1, x => by
    constructor
    · refine sp_lt (n + 1) _ x fun v hv => ?_
      obtain ⟨i, hi, rfl⟩ := List.mem_map.1 hv
      exact Nat.pow_lt_pow_right (by omega) (List.mem_range.1 hi)
    · intro hx
      rw [sgl_succ]
      by_cases hb : x.testBit n = true
      · refine (sp_app _ _ _).2 ⟨x ^^^ 2 ^ n, 2 ^ n, (sp_sgl n _).2 (lt_of_bits _ _ fun j hj => ?_), .inr (by rw [Nat.xor_self]; rfl), by rw [xx]⟩
        rw [Nat.testBit_xor, pow_bit]
        by_cases e : n = j
        · subst e
          rw [hb]; simp
        · rw [Nat.testBit_lt_two_pow (Nat.lt_of_lt_of_le hx (Nat.pow_le_pow_right (by omega) (by omega))), decide_eq_false e]; rfl
      · refine sp_left ((sp_sgl n x).2 (lt_of_bits _ _ fun j hj => ?_))
        by_cases e : n = j
        · subst e
          exact Bool.eq_false_iff.2 hb
        · exact Nat.testBit_lt_two_pow (Nat.lt_of_lt_of_le hx (Nat.pow_le_pow_right (by omega) (by omega)))
theorem lin_ext {G H : Nat → Nat} (hG : Lin G) (hH : Lin H) : ∀ (l : List Nat) (x : Nat), (∀ v, v ∈ l → G v = H v) → Sp l x → G x = H x
  | [], x, _, hx => by
    have e : x = 0 := hx
    rw [e, hG.zero, hH.zero]
  | v :: l, x, h, hx => by
    rcases hx with hx | hx
    · exact lin_ext hG hH l x (fun u hu => h u (List.mem_cons_of_mem _ hu)) hx
    · have := lin_ext hG hH l _ (fun u hu => h u (List.mem_cons_of_mem _ hu)) hx
      rw [hG, hH, h v List.mem_cons_self] at this
      exact xor_cancel this
theorem lin_cells {G H : Nat → Nat} (hG : Lin G) (hH : Lin H) (h : ∀ c, c < 36 → G (2 ^ c) = H (2 ^ c)) (x : Nat) (hx : Vs x) : G x = H x :=
  lin_ext hG hH (sgl 36) x (fun v hv => by obtain ⟨i, hi, rfl⟩ := List.mem_map.1 hv; exact h i (List.mem_range.1 hi)) ((sp_sgl 36 x).2 hx)
/-- the cell a and b together -/
def adN (a b : Nat) : Nat := 6 * ((a / 6 + b / 6) % 6) + (a % 6 + b % 6) % 6
theorem ad_lt (a b : Nat) : adN a b < 36 := by unfold adN; omega
theorem ad_div (a b : Nat) : adN a b / 6 = (a / 6 + b / 6) % 6 := by unfold adN; omega
theorem ad_mod (a b : Nat) : adN a b % 6 = (a % 6 + b % 6) % 6 := by unfold adN; omega
theorem ad_assoc (a b c : Nat) : adN a (adN b c) = adN (adN a b) c := by
  have h1 := ad_div b c
  have h2 := ad_mod b c
  have h3 := ad_div a b
  have h4 := ad_mod a b
  unfold adN at *
  rw [h1, h2, h3, h4]
  omega
theorem print_cells : ∀ a, a < 36 → ∀ b, b < 36 → printS (2 ^ a) (2 ^ b) = 2 ^ adN a b := by decide +kernel
theorem print_assoc (X Y Z : Nat) (hX : Vs X) (hY : Vs Y) (hZ : Vs Z) : printS X (printS Y Z) = printS (printS X Y) Z := by
  have lL : ∀ Z, Lin fun X => printS X Z := fun Z a b => by
    show printS (a ^^^ b) Z = printS a Z ^^^ printS b Z
    rw [print_comm, print_lin, print_comm Z a, print_comm Z b]
  have c1 : ∀ a, a < 36 → ∀ b, b < 36 → ∀ c, c < 36 → printS (2 ^ a) (printS (2 ^ b) (2 ^ c)) = printS (printS (2 ^ a) (2 ^ b)) (2 ^ c) := by
    intro a ha b hb c hc
    rw [print_cells b hb c hc, print_cells a ha b hb, print_cells a ha _ (ad_lt _ _), print_cells _ (ad_lt _ _) c hc, ad_assoc]
  have c2 : ∀ a, a < 36 → ∀ b, b < 36 → printS (2 ^ a) (printS (2 ^ b) Z) = printS (printS (2 ^ a) (2 ^ b)) Z := by
    intro a ha b hb
    refine lin_cells (G := fun Z => printS (2 ^ a) (printS (2 ^ b) Z)) (H := fun Z => printS (printS (2 ^ a) (2 ^ b)) Z) (fun p q => ?_) (print_lin _) (fun c hc => c1 a ha b hb c hc) Z hZ
    show printS _ (printS _ (p ^^^ q)) = _
    rw [print_lin, print_lin]
  have c3 : ∀ a, a < 36 → printS (2 ^ a) (printS Y Z) = printS (printS (2 ^ a) Y) Z := by
    intro a ha
    refine lin_cells (G := fun Y => printS (2 ^ a) (printS Y Z)) (H := fun Y => printS (printS (2 ^ a) Y) Z) (fun p q => ?_) (fun p q => ?_) (fun b hb => c2 a ha b hb) Y hY
    · have := lL Z p q
      show printS _ (printS (p ^^^ q) Z) = _
      rw [show printS (p ^^^ q) Z = printS p Z ^^^ printS q Z from this, print_lin]
    · have := lL Z (printS (2 ^ a) p) (printS (2 ^ a) q)
      show printS (printS _ (p ^^^ q)) Z = _
      rw [print_lin]
      exact this
  refine lin_cells (G := fun X => printS X (printS Y Z)) (H := fun X => printS (printS X Y) Z) (lL _) (fun p q => ?_) c3 X hX
  have h1 : printS (p ^^^ q) Y = printS p Y ^^^ printS q Y := lL Y p q
  show printS (printS (p ^^^ q) Y) Z = _
  rw [h1]
  exact lL Z _ _
theorem sq_lin : Lin fun X => printS X X := fun a b => by
  show printS (a ^^^ b) (a ^^^ b) = printS a a ^^^ printS b b
  rw [print_lin, print_comm _ a, print_comm _ b, print_lin, print_lin, print_comm b a, ← Nat.xor_assoc, xx]
theorem ad8 : ∀ c, c < 36 → adN (adN (adN c c) (adN c c)) (adN (adN c c) (adN c c)) = adN c c := by decide +kernel
theorem sq_sq (X : Nat) (hX : Vs X) : printS (printS (printS X X) (printS X X)) (printS (printS X X) (printS X X)) |> fun Y => Y = printS X X := by
  show printS (printS (printS X X) (printS X X)) (printS (printS X X) (printS X X)) = printS X X
  refine lin_cells (G := fun X => printS (printS (printS X X) (printS X X)) (printS (printS X X) (printS X X))) (H := fun X => printS X X) (fun a b => ?_) sq_lin (fun c hc => ?_) X hX
  · have h1 : printS (a ^^^ b) (a ^^^ b) = printS a a ^^^ printS b b := sq_lin a b
    have h2 : ∀ p q, printS (p ^^^ q) (p ^^^ q) = printS p p ^^^ printS q q := fun p q => sq_lin p q
    show printS (printS (printS (a ^^^ b) (a ^^^ b)) (printS (a ^^^ b) (a ^^^ b))) (printS (printS (a ^^^ b) (a ^^^ b)) (printS (a ^^^ b) (a ^^^ b))) = _
    rw [h1, h2, h2]
  · show printS (printS (printS (2 ^ c) (2 ^ c)) (printS (2 ^ c) (2 ^ c))) (printS (printS (2 ^ c) (2 ^ c)) (printS (2 ^ c) (2 ^ c))) = printS (2 ^ c) (2 ^ c)
    rw [print_cells c hc c hc, print_cells _ (ad_lt _ _) _ (ad_lt _ _), print_cells _ (ad_lt _ _) _ (ad_lt _ _)]
    rw [ad8 c hc]
theorem vs_one : Vs 1 := by unfold Vs; omega
theorem print_one (X : Nat) (hX : Vs X) : printS 1 X = X := by
  refine lin_cells (G := fun X => printS 1 X) (H := fun X => X) (print_lin 1) (fun _ _ => rfl) (fun c hc => ?_) X hX
  have := print_cells 0 (by omega) c hc
  rw [show (2 : Nat) ^ 0 = 1 from rfl] at this
  show printS 1 (2 ^ c) = 2 ^ c
  rw [this]
  congr 1
  unfold adN
  omega
theorem pw_add (X : Nat) (hX : Vs X) (n : Nat) : ∀ m, pwN X (m + n) = printS (pwN X m) (pwN X n)
  | 0 => by rw [Nat.zero_add]; exact (print_one _ (pwN_vs X n)).symm
  | m + 1 => by
    rw [show m + 1 + n = m + n + 1 by omega]
    show printS X (pwN X (m + n)) = printS (printS X (pwN X m)) (pwN X n)
    rw [pw_add X hX n m, print_assoc X _ _ hX (pwN_vs _ _) (pwN_vs _ _)]
theorem pw_one (X : Nat) (hX : Vs X) : pwN X 1 = X := by
  show printS X 1 = X
  rw [print_comm, print_one X hX]
/-- the sixth power of a stamp without kernel is the unit -/
theorem pw_six (X : Nat) (hX : Vs X) (hk : ∀ y, Vs y → printS X y = 0 → y = 0) : pwN X 6 = 1 := by
  have h2 : pwN X 2 = printS X X := by have := pw_add X hX 1 1; rw [pw_one X hX] at this; exact this
  have h4 : pwN X 4 = printS (printS X X) (printS X X) := by have := pw_add X hX 2 2; rw [h2] at this; exact this
  have h8 : pwN X 8 = printS (printS (printS X X) (printS X X)) (printS (printS X X) (printS X X)) := by have := pw_add X hX 4 4; rw [h4] at this; exact this
  have e : pwN X 8 = pwN X 2 := by rw [h8, h2]; exact sq_sq X hX
  have inj : ∀ a b, Vs a → Vs b → printS X a = printS X b → a = b := fun a b ha hb h => by
    refine xor_eq0 (hk _ (ha.xor hb) ?_)
    rw [print_lin, h, Nat.xor_self]
  have e1 : pwN X 7 = pwN X 1 := inj _ _ (pwN_vs _ _) (pwN_vs _ _) e
  exact inj _ _ (pwN_vs _ _) vs_one e1
theorem pw_inv (X : Nat) (hX : Vs X) (n : Nat) (h : pwN X (n + 1) = 1) (y : Nat) (hy : Vs y) (h0 : printS X y = 0) : y = 0 := by
  have h1 : printS (pwN X (n + 1)) y = y := by rw [h]; exact print_one y hy
  rw [pw_add X hX 1 n, ← print_assoc _ _ _ (pwN_vs _ _) (pwN_vs _ _) hy, pw_one X hX, h0, print_comm] at h1
  rw [← h1, print_comm]
  exact (print_lin _).zero
end Go.Proofs.YtgjgefbcfcomcaaGreatDoor
namespace Go.Proofs.YtgjgefbcfcomcaaGreatDoor

/-- the best of r 0 .. r (n - 1) by a number, the first one of these: its index -/
def amN (r : Nat → Nat) : Nat → Nat
  | 0 => 0
  | n + 1 => if r n < r (amN r n) then n else amN r n
theorem amN_one (r : Nat → Nat) : amN r 1 = 0 := by simp [amN]
theorem amN_lt (r : Nat → Nat) : ∀ n, 0 < n → amN r n < n
  | 0, h => by omega
  | n + 1, _ => by
      unfold amN
      split
      · omega
      · by_cases h : 0 < n
        · have := amN_lt r n h; omega
        · have e : n = 0 := by omega
          subst e; simp [amN]
theorem amN_le (r : Nat → Nat) : ∀ n i, i < n → r (amN r n) ≤ r i
  | 0, i, h => by omega
  | n + 1, i, h => by
      unfold amN
      by_cases e : i = n
      · subst e
        split
        · omega
        · omega
      · have h1 := amN_le r n i (by omega)
        split
        · omega
        · exact h1
theorem amN_first (r : Nat → Nat) : ∀ n i, i < amN r n → r (amN r n) < r i
  | 0, i, h => by simp [amN] at h
  | n + 1, i, h => by
      unfold amN at h ⊢
      split at h
      · rename_i hlt
        rw [if_pos hlt]
        have := amN_le r n i h
        omega
      · rename_i hlt
        rw [if_neg hlt]
        exact amN_first r n i h
/-- the first best is one -/
theorem amN_uniq (r : Nat → Nat) (n a : Nat) (ha : a < n) (h1 : ∀ i, i < n → r a ≤ r i) (h2 : ∀ i, i < a → r a < r i) : amN r n = a := by
  have b1 := amN_lt r n (by omega)
  have b2 := amN_le r n a ha
  have b3 := h1 _ b1
  by_cases c : a < amN r n
  · have := amN_first r n a c; omega
  · by_cases d : amN r n < a
    · have := h2 _ d; omega
    · omega
/-- two ways through the same things meet the same best -/
theorem amN_same (r s : Nat → Nat) (n : Nat) (hn : 0 < n) (p q : Nat → Nat) (hp : ∀ i, i < n → p i < n ∧ r (p i) = s i) (hq : ∀ i, i < n → q i < n ∧ s (q i) = r i) : r (amN r n) = s (amN s n) := by
  have b1 := amN_lt r n hn
  have b2 := amN_lt s n hn
  have b3 := amN_le r n _ (hp _ b2).1
  have b4 := amN_le s n _ (hq _ b1).1
  rw [(hp _ b2).2] at b3
  rw [(hq _ b1).2] at b4
  omega
/-- blocks of m: the best block's best -/
def blN (r : Nat → Nat) (m : Nat) : Nat → Nat
  | 0 => 0
  | k + 1 => if r (m * k + amN (fun i => r (m * k + i)) m) < r (blN r m k) then m * k + amN (fun i => r (m * k + i)) m else blN r m k
theorem blN_eq (r : Nat → Nat) (m : Nat) (hm : 0 < m) : ∀ k, 0 < k → blN r m k = amN r (m * k)
  | 0, h => by omega
  | k + 1, _ => by
      have a1 := amN_lt (fun i => r (m * k + i)) m hm
      have a2 := amN_le (fun i => r (m * k + i)) m
      have a3 := amN_first (fun i => r (m * k + i)) m
      try dsimp only at a2 a3
      have e1 : m * (k + 1) = m * k + m := Nat.mul_succ m k
      symm
      by_cases h : 0 < k
      · have ih := blN_eq r m hm k h
        have hmk : 0 < m * k := Nat.mul_pos hm h
        have b1 := amN_lt r (m * k) hmk
        have b2 := amN_le r (m * k)
        have b3 := amN_first r (m * k)
        unfold blN
        rw [ih]
        generalize amN (fun i => r (m * k + i)) m = a at *
        generalize amN r (m * k) = b at *
        split
        · rename_i hlt
          apply amN_uniq r
          · omega
          · intro i hi
            by_cases c : i < m * k
            · have := b2 i c; omega
            · have := a2 (i - m * k) (by omega)
              rw [show m * k + (i - m * k) = i by omega] at this
              exact this
          · intro i hi
            by_cases c : i < m * k
            · have := b2 i c; omega
            · have := a3 (i - m * k) (by omega)
              rw [show m * k + (i - m * k) = i by omega] at this
              exact this
        · rename_i hlt
          apply amN_uniq r
          · omega
          · intro i hi
            by_cases c : i < m * k
            · exact b2 i c
            · have := a2 (i - m * k) (by omega)
              rw [show m * k + (i - m * k) = i by omega] at this
              omega
          · exact b3
      · have e : k = 0 := by omega
        subst e
        unfold blN
        simp only [Nat.mul_zero, Nat.zero_add, blN] at *
        split
        · apply amN_uniq r
          · omega
          · intro i hi; exact a2 i (by omega)
          · intro i hi; exact a3 i hi
        · rename_i hlt
          apply amN_uniq r
          · omega
          · intro i hi
            have h1 := a2 i (by omega)
            have h0 := a2 0 hm
            omega
          · intro i hi; omega
end Go.Proofs.YtgjgefbcfcomcaaGreatDoor
