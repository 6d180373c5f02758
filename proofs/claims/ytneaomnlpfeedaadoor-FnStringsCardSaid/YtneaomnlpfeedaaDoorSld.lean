/-
  FnStrings: what the draws answer; what is sealed is verified, and a changed byte is told. No conditions.
-/
import Derived.Test.YtneaomnlpfeedaaDoorSlc
import Derived.Test.YtneaomnlpfeedaaDoorSk
namespace Go.Proofs.YtneaomnlpfeedaaDoor.Pure
open Go.RowKit Go.Proofs.YtneaomnlpfeedaaDoor.PFnStrings Go.Proofs.YtneaomnlpfeedaaDoorW.PrintWords Go.Proofs.YtneaomnlpfeedaaDoorW.PrintLast
set_option linter.unusedVariables false
set_option linter.unusedSimpArgs false

theorem and255 (x : Int) : 0 ≤ wrap64 (bits .and .u64 x 255) ∧ wrap64 (bits .and .u64 x 255) ≤ 255 := by
  have h : bits .and .u64 x 255 = IntKind.u64.wrap (((BitVec.ofInt 64 x &&& BitVec.ofInt 64 255).toNat : Nat) : Int) := rfl
  have h2 : (BitVec.ofInt 64 x &&& BitVec.ofInt 64 255).toNat ≤ 255 := by
    rw [BitVec.toNat_and]
    exact Nat.and_le_right
  generalize (BitVec.ofInt 64 x &&& BitVec.ofInt 64 255).toNat = y at *
  have h3 : IntKind.u64.wrap ((y : Nat) : Int) = (y : Int) := by
    simp only [IntKind.wrap, IntKind.bits, IntKind.signed, Bool.false_and, Bool.false_eq_true, if_false]
    omega
  rw [h, h3]
  unfold wrap64
  omega
/-- all bytes of a code -/
def Wf (l : List Int) : Prop := ∀ x, x ∈ l → 0 ≤ x ∧ x ≤ 255
theorem wf_of (l0 : List Int) (h : ∀ x ∈ l0, (Lit.int .u8 x).wf = true) : Wf l0 := fun x hx => by
  have hb : IntKind.u8.min ≤ x ∧ x ≤ IntKind.u8.max := by simpa [Lit.wf] using h x hx
  simpa [IntKind.min, IntKind.max, IntKind.signed, IntKind.bits] using hb
theorem rd_wf (l : List Int) (h : Wf l) (i : Int) : 0 ≤ rd l i ∧ rd l i ≤ 255 := by
  unfold rd
  rw [List.getD_eq_getElem?_getD]
  cases hx : l[i.toNat]? with
  | none => simp
  | some x => exact h x (List.mem_of_getElem? hx)
theorem next_ok (l : List Int) (hl : Wf l) (a s : Int) (h0 : 0 ≤ a) (h1 : a ≤ 1000000) : ∃ b s', spec_l1Cur_next.f l a s = some (b, a + 1, s') ∧ 0 ≤ b ∧ b ≤ 255 := by
  have hw : wrap64 (a + 1) = a + 1 := by unfold wrap64; omega
  have hr := rd_wf l hl a
  have hwr : wrap64 (rd l a) = rd l a := by unfold wrap64; omega
  unfold spec_l1Cur_next.f
  rw [hw]
  split
  · try rw [if_pos h0]
    split
    · exact ⟨_, _, rfl, by rw [hwr]; exact hr⟩
    · exact ⟨_, _, rfl, and255 _⟩
  · split
    · exact ⟨_, _, rfl, by omega⟩
    · exact ⟨_, _, rfl, and255 _⟩
theorem pick_ok (l : List Int) (hl : Wf l) (a s n : Int) (h0 : 0 ≤ a) (h1 : a ≤ 1000000) (hn : 2 ≤ n) (hn2 : n ≤ 200) : ∃ b s', spec_l1Cur_pick.f l a s n = some (b, a + 1, s') ∧ 0 ≤ b ∧ b < n := by
  obtain ⟨b, s', e, hb, _⟩ := next_ok l hl a s h0 h1
  unfold spec_l1Cur_pick.f
  rw [if_neg (by omega), e]
  simp only [Option.bind_some]
  rw [if_neg (by omega), if_neg (by omega)]
  exact ⟨_, _, rfl, by rw [Int.tmod_eq_emod_of_nonneg hb]; exact ⟨Int.emod_nonneg _ (by omega), Int.emod_lt_of_pos _ (by omega)⟩⟩
theorem pick_big (l : List Int) (hl : Wf l) (a s n : Int) (h0 : 0 ≤ a) (h1 : a ≤ 100000) (hn : 200 < n) : ∃ b s', spec_l1Cur_pick.f l a s n = some (b, a + 1 + 1, s') ∧ 0 ≤ b ∧ b < n := by
  obtain ⟨b, s', e, hb, hb2⟩ := next_ok l hl a s h0 (by omega)
  obtain ⟨c, s2, e2, hc, hc2⟩ := next_ok l hl (a + 1) s' (by omega) (by omega)
  have hw : wrap64 (wrap64 (b * 256) + c) = b * 256 + c := by unfold wrap64; omega
  unfold spec_l1Cur_pick.f
  rw [if_neg (by omega), e]
  simp only [Option.bind_some]
  rw [if_pos (by omega), e2]
  simp only [Option.bind_some]
  rw [if_neg (by omega), hw]
  exact ⟨_, _, rfl, by rw [Int.tmod_eq_emod_of_nonneg (by omega)]; exact ⟨Int.emod_nonneg _ (by omega), Int.emod_lt_of_pos _ (by omega)⟩⟩
theorem of_ok (l : List Int) (hl : Wf l) (a s : Int) (h0 : 0 ≤ a) (h1 : a ≤ 1000000) (L : List ByteArray) (hL : 2 ≤ L.length) (hL2 : L.length ≤ 200) : ∃ t s', spec_l1Cur_of.f l a s L = some (t, a + 1, s') ∧ t ∈ L := by
  obtain ⟨b, s', e, hb, hb2⟩ := pick_ok l hl a s (L.length : Int) h0 h1 (by omega) (by omega)
  unfold spec_l1Cur_of.f
  rw [e]
  simp only [Option.bind_some]
  rw [if_pos hb, if_pos hb2]
  refine ⟨_, _, rfl, ?_⟩
  unfold rdOf
  rw [List.getD_eq_getElem?_getD, List.getElem?_eq_getElem (by omega)]
  exact List.getElem_mem _
theorem among_ok (l : List Int) (hl : Wf l) (a s : Int) (h0 : 0 ≤ a) (h1 : a ≤ 1000000) (L : List Int) (hL : 2 ≤ L.length) (hL2 : L.length ≤ 200) : ∃ t s', spec_l1Cur_among.f l a s L = some (t, a + 1, s') ∧ t ∈ L := by
  obtain ⟨b, s', e, hb, hb2⟩ := pick_ok l hl a s (L.length : Int) h0 h1 (by omega) (by omega)
  unfold spec_l1Cur_among.f
  rw [e]
  simp only [Option.bind_some]
  rw [if_pos hb, if_pos hb2]
  refine ⟨_, _, rfl, ?_⟩
  unfold rd
  rw [List.getD_eq_getElem?_getD, List.getElem?_eq_getElem (by omega)]
  exact List.getElem_mem _
def anyL : List ByteArray := [(⟨#[]⟩ : ByteArray), (⟨#[97]⟩ : ByteArray), (⟨#[97, 44, 98]⟩ : ByteArray), (⟨#[115, 111, 109, 101, 32, 119, 111, 114, 100, 115]⟩ : ByteArray), (⟨#[120, 35, 121]⟩ : ByteArray), (⟨#[45, 49, 50]⟩ : ByteArray), (⟨#[0, 255]⟩ : ByteArray), (⟨#[44, 44]⟩ : ByteArray), (⟨#[48]⟩ : ByteArray)]
theorem any_ok (l : List Int) (hl : Wf l) (a s : Int) (h0 : 0 ≤ a) (h1 : a ≤ 1000000) : ∃ t s', spec_l1Cur_any1.f l a s = some (t, a + 1, s') ∧ t ∈ anyL := by
  obtain ⟨t, s', e, ht⟩ := of_ok l hl a s h0 h1 anyL (by decide) (by decide)
  unfold spec_l1Cur_any1.f
  have e' : spec_l1Cur_of.f l a s [(⟨#[]⟩ : ByteArray), (⟨#[97]⟩ : ByteArray), (⟨#[97, 44, 98]⟩ : ByteArray), (⟨#[115, 111, 109, 101, 32, 119, 111, 114, 100, 115]⟩ : ByteArray), (⟨#[120, 35, 121]⟩ : ByteArray), (⟨#[45, 49, 50]⟩ : ByteArray), (⟨#[0, 255]⟩ : ByteArray), (⟨#[44, 44]⟩ : ByteArray), (⟨#[48]⟩ : ByteArray)] = some (t, a + 1, s') := e
  rw [e']
  exact ⟨t, s', rfl, ht⟩
theorem any_size : ∀ t, t ∈ anyL → t.size ≤ 10 := by
  intro t ht
  have : anyL.all (fun t => decide (t.size ≤ 10)) = true := by decide +kernel
  exact of_decide_eq_true (List.all_eq_true.1 this t ht)
theorem seps3_size : ∀ t, t ∈ seps3 → t.size ≤ 30 := by
  intro t ht
  have : seps3.all (fun t => decide (t.size ≤ 30)) = true := by decide +kernel
  exact of_decide_eq_true (List.all_eq_true.1 this t ht)
theorem zs_size (n : Nat) : (zs n).size = n := by
  show (List.replicate n (0 : UInt8)).toArray.size = n
  simp
theorem drawF_ok (l : List Int) (hl : Wf l) : ∃ n, spec_DrawFormatInt.f l = some n ∧ -1000000 ≤ n ∧ n ≤ 1000000 := by
  obtain ⟨a, s1, e1, h1, h2⟩ := pick_big l hl 0 0 1000 (by omega) (by omega) (by omega)
  obtain ⟨n, s2, e2, hn⟩ := among_ok l hl (0 + 1 + 1) s1 (by omega) (by omega) (numsF (a - 500)) (by simp [numsF]) (by simp [numsF])
  refine ⟨n, ?_, ?_⟩
  · unfold spec_DrawFormatInt.f
    rw [e1]
    simp only [Option.bind_some]
    rw [if_pos ⟨h1, h2⟩, e2]
    rfl
  · simp only [numsF, List.mem_cons, List.not_mem_nil, or_false] at hn
    omega
theorem drawP_ok (l : List Int) (hl : Wf l) : ∃ t, spec_DrawParseInt.f l = some t ∧ t.size ≤ 40 := by
  obtain ⟨b, s1, e1, h1, h2⟩ := pick_ok l hl 0 0 2 (by omega) (by omega) (by omega) (by omega)
  have e4 : spec_l1Cur_one.f l 0 0 2 = some (b == 0, 0 + 1, s1) := by
    unfold spec_l1Cur_one.f
    rw [e1]
    rfl
  unfold spec_DrawParseInt.f
  rw [e4]
  simp only [Option.bind_some]
  by_cases hb : (b == 0) = true
  · rw [if_pos hb]
    obtain ⟨t, s2, e2, ht⟩ := of_ok l hl (0 + 1) s1 (by omega) (by omega) seps3 (by decide) (by decide)
    rw [e2]
    exact ⟨t, rfl, by have := seps3_size t ht; omega⟩
  · rw [if_neg hb]
    obtain ⟨c, s2, e2, h3, h4⟩ := pick_big l hl (0 + 1) s1 2000 (by omega) (by omega) (by omega)
    rw [e2]
    simp only [Option.bind_some]
    rw [if_pos ⟨h3, h4⟩, num_f (c - 1000) (by omega) (by omega) 40 (by omega)]
    refine ⟨_, rfl, ?_⟩
    have := Lib.itoa_length_le (c - 1000) (by omega) (by omega)
    show (Lib.itoa (c - 1000)).toArray.size ≤ 40
    simp only [List.size_toArray]
    omega
theorem drawA_ok (l : List Int) (hl : Wf l) : ∃ x, spec_DrawAppendChecksum.f l = some x ∧ x.size ≤ 4000 := by
  obtain ⟨b, s1, e1, h1, h2⟩ := pick_ok l hl 0 0 20 (by omega) (by omega) (by omega) (by omega)
  have e4 : spec_l1Cur_one.f l 0 0 20 = some (b == 0, 0 + 1, s1) := by
    unfold spec_l1Cur_one.f
    rw [e1]
    rfl
  unfold spec_DrawAppendChecksum.f
  rw [e4]
  simp only [Option.bind_some]
  by_cases hb : (b == 0) = true
  · rw [if_pos hb]
    obtain ⟨c, s2, e2, h3, h4⟩ := pick_ok l hl (0 + 1) s1 10 (by omega) (by omega) (by omega) (by omega)
    rw [e2]
    simp only [Option.bind_some]
    rw [if_pos ⟨h3, by omega⟩]
    exact ⟨_, rfl, by rw [zs_size]; omega⟩
  · rw [if_neg hb]
    obtain ⟨t, s2, e2, ht⟩ := any_ok l hl (0 + 1) s1 (by omega) (by omega)
    rw [e2]
    exact ⟨t, rfl, by have := any_size t ht; omega⟩
/-- FormatInt of both -/
theorem both_fmt (n : Int) (h0 : -1000000 ≤ n) (h1 : n ≤ 1000000) : ∃ a, spec_FormatInt.f 30 n = some a ∧ impl_FormatInt.f n = some a ∧ (a.2 = true → a.1 = ⟨(Lib.itoa n).toArray⟩ ∧ -999999 ≤ n ∧ n ≤ 999999) ∧ a.1.size ≤ 40 := by
  unfold spec_FormatInt.f impl_FormatInt.f spec_l1In.f
  by_cases a : n < -999999
  · exact ⟨(⟨#[]⟩, false), by rw [if_neg (by omega)]; rfl, by rw [if_pos a], fun h => (by cases h), by decide⟩
  · rw [if_pos (by omega), if_neg a]
    simp only [Option.bind_some]
    by_cases b : n > 999999
    · exact ⟨(⟨#[]⟩, false), by rw [if_neg (by simpa using b)], by rw [if_pos b], fun h => (by cases h), by decide⟩
    · refine ⟨(⟨(Lib.itoa n).toArray⟩, true), ?_, ?_, fun _ => ⟨rfl, by omega, by omega⟩, ?_⟩
      · rw [if_pos (by simpa using b), num_f n (by omega) (by omega) 30 (by omega)]
        rfl
      · rw [if_neg b]
        unfold strconv_Itoa_23.f
        rw [if_pos ⟨by omega, by omega⟩]
        rfl
      · have := Lib.itoa_length_le n (by omega) (by omega)
        show (Lib.itoa n).toArray.size ≤ 40
        simp only [List.size_toArray]
        omega
/-- ParseInt of both -/
theorem both_parse (s : ByteArray) (hs : s.size ≤ 100) : spec_ParseInt.f 90 s = some (pfI s) ∧ impl_ParseInt.f s = some (pfI s) := by
  refine ⟨?_, ?_⟩
  · unfold spec_ParseInt.f
    rw [both s 90 (by omega)]
    rfl
  · unfold impl_ParseInt.f
    rw [if_pos (by omega)]
theorem parse_back (n : Int) (h0 : -999999 ≤ n) (h1 : n ≤ 999999) : pfI ⟨(Lib.itoa n).toArray⟩ = (n, true) := by
  unfold pfI
  show (match Lib.atoiAll (Lib.itoa n) with | .ok v => if -999999 ≤ v ∧ v ≤ 999999 ∧ Lib.itoa v = Lib.itoa n then (v, true) else (0, false) | _ => (0, false)) = _
  rw [atoi_itoa n h0 h1]
  simp [h0, h1]
/-- the checksum of a string -/
theorem sum_val (s : ByteArray) (hn : s.size ≤ 4000) (d : Nat) : ∀ (k h i : Nat), h < 999979 → i ≤ s.size → s.size - i = d → d < k →
    impl_checksum.l0 k s (h : Int) (s.size : Int) (i : Int) = some ((sumL h (s.data.toList.drop i) : Nat) : Int) := by
  induction d with
  | zero =>
    intro k h i b1 h1 hd hk
    obtain ⟨k, rfl⟩ : ∃ m, k = m + 1 := ⟨k - 1, by omega⟩
    simp only [impl_checksum.l0]
    rw [if_neg (by omega), List.drop_eq_nil_of_le (by rw [len_data]; omega)]
    rfl
  | succ d ih =>
    intro k h i b1 h1 hd hk
    obtain ⟨k, rfl⟩ : ∃ m, k = m + 1 := ⟨k - 1, by omega⟩
    have hlt : i < s.data.toList.length := by rw [len_data]; omega
    have hdr := List.drop_eq_getElem_cons hlt
    have hb := bt_at s i (by omega) _ _ hdr
    have h8 := (s.data.toList[i]).toNat_lt
    have hw : wrap64 ((i : Int) + 1) = ((i + 1 : Nat) : Int) := by unfold wrap64; omega
    have key : ∀ c : Nat, c < 256 → Int.tmod (wrap64 ((wrap64 ((wrap64 (41 * (h : Int))) + (wrap64 ((c : Nat) : Int)))) + 1)) 999979 = (((41 * h + c + 1) % 999979 : Nat) : Int) := by
      intro c hc
      clear hdr hb h8 ih hw hlt hd
      have g1 : wrap64 (41 * (h : Int)) = ((41 * h : Nat) : Int) := by unfold wrap64; omega
      have g2 : wrap64 ((c : Nat) : Int) = ((c : Nat) : Int) := by unfold wrap64; omega
      have g3 : wrap64 (((41 * h : Nat) : Int) + ((c : Nat) : Int)) = ((41 * h + c : Nat) : Int) := by unfold wrap64; omega
      have g4 : wrap64 (((41 * h + c : Nat) : Int) + 1) = ((41 * h + c + 1 : Nat) : Int) := by unfold wrap64; omega
      rw [g1, g2, g3, g4, Int.tmod_eq_emod_of_nonneg (by omega)]
      omega
    simp only [impl_checksum.l0]
    rw [if_pos (by omega), if_pos (by omega), if_pos (by omega), hb, hw, key _ h8, hdr]
    exact ih k _ (i + 1) (Nat.mod_lt _ (by omega)) (by omega) (by omega) (by omega)
theorem checksum_f (s : ByteArray) (hn : s.size ≤ 4000) (k : Nat) (hk : 4001 ≤ k) : impl_checksum.f k s = some ((sumL 7 s.data.toList : Nat) : Int) := by
  have := sum_val s hn s.size k 7 0 (by omega) (by omega) (by omega) (by omega)
  exact this
theorem seal_form (s : ByteArray) (hn : s.size ≤ 4000) (k : Nat) (hk : 5000 ≤ k) (r : ByteArray) (e : spec_l1Seal.f k s = some r) : r.data.toList = s.data.toList ++ 35 :: Lib.decDigits (sumL 7 s.data.toList) := by
  obtain ⟨r', e1, c, t, e2, e3, e4, e5⟩ := seal_f s hn k hk
  rw [e] at e1
  injection e1 with e1
  subst e1
  rw [checksum_f s hn k (by omega)] at e2
  injection e2 with e2
  subst e2
  have hlt := sumL_lt s.data.toList 7 (by omega)
  unfold strconv_Itoa_23.f at e3
  rw [if_pos ⟨by omega, by omega⟩] at e3
  injection e3 with e3
  rw [e4, ← e3, Lib.itoa_nonneg]
  simp [ByteArray.data_append]
theorem hasB_iff (s : ByteArray) : hasB s 35 = false ↔ ∀ c, c ∈ s.data.toList → c ≠ 35 := by
  unfold hasB
  rw [List.any_eq_false]
  constructor
  · intro h c hc e
    exact h c hc (by subst e; decide)
  · intro h c hc e
    refine h c hc ?_
    apply UInt8.toNat_inj.1
    have h2 : ((c.toNat : Nat) : Int) = 35 := of_decide_eq_true e
    show _ = 35
    omega
theorem vl_all (l : List UInt8) : ∀ acc v, vl acc l = some v → ∀ c, c ∈ l → 48 ≤ c.toNat := by
  induction l with
  | nil => intro acc v _ c hc; cases hc
  | cons b r ih =>
    intro acc v h c hc
    simp only [vl] at h
    by_cases hb : 48 ≤ b.toNat ∧ b.toNat ≤ 57
    · rw [if_pos hb] at h
      rcases List.mem_cons.1 hc with rfl | hc
      · exact hb.1
      · exact ih _ _ h c hc
    · rw [if_neg hb] at h; cases h
/-- digits of a small number; of a large one none are asked for -/
def D (n : Nat) : List UInt8 := if n < 999979 then Lib.decDigits n else []
theorem D_clean (n : Nat) (c : UInt8) (hc : c ∈ D n) : c ≠ 35 := by
  unfold D at hc
  by_cases h : n < 999979
  · rw [if_pos h] at hc
    obtain ⟨e1, _, _⟩ := vl_dec 5 n (by omega)
    have := vl_all _ _ _ e1 c hc
    intro e
    subst e
    revert this
    decide
  · rw [if_neg h] at hc; cases hc
theorem D_inj (n m : Nat) (hn : n < 999979) (hm : m < 999979) (e : D n = D m) : n = m := by
  unfold D at e
  rw [if_pos hn, if_pos hm] at e
  obtain ⟨e1, _, _⟩ := vl_dec 5 n (by omega)
  obtain ⟨e2, _, _⟩ := vl_dec 5 m (by omega)
  rw [e, e2] at e1
  injection e1 with e1
  exact e1.symm
theorem D_eq (l : List UInt8) : Lib.decDigits (sumL 7 l) = D (sumL 7 l) := by
  unfold D
  rw [if_pos (sumL_lt l 7 (by omega))]
theorem cutL_take : ∀ (l : List UInt8) (n : Nat), n ≤ l.length → (∀ j, j < n → l[j]? ≠ some 35) → (n = l.length ∨ l[n]? = some 35) → l.take n = cutL l
  | [], n, h, _, _ => by simp [cutL]
  | c :: l, 0, _, _, h => by
    have : c = 35 := by simpa using h
    subst this
    simp [cutL]
  | c :: l, n + 1, h, h1, h2 => by
    have hc : c ≠ 35 := fun e => h1 0 (by omega) (by simp [e])
    have := cutL_take l n (by simpa using h) (fun j hj => by have := h1 (j + 1) (by omega); simpa using this) (by simpa using h2)
    show c :: l.take n = cutL (c :: l)
    unfold cutL
    rw [if_neg hc, this]
theorem first_cut (s : ByteArray) (n : Nat) (hF : FirstAt s n) : (s.extract 0 n).data.toList = cutL s.data.toList := by
  obtain ⟨f1, f2, f3⟩ := hF
  rw [← cutL_take s.data.toList n (by rw [len_data]; exact f1) f2 (by rw [len_data]; exact f3), ByteArray.data_extract]
  simp
theorem toList_eq {a b : ByteArray} (h : a.data.toList = b.data.toList) : a = b := by
  obtain ⟨⟨x⟩⟩ := a
  obtain ⟨⟨y⟩⟩ := b
  have e : x = y := h
  rw [e]
/-- what the program verifies -/
theorem verify_val (b : ByteArray) (hb : b.size ≤ 4000) : ∃ r ok, impl_VerifyChecksum.f 9000 b = some (r, ok) ∧
    (ok = true → cutL b.data.toList ++ 35 :: D (sumL 7 (cutL b.data.toList)) = b.data.toList) ∧
    (cutL b.data.toList ++ 35 :: D (sumL 7 (cutL b.data.toList)) = b.data.toList → ok = true ∧ r.data.toList = cutL b.data.toList) := by
  obtain ⟨n, x, y, hF, hC⟩ := cut_f b (by omega)
  have hpn := pre_no b n hF
  have hes := ex_size b n hF.1
  have hnl := hF.1
  have hcut := first_cut b n hF
  obtain ⟨r, e1, e2⟩ := app_in (b.extract 0 n) (by omega) hpn 9000 (by omega)
  have hr := seal_form (b.extract 0 n) (by omega) 9000 (by omega) r e1
  rw [hcut, D_eq] at hr
  unfold impl_VerifyChecksum.f
  rw [hC]
  simp only [Option.bind_some]
  rw [e2]
  simp only [Option.bind_some]
  rw [← hr, ← hcut]
  by_cases h3 : (r.size : Int) > 4000
  · rw [if_pos h3, if_neg (show ¬ (false = true) by decide)]
    refine ⟨_, _, rfl, fun h => (by cases h), fun h => ?_⟩
    rw [toList_eq h] at h3
    omega
  · rw [if_neg h3, if_pos rfl]
    by_cases h7 : r.toList = b.toList
    · rw [if_pos h7]
      rw [ByteArray.toList_eq, ByteArray.toList_eq] at h7
      exact ⟨_, _, rfl, fun _ => h7, fun _ => ⟨rfl, rfl⟩⟩
    · rw [if_neg h7]
      rw [ByteArray.toList_eq, ByteArray.toList_eq] at h7
      exact ⟨_, _, rfl, fun h => (by cases h), fun h => absurd h h7⟩
/-- the sealed text: verified; and no text that differs from it in one byte -/
theorem sealed_ok (x : ByteArray) (hx : x.size ≤ 4000) : ∃ y ok, spec_AppendChecksum.f 9000 x = some (y, ok) ∧ impl_AppendChecksum.f 9000 x = some (y, ok) ∧ (ok = false → y = ⟨#[]⟩) ∧
    (ok = true → 0 < y.size ∧ y.size ≤ 4000 ∧ impl_VerifyChecksum.f 9000 y = some (x, true) ∧
      ∀ (k : Nat) (hk : k < y.data.toList.length) (v : UInt8), v ≠ y.data.toList[k] → ∃ r, impl_VerifyChecksum.f 9000 ⟨(y.data.toList.set k v).toArray⟩ = some (r, false)) := by
  obtain ⟨a, e1, e2⟩ := append_f x (by omega) 9000 (by omega)
  obtain ⟨y, ok⟩ := a
  refine ⟨y, ok, e1, e2, ?_⟩
  unfold spec_AppendChecksum.f at e1
  rw [if_neg (by omega), stands_f x (by omega) 35 9000 (by omega)] at e1
  simp only [Option.bind_some] at e1
  by_cases h2 : hasB x 35 = true
  · rw [if_pos h2] at e1
    injection e1 with e1
    injection e1 with g1 g2
    subst g1 g2
    exact ⟨fun _ => rfl, fun h => by cases h⟩
  · rw [if_neg h2] at e1
    have h2' : hasB x 35 = false := by simpa using h2
    have hcl := (hasB_iff x).1 h2'
    obtain ⟨r, e3, c, t, e4, e5, e6, e7⟩ := seal_f x hx 9000 (by omega)
    have hr := seal_form x hx 9000 (by omega) r e3
    rw [D_eq] at hr
    rw [e3] at e1
    simp only [Option.bind_some] at e1
    by_cases h6 : (r.size : Int) > 4000
    · rw [if_pos h6] at e1
      injection e1 with e1
      injection e1 with g1 g2
      subst g1 g2
      exact ⟨fun _ => rfl, fun h => by cases h⟩
    · rw [if_neg h6] at e1
      injection e1 with e1
      injection e1 with g1 g2
      subst g1 g2
      refine ⟨fun h => (by cases h), fun _ => ?_⟩
      have hl : r.data.toList.length = r.size := len_data r
      have hpos : 0 < r.size := by rw [← hl, hr, List.length_append, List.length_cons]; omega
      refine ⟨hpos, by omega, ?_, ?_⟩
      · obtain ⟨q, ok, g1, g2, g3⟩ := verify_val r (by omega)
        have hc : cutL r.data.toList = x.data.toList := by rw [hr]; exact cutL_clean _ _ hcl
        obtain ⟨g4, g5⟩ := g3 (by rw [hc]; exact hr.symm)
        rw [g1, g4, toList_eq (g5.trans hc)]
      · intro k hk v hv
        obtain ⟨q, ok, g1, g2, g3⟩ := verify_val ⟨(r.data.toList.set k v).toArray⟩ (by
          show (r.data.toList.set k v).toArray.size ≤ 4000
          simp only [List.size_toArray, List.length_set]
          omega)
        refine ⟨q, ?_⟩
        rw [g1]
        cases ok with
        | false => rfl
        | true =>
          have g4 := g2 rfl
          exact absurd g4 (seal_changed D D_clean D_inj x.data.toList hcl r.data.toList hr k hk v hv)
/-- the changed byte -/
theorem xor_byte (a c : Nat) (ha : a < 256) (hc : c < 256) (h0 : 0 < c) : ∃ v : UInt8, bits .xor .u8 (a : Int) (c : Int) = ((v.toNat : Nat) : Int) ∧ v.toNat ≠ a := by
  have h : bits .xor .u8 (a : Int) (c : Int) = IntKind.u8.wrap (((BitVec.ofInt 8 (a : Int) ^^^ BitVec.ofInt 8 (c : Int)).toNat : Nat) : Int) := rfl
  have e1 : BitVec.ofInt 8 (a : Int) = BitVec.ofNat 8 a := by rw [BitVec.ofInt_natCast]
  have e2 : BitVec.ofInt 8 (c : Int) = BitVec.ofNat 8 c := by rw [BitVec.ofInt_natCast]
  have h2 : (BitVec.ofInt 8 (a : Int) ^^^ BitVec.ofInt 8 (c : Int)).toNat = a ^^^ c := by
    rw [e1, e2, BitVec.toNat_xor, BitVec.toNat_ofNat, BitVec.toNat_ofNat, Nat.mod_eq_of_lt (show a < 2 ^ 8 from ha), Nat.mod_eq_of_lt (show c < 2 ^ 8 from hc)]
  have h3 : a ^^^ c < 256 := Nat.xor_lt_two_pow (n := 8) ha hc
  have h4 : a ^^^ c ≠ a := by
    intro e
    have : a ^^^ (a ^^^ c) = a ^^^ a := by rw [e]
    rw [← Nat.xor_assoc, Nat.xor_self, Nat.zero_xor] at this
    omega
  refine ⟨UInt8.ofNat (a ^^^ c), ?_, ?_⟩
  · rw [h, h2]
    have e3 : (UInt8.ofNat (a ^^^ c)).toNat = a ^^^ c := by rw [UInt8.toNat_ofNat']; exact Nat.mod_eq_of_lt (show a ^^^ c < 2 ^ 8 from h3)
    rw [e3]
    simp only [IntKind.wrap, IntKind.bits, IntKind.signed, Bool.false_and, Bool.false_eq_true, if_false]
    omega
  · have e3 : (UInt8.ofNat (a ^^^ c)).toNat = a ^^^ c := by rw [UInt8.toNat_ofNat']; exact Nat.mod_eq_of_lt (show a ^^^ c < 2 ^ 8 from h3)
    rw [e3]
    exact h4
end Go.Proofs.YtneaomnlpfeedaaDoor.Pure
