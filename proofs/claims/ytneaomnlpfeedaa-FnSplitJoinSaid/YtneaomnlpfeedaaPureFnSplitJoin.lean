/-
  FnSplitJoin in plain words: for every code, what the draws answer is small, splitting and joining are inverse there, and the law answers true. No conditions.
-/
import Derived.Test.YtneaomnlpfeedaaSj
namespace Go.Proofs.Ytneaomnlpfeedaa.Pure
open Go.RowKit Go.Proofs.Ytneaomnlpfeedaa.PFnSplitJoin Go.Proofs.YtneaomnlpfeedaaW.PrintWords Go.Proofs.YtneaomnlpfeedaaW.PrintLast

theorem and255 (x : Int) : 0 ≤ wrap64 (bits .and .u64 x 255) ∧ wrap64 (bits .and .u64 x 255) ≤ 255 := by
  have h : bits .and .u64 x 255 = IntKind.u64.wrap (((BitVec.ofInt 64 x &&& BitVec.ofInt 64 255).toNat : Nat) : Int) := rfl
  have h2 : (BitVec.ofInt 64 x &&& BitVec.ofInt 64 255).toNat ≤ 255 := by
    rw [BitVec.toNat_and]
    exact Nat.and_le_right
  generalize (BitVec.ofInt 64 x &&& BitVec.ofInt 64 255).toNat = y at *
  have h3 : IntKind.u64.wrap ((y : Nat) : Int) = (y : Int) := by
    simp only [IntKind.wrap, IntKind.bits, IntKind.signed, Bool.false_and, Bool.false_eq_true, if_false]
    omega
  rw [h, h3]
  unfold wrap64
  omega
/-- all bytes of a code -/
def Wf (l : List Int) : Prop := ∀ x, x ∈ l → 0 ≤ x ∧ x ≤ 255
theorem rd_wf (l : List Int) (h : Wf l) (i : Int) : 0 ≤ rd l i ∧ rd l i ≤ 255 := by
  unfold rd
  rw [List.getD_eq_getElem?_getD]
  cases hx : l[i.toNat]? with
  | none => simp
  | some x => exact h x (List.mem_of_getElem? hx)
theorem next_ok (l : List Int) (hl : Wf l) (a s : Int) (h0 : 0 ≤ a) (h1 : a ≤ 1000000) : ∃ b s', spec_l1Cur_next.f l a s = some (b, a + 1, s') ∧ 0 ≤ b ∧ b ≤ 255 := by
  have hw : wrap64 (a + 1) = a + 1 := by unfold wrap64; omega
  have hr := rd_wf l hl a
  have hwr : wrap64 (rd l a) = rd l a := by unfold wrap64; omega
  unfold spec_l1Cur_next.f
  rw [hw]
  split
  · try rw [if_pos h0]
    split
    · exact ⟨_, _, rfl, by rw [hwr]; exact hr⟩
    · exact ⟨_, _, rfl, and255 _⟩
  · split
    · exact ⟨_, _, rfl, by omega⟩
    · exact ⟨_, _, rfl, and255 _⟩
theorem pick_ok (l : List Int) (hl : Wf l) (a s n : Int) (h0 : 0 ≤ a) (h1 : a ≤ 1000000) (hn : 2 ≤ n) (hn2 : n ≤ 200) : ∃ b s', spec_l1Cur_pick.f l a s n = some (b, a + 1, s') ∧ 0 ≤ b ∧ b < n := by
  obtain ⟨b, s', e, hb, _⟩ := next_ok l hl a s h0 h1
  unfold spec_l1Cur_pick.f
  rw [if_neg (by omega), e]
  simp only [Option.bind_some]
  rw [if_neg (by omega), if_neg (by omega)]
  exact ⟨_, _, rfl, by rw [Int.tmod_eq_emod_of_nonneg hb]; exact ⟨Int.emod_nonneg _ (by omega), Int.emod_lt_of_pos _ (by omega)⟩⟩
theorem of_ok (l : List Int) (hl : Wf l) (a s : Int) (h0 : 0 ≤ a) (h1 : a ≤ 1000000) (L : List ByteArray) (hL : 2 ≤ L.length) (hL2 : L.length ≤ 200) : ∃ t s', spec_l1Cur_of.f l a s L = some (t, a + 1, s') ∧ t ∈ L := by
  obtain ⟨b, s', e, hb, hb2⟩ := pick_ok l hl a s (L.length : Int) h0 h1 (by omega) (by omega)
  unfold spec_l1Cur_of.f
  rw [e]
  simp only [Option.bind_some]
  rw [if_pos hb, if_pos hb2]
  refine ⟨_, _, rfl, ?_⟩
  unfold rdOf
  rw [List.getD_eq_getElem?_getD, List.getElem?_eq_getElem (by omega)]
  exact List.getElem_mem _
def anyL : List ByteArray := [(⟨#[]⟩ : ByteArray), (⟨#[97]⟩ : ByteArray), (⟨#[97, 44, 98]⟩ : ByteArray), (⟨#[115, 111, 109, 101, 32, 119, 111, 114, 100, 115]⟩ : ByteArray), (⟨#[120, 35, 121]⟩ : ByteArray), (⟨#[45, 49, 50]⟩ : ByteArray), (⟨#[0, 255]⟩ : ByteArray), (⟨#[44, 44]⟩ : ByteArray), (⟨#[48]⟩ : ByteArray)]
theorem any_ok (l : List Int) (hl : Wf l) (a s : Int) (h0 : 0 ≤ a) (h1 : a ≤ 1000000) : ∃ t s', spec_l1Cur_any1.f l a s = some (t, a + 1, s') ∧ t ∈ anyL := by
  obtain ⟨t, s', e, ht⟩ := of_ok l hl a s h0 h1 anyL (by decide) (by decide)
  unfold spec_l1Cur_any1.f
  have e' : spec_l1Cur_of.f l a s [(⟨#[]⟩ : ByteArray), (⟨#[97]⟩ : ByteArray), (⟨#[97, 44, 98]⟩ : ByteArray), (⟨#[115, 111, 109, 101, 32, 119, 111, 114, 100, 115]⟩ : ByteArray), (⟨#[120, 35, 121]⟩ : ByteArray), (⟨#[45, 49, 50]⟩ : ByteArray), (⟨#[0, 255]⟩ : ByteArray), (⟨#[44, 44]⟩ : ByteArray), (⟨#[48]⟩ : ByteArray)] = some (t, a + 1, s') := e
  rw [e']
  exact ⟨t, s', rfl, ht⟩
theorem any_size : ∀ t, t ∈ anyL → t.size ≤ 10 := by
  intro t ht
  have : anyL.all (fun t => decide (t.size ≤ 10)) = true := by decide +kernel
  exact of_decide_eq_true (List.all_eq_true.1 this t ht)
theorem dj_ok (l : List Int) (hl : Wf l) (a s : Int) (h0 : 0 ≤ a) : ∀ n : Nat, a + n ≤ 1000000 → ∃ xs s', dj l a s n = some (xs, a + n, s') ∧ xs.length = n ∧ tot xs ≤ 10 * n
  | 0, _ => ⟨[], s, by simp [dj], rfl, Nat.le_refl _⟩
  | n + 1, h => by
    obtain ⟨xs, s', e, h1, h2⟩ := dj_ok l hl a s h0 n (by omega)
    obtain ⟨t, s2, e2, ht⟩ := any_ok l hl (a + n) s' (by omega) (by omega)
    have := any_size t ht
    refine ⟨xs ++ [t], s2, ?_, by rw [List.length_append, h1]; rfl, ?_⟩
    · unfold dj
      rw [e]
      simp only [Option.bind_some]
      rw [e2]
      simp only [Option.bind_some]
      congr 3
      omega
    · unfold tot at *
      rw [List.map_append, List.sum_append]
      simp
      omega
theorem zs_size (n : Nat) : (zs n).size = n := by
  show (List.replicate n (0 : UInt8)).toArray.size = n
  simp
theorem drawJoin_ok (l : List Int) (hl : Wf l) : ∃ xs p, spec_DrawJoinStrings.f l = some (xs, p) ∧ xs.length + tot xs ≤ 5000 := by
  obtain ⟨n, s1, e1, h1, h2⟩ := pick_ok l hl 0 0 4 (by omega) (by omega) (by omega) (by omega)
  obtain ⟨xs, s2, e2, h3, h4⟩ := dj_ok l hl 1 s1 (by omega) n.toNat (by omega)
  obtain ⟨b, s3, e3, h5, h6⟩ := pick_ok l hl (1 + (n.toNat : Int)) s2 20 (by omega) (by omega) (by omega) (by omega)
  have e4 : spec_l1Cur_one.f l (1 + (n.toNat : Int)) s2 20 = some (b == 0, 1 + (n.toNat : Int) + 1, s3) := by
    unfold spec_l1Cur_one.f
    rw [e3]
    rfl
  have hd : ∃ (ys : List ByteArray × Int) (s4 : Int), djEnd l xs (b == 0) (1 + (n.toNat : Int) + 1) s3 = some (ys.1, ys.2, s4) ∧ ys.1.length + tot ys.1 ≤ 5000 ∧ 0 ≤ ys.2 ∧ ys.2 ≤ 100 := by
    unfold djEnd
    split
    · obtain ⟨q, s5, e5, h7, h8⟩ := pick_ok l hl (1 + (n.toNat : Int) + 1) s3 20 (by omega) (by omega) (by omega) (by omega)
      rw [e5]
      simp only [Option.bind_some]
      rw [if_pos (by omega)]
      refine ⟨(_, _), _, rfl, ?_, by dsimp only; omega, by dsimp only; omega⟩
      have hz := zs_size (3990 + q.toNat)
      unfold tot at *
      dsimp only
      rw [List.length_append, List.map_append, List.sum_append]
      simp only [List.map_cons, List.map_nil, List.length_cons, List.length_nil, List.sum_cons, List.sum_nil]
      omega
    · exact ⟨(_, _), _, rfl, by dsimp only; omega, by dsimp only; omega, by dsimp only; omega⟩
  obtain ⟨⟨ys, a5⟩, s5, e5, h7, h8, h9⟩ := hd
  obtain ⟨p, s6, e6, hp⟩ := of_ok l hl a5 s5 h8 (by have : a5 ≤ 100 := h9; omega) seps2 (by decide) (by decide)
  refine ⟨ys, p, ?_, h7⟩
  unfold spec_DrawJoinStrings.f
  rw [e1]
  simp only [Option.bind_some]
  rw [if_pos (by omega)]
  simp only [Int.zero_add]
  rw [e2]
  simp only [Option.bind_some]
  rw [e4]
  simp only [Option.bind_some]
  rw [e5]
  simp only [Option.bind_some]
  rw [e6]
  rfl
/-- splitting and joining at the drawn strings -/
def ckS (s p : ByteArray) : Bool :=
  match impl_SplitString.f 60 s p with
  | some (l, ok) => if p.size = 1 then (match impl_JoinStrings.f 60 l p with | some (j, there) => ok && there && decide (j.data.toList = s.data.toList) | none => false) else !ok && l.isEmpty
  | none => false
theorem ck_all : (anyL.all fun s => seps1.all fun p => ckS s p) = true := by decide +kernel
theorem lift {α : Type} {F : Nat → Option α} (h : ∀ k, LeO (F k) (F (k + 1))) {a : Nat} {r : α} (e : F a = some r) : ∀ d, F (a + d) = some r
  | 0 => e
  | d + 1 => h _ r (lift h e d)
theorem toList_eq {a b : ByteArray} (h : a.data.toList = b.data.toList) : a = b := by
  obtain ⟨⟨x⟩⟩ := a
  obtain ⟨⟨y⟩⟩ := b
  have e : x = y := h
  rw [e]
theorem less_asym : ∀ x y : List UInt8, Op.bytesLess x y = true → Op.bytesLess y x = false
  | _, [], h => by simp [Op.bytesLess] at h
  | [], _ :: _, _ => by simp [Op.bytesLess]
  | a :: x, b :: y, h => by
    simp only [Op.bytesLess, Bool.or_eq_true, Bool.and_eq_true, decide_eq_true_eq, beq_iff_eq] at h
    simp only [Op.bytesLess, Bool.or_eq_false_iff, decide_eq_false_iff_not, Bool.and_eq_false_iff]
    rcases h with h | ⟨rfl, h⟩
    · exact ⟨fun g => absurd (UInt8.lt_trans h g) (UInt8.lt_irrefl _), .inl (by rw [beq_eq_false_iff_ne]; rintro rfl; exact absurd h (UInt8.lt_irrefl _))⟩
    · exact ⟨UInt8.lt_irrefl _, .inr (less_asym x y h)⟩
theorem wf_of (l0 : List Int) (h : ∀ x ∈ l0, (Lit.int .u8 x).wf = true) : Wf l0 := fun x hx => by
  have hb : IntKind.u8.min ≤ x ∧ x ≤ IntKind.u8.max := by simpa [Lit.wf] using h x hx
  simpa [IntKind.min, IntKind.max, IntKind.signed, IntKind.bits] using hb
/-- the end of the law -/
theorem end_ok (s p : ByteArray) (hs : s ∈ anyL) (hp : p ∈ seps1) (d : Nat) : ∃ x ok, impl_SplitString.f (61 + d) s p = some (x, ok) ∧ laws_FnSplitJoin.j0 (61 + d) s p x ok false = some true := by
  have hc := List.all_eq_true.1 (List.all_eq_true.1 ck_all s hs) p hp
  unfold ckS at hc
  cases h1 : impl_SplitString.f 60 s p with
  | none => rw [h1] at hc; cases hc
  | some r =>
    obtain ⟨l, ok⟩ := r
    rw [h1] at hc
    simp only at hc
    have h1' := lift (F := fun k => impl_SplitString.f k s p) (fun k => impl_SplitString.mono s p k) h1 (1 + d)
    rw [← Nat.add_assoc] at h1'
    refine ⟨l, ok, h1', ?_⟩
    rw [show 61 + d = (60 + d) + 1 by omega]
    simp only [laws_FnSplitJoin.j0, Bool.false_eq_true, if_false]
    by_cases hp1 : p.size = 1
    · rw [if_pos hp1] at hc
      rw [if_pos (by omega)]
      cases h2 : impl_JoinStrings.f 60 l p with
      | none => rw [h2] at hc; cases hc
      | some q =>
        obtain ⟨j, there⟩ := q
        rw [h2] at hc
        simp only [Bool.and_eq_true, decide_eq_true_eq] at hc
        obtain ⟨⟨g1, g2⟩, g3⟩ := hc
        have h2' := lift (F := fun k => impl_JoinStrings.f k l p) (fun k => impl_JoinStrings.mono l p k) h2 d
        have h2'' : impl_JoinStrings.f (60 + d) l p = some (j, there) := h2'
        rw [h2'']
        simp only [Option.bind_some]
        rw [if_pos g1, if_pos g2, toList_eq g3]
        simp
    · rw [if_neg hp1] at hc
      rw [if_neg (by omega)]
      simp only [Bool.and_eq_true, Bool.not_eq_true', List.isEmpty_iff] at hc
      obtain ⟨g1, g2⟩ := hc
      rw [if_neg (by rw [g1]; decide), g2]
      rfl
theorem FnSplitJoin : laws_FnSplitJoin.Pure := by
  intro l0 _ _ hwf
  have hl := wf_of l0 hwf
  refine ⟨4000002, ?_⟩
  unfold laws_FnSplitJoin.f laws_vBig.f
  simp only [Option.bind_some]
  by_cases hb : (l0.length : Int) > 65536
  · rw [decide_eq_true hb, if_pos rfl]
  · rw [decide_eq_false hb, if_neg (by decide)]
    obtain ⟨s, s1, e1, h1⟩ := any_ok l0 hl 0 0 (by omega) (by omega)
    obtain ⟨p, s2, e2, h2⟩ := of_ok l0 hl (0 + 1) s1 (by omega) (by omega) seps1 (by decide) (by decide)
    have e3 : spec_DrawSplitString.f l0 = some (s, p) := by
      unfold spec_DrawSplitString.f
      rw [e1]
      simp only [Option.bind_some]
      rw [e2]
      rfl
    obtain ⟨x, ok, e4, e5⟩ := end_ok s p h1 h2 3999941
    obtain ⟨xs, q, e6, h6⟩ := drawJoin_ok l0 hl
    obtain ⟨a, e7, e8⟩ := join_f xs q (by omega) 4000002 (by omega)
    obtain ⟨t, s3, e9, h9⟩ := any_ok l0 hl (0 + 1) s1 (by omega) (by omega)
    have e10 : spec_DrawLessString.f l0 = some (s, t) := by
      unfold spec_DrawLessString.f
      rw [e1]
      simp only [Option.bind_some]
      rw [e9]
      rfl
    rw [e3]
    simp only [Option.bind_some]
    rw [show (4000002 : Nat) = 61 + 3999941 from rfl, e4]
    simp only [Option.bind_some]
    rw [e6]
    simp only [Option.bind_some]
    rw [show (61 + 3999941 : Nat) = 4000002 from rfl, e8]
    simp only [Option.bind_some]
    rw [e7]
    simp only [Option.bind_some]
    rw [e10]
    simp only [Option.bind_some]
    rw [if_pos trivial]
    have e5' : laws_FnSplitJoin.j0 4000002 s p x ok false = some true := e5
    have b1 : (a.2 != a.2) = false := by simp
    rw [b1, if_neg (by decide)]
    unfold impl_LessString.f spec_LessString.f
    simp only [Option.bind_some]
    rw [if_neg (by simp)]
    cases hq : Op.bytesLess s.toList t.toList with
    | false => rw [if_neg (by decide)]; exact e5'
    | true => rw [if_pos rfl, less_asym _ _ hq]; exact e5'
end Go.Proofs.Ytneaomnlpfeedaa.Pure
