/-
  The reference's draws of numbers and texts, as functions of the code: what they answer. No conditions.
-/
import Derived.Test.YtneaomnlpfeedaaDoorPFnStringsx1
import Derived.Test.YtneaomnlpfeedaaDoorPFnStringsx3
import Derived.Laws.IdiomStrings
import Derived.Lib.Hide
namespace Go.Proofs.YtneaomnlpfeedaaDoor.PFnStrings
open Go.RowKit Go.Proofs.YtneaomnlpfeedaaDoorW.PrintWords Go.Proofs.YtneaomnlpfeedaaDoorW.PrintLast
set_option linter.unusedVariables false
set_option linter.unusedSimpArgs false

/-- a literal row of strings -/
theorem reps_strs (W : World) (base : Nat) (ok : Nat → Prop) : ∀ l : List ByteArray, Reps (Kd.M Kd.string W base ok) Kd.string.sz l (l.map Value.string)
  | [] => Reps.none _ _
  | s :: l => Reps.one (show Kd.M Kd.string W base ok s [.string s] from rfl) (reps_strs W base ok l)
theorem reps_ints (W : World) (base : Nat) (ok : Nat → Prop) : ∀ l : List Int, Reps (Kd.M (Kd.int .i64) W base ok) (Kd.int .i64).sz l (l.map (Value.int .i64))
  | [] => Reps.none _ _
  | x :: l => Reps.one (show Kd.M (Kd.int .i64) W base ok x [.int .i64 x] from rfl) (reps_ints W base ok l)
def zs (n : Nat) : ByteArray := ⟨(List.replicate n (0 : UInt8)).toArray⟩
theorem made_string (N : Nat) (W : World) : (convert 29 9 (.slice (some ⟨W.heap.size, 0, none⟩) N N)).run Tryd.prog (W.alloc (.cells (madeCells #[.int .u8 0] N) 5)) = .ok (.string (zs N)) (W.alloc (.cells (madeCells #[.int .u8 0] N) 5)) := by
  have h := run_convert_bytes_back (P := Tryd.prog) (W.alloc (.cells (madeCells #[.int .u8 0] N) 5)) 29 9 5 ⟨W.heap.size, 0, none⟩ N (List.replicate N 0) Tryd.underlying29 Tryd.underlying5 Tryd.underlying9 (fun j hj => by
    rw [List.length_replicate] at hj
    have e : (⟨W.heap.size, 0, none⟩ : Addr).add j = ⟨W.heap.size, j, none⟩ := by
      unfold Addr.add
      split <;> simp_all
    rw [e, List.getElem_replicate]
    unfold World.cell?
    rw [show (⟨W.heap.size, j, none⟩ : Addr).block = W.heap.size from rfl, heap_alloc_new]
    simp [madeCells, hj, Nat.mod_one])
  rw [List.length_replicate] at h
  exact h
def numsF (x : Int) : List Int := [0, 1, -1, 10, 999999, -999999, 1000000, -1000000, x]
def spec_DrawFormatInt.f (l0 : List Int) : Option Int :=
  (spec_l1Cur_pick.f l0 0 0 1000).bind fun a => if 0 ≤ a.1 ∧ a.1 < 1000 then (spec_l1Cur_among.f l0 a.2.1 a.2.2 (numsF (a.1 - 500))).bind fun b => some b.1 else none
set_option maxRecDepth 100000 in
theorem spec_DrawFormatInt.calls (A0 : Option Addr) (c0 : Nat) (l0 : List Int) (r : Int) (w : World) (hr0 : Kd.C (Kd.int .u8) w A0 l0.length l0) (hc0 : l0.length ≤ c0) (h : spec_DrawFormatInt.f l0 = some r) :
    Calls Tryd.prog 17 #[.slice A0 l0.length c0] w fun e w' => e = .returned (.int .i64 r) ∧ Below w.heap.size w w' := by
  unfold spec_DrawFormatInt.f at h
  obtain ⟨⟨t1, t2, t3⟩, A1, h⟩ := Option.bind_eq_some_iff.1 h
  by_cases hn : 0 ≤ t1 ∧ t1 < 1000
  case neg => rw [if_neg hn] at h; cases h
  rw [if_pos hn] at h
  obtain ⟨⟨u1, u2, u3⟩, A2, h⟩ := Option.bind_eq_some_iff.1 h
  injection h with h
  have e1 : u1 = r := h
  subst e1
  obtain ⟨z, hz⟩ : ∃ z, z = t1 - 500 := ⟨_, rfl⟩
  have hw : wrap64 (t1 - 500) = z := by rw [hz]; unfold wrap64; omega
  have A2' : spec_l1Cur_among.f l0 t2 t3 (numsF z) = some (u1, u2, u3) := by rw [hz]; exact A2
  clear hn hz A2
  have hI := IsS51.new w w A0 c0 l0 0 0 (Below.refl _ _) hr0
  have hB := (Below.refl w.heap.size w).alloc (Nat.le_refl _) (.cells #[.slice A0 l0.length c0, .int .i64 0, .int .u64 0] 51)
  go_enter Tryd.func17, Tryd.ntmps17
  go_wp2_with (first | ((with_reducible refine gate_dst (N := 11) rfl ?_); refine Kd.R_lit (Kd.int .i64) _ 3 ?hg (N := 11) ?hd (xs := numsF z) (inner := (numsF z).map (Value.int .i64)) (ok := fun _ => True) (okp := fun _ => True) ?hr ?hp (fun _ hk => hk) trivial (Below.refl _ _) (Nat.le_refl _) (by simp [numsF]) ?_; (case hd => rfl); (case hg => rfl); (case hr => (simp only [numsF, List.map_cons, List.map_nil, List.length_cons, List.length_nil]; first | (go_simp; done) | (go_simp; rfl))); (case hp => exact reps_ints _ _ _ _); intro v13 w2 ho hb hg hnew; have HI2 := HI1.below hb; have HB2 := below_step HB1 hb; obtain ⟨Ao, co, eo⟩ := Kd.R_slice ho; subst eo) | (go_at_call 33; ((with_reducible refine (spec_l1Cur_pick.calls _ l0 0 0 1000 t1 t2 t3 w _ hI hB A1).mono ?_); rintro e w1 ⟨rfl, HI1, HB1, HK1⟩)) | (go_at_call 32; ((with_reducible refine (spec_l1Cur_among.calls _ l0 t2 t3 Ao co (numsF z) u1 u2 u3 w _ HI2 HB2 (Kd.R_reads' ho).2.2 (Kd.R_reads' ho).2.1 (far_slice (IsS51.own_ne HI2 ho (by decide))) A2').mono ?_); rintro e w3 ⟨rfl, HI3, HB3, HK3⟩)))
  go_ret
  exact ⟨rfl, HB3⟩
def seps3 : List ByteArray := [(⟨#[]⟩ : ByteArray), ⟨#[45]⟩, ⟨#[45, 48]⟩, ⟨#[48, 48]⟩, ⟨#[48, 49]⟩, ⟨#[45, 45, 49]⟩, ⟨#[49, 120]⟩, ⟨#[57, 57, 57, 57, 57, 57]⟩, ⟨#[49, 48, 48, 48, 48, 48, 48]⟩, ⟨#[45, 57, 57, 57, 57, 57, 57]⟩, ⟨#[49, 56, 52, 52, 54, 55, 52, 52, 48, 55, 51, 55, 48, 57, 53, 53, 49, 54, 49, 55]⟩]
def spec_DrawParseInt.f (l0 : List Int) : Option ByteArray :=
  (spec_l1Cur_one.f l0 0 0 2).bind fun a => if a.1 = true then (spec_l1Cur_of.f l0 a.2.1 a.2.2 seps3).bind fun b => some b.1 else (spec_l1Cur_pick.f l0 a.2.1 a.2.2 2000).bind fun b => if 0 ≤ b.1 ∧ b.1 < 2000 then spec_l1Num.f 40 (b.1 - 1000) else none
set_option maxRecDepth 100000 in
theorem spec_DrawParseInt.calls (A0 : Option Addr) (c0 : Nat) (l0 : List Int) (r : ByteArray) (w : World) (hr0 : Kd.C (Kd.int .u8) w A0 l0.length l0) (hc0 : l0.length ≤ c0) (h : spec_DrawParseInt.f l0 = some r) :
    Calls Tryd.prog 18 #[.slice A0 l0.length c0] w fun e w' => e = .returned (.string r) ∧ Below w.heap.size w w' := by
  unfold spec_DrawParseInt.f at h
  obtain ⟨⟨t1, t2, t3⟩, A1, h⟩ := Option.bind_eq_some_iff.1 h
  have hI := IsS51.new w w A0 c0 l0 0 0 (Below.refl _ _) hr0
  have hB := (Below.refl w.heap.size w).alloc (Nat.le_refl _) (.cells #[.slice A0 l0.length c0, .int .i64 0, .int .u64 0] 51)
  cases t1 with
  | true =>
    rw [if_pos rfl] at h
    obtain ⟨⟨u1, u2, u3⟩, A2, h⟩ := Option.bind_eq_some_iff.1 h
    injection h with h
    have e1 : u1 = r := h
    subst e1
    go_enter Tryd.func18, Tryd.ntmps18
    go_wp2_with (first | ((with_reducible refine gate_dst (N := 10) rfl ?_); refine Kd.R_lit Kd.string _ 9 ?hg (N := 10) ?hd (xs := seps3) (inner := seps3.map Value.string) (ok := fun _ => True) (okp := fun _ => True) ?hr ?hp (fun _ hk => hk) trivial (Below.refl _ _) (Nat.le_refl _) (by decide) ?_; (case hd => rfl); (case hg => rfl); (case hr => (simp only [seps3, List.map_cons, List.map_nil, List.length_cons, List.length_nil]; first | (go_simp; done) | (go_simp; rfl))); (case hp => exact reps_strs _ _ _ _); intro v13 w2 ho hb hg hnew; have HI2 := HI1.below hb; have HB2 := below_step HB1 hb; obtain ⟨Ao, co, eo⟩ := Kd.R_slice ho; subst eo) | (go_at_call 34; ((with_reducible refine (spec_l1Cur_one.calls _ l0 0 0 2 true t2 t3 w _ hI hB A1).mono ?_); rintro e w1 ⟨rfl, HI1, HB1, HK1⟩)) | (go_at_call 35; ((with_reducible refine (spec_l1Cur_of.calls _ l0 t2 t3 Ao co seps3 u1 u2 u3 w _ HI2 HB2 (Kd.R_reads' ho).2.2 (Kd.R_reads' ho).2.1 (far_slice (IsS51.own_ne HI2 ho (by decide))) A2).mono ?_); rintro e w3 ⟨rfl, HI3, HB3, HK3⟩)))
    go_ret
    exact ⟨rfl, HB3⟩
  | false =>
    rw [if_neg (by simp)] at h
    obtain ⟨⟨u1, u2, u3⟩, A2, h⟩ := Option.bind_eq_some_iff.1 h
    by_cases hn : 0 ≤ u1 ∧ u1 < 2000
    case neg => rw [if_neg hn] at h; cases h
    rw [if_pos hn] at h
    obtain ⟨z, hz⟩ : ∃ z, z = u1 - 1000 := ⟨_, rfl⟩
    have hw : wrap64 (u1 - 1000) = z := by rw [hz]; unfold wrap64; omega
    have h' : spec_l1Num.f 40 z = some r := by rw [hz]; exact h
    clear hn hz h
    go_enter Tryd.func18, Tryd.ntmps18
    go_wp2_with (first | (go_at_call 34; ((with_reducible refine (spec_l1Cur_one.calls _ l0 0 0 2 false t2 t3 w _ hI hB A1).mono ?_); rintro e w1 ⟨rfl, HI1, HB1, HK1⟩)) | (go_at_call 33; ((with_reducible refine (spec_l1Cur_pick.calls _ l0 t2 t3 2000 u1 u2 u3 w _ HI1 HB1 A2).mono ?_); rintro e w2 ⟨rfl, HI2, HB2, HK2⟩)) | (go_at_call 22; ((with_reducible refine (spec_l1Num.calls 40 z r _ h').mono ?_); rintro e w3 ⟨rfl, hd⟩)))
    go_ret
    exact ⟨rfl, below_step HB2 hd⟩
def spec_DrawAppendChecksum.f (l0 : List Int) : Option ByteArray :=
  (spec_l1Cur_one.f l0 0 0 20).bind fun a => if a.1 = true then (spec_l1Cur_pick.f l0 a.2.1 a.2.2 10).bind fun b => if 0 ≤ b.1 ∧ b.1 ≤ 9 then some (zs (3990 + b.1.toNat)) else none else (spec_l1Cur_any1.f l0 a.2.1 a.2.2).bind fun b => some b.1
set_option maxRecDepth 100000 in
theorem spec_DrawAppendChecksum.calls (A0 : Option Addr) (c0 : Nat) (l0 : List Int) (r : ByteArray) (w : World) (hr0 : Kd.C (Kd.int .u8) w A0 l0.length l0) (hc0 : l0.length ≤ c0) (h : spec_DrawAppendChecksum.f l0 = some r) :
    Calls Tryd.prog 19 #[.slice A0 l0.length c0] w fun e w' => e = .returned (.string r) ∧ Below w.heap.size w w' := by
  unfold spec_DrawAppendChecksum.f at h
  obtain ⟨⟨t1, t2, t3⟩, A1, h⟩ := Option.bind_eq_some_iff.1 h
  have hI := IsS51.new w w A0 c0 l0 0 0 (Below.refl _ _) hr0
  have hB := (Below.refl w.heap.size w).alloc (Nat.le_refl _) (.cells #[.slice A0 l0.length c0, .int .i64 0, .int .u64 0] 51)
  cases t1 with
  | true =>
    rw [if_pos rfl] at h
    obtain ⟨⟨u1, u2, u3⟩, A2, h⟩ := Option.bind_eq_some_iff.1 h
    by_cases hn : 0 ≤ u1 ∧ u1 ≤ 9
    case neg => rw [if_neg hn] at h; cases h
    rw [if_pos hn] at h
    injection h with h
    obtain ⟨N, hN⟩ : ∃ N : Nat, N = 3990 + u1.toNat := ⟨_, rfl⟩
    have hw : wrap64 (3990 + u1) = ((N : Nat) : Int) := by unfold wrap64; omega
    have hmk := print_make (P := Tryd.prog) 29 5 .u8 1 Tryd.underlying29 (by kernel_rfl) (by decide) N (by omega)
    have hcv := made_string N
    have he : zs N = r := by rw [hN]; exact h
    have hE := Lib.hid he
    clear he h hN hn
    go_enter Tryd.func19, Tryd.ntmps19
    go_wp2_with (first | (go_at_call 34; ((with_reducible refine (spec_l1Cur_one.calls _ l0 0 0 20 true t2 t3 w _ hI hB A1).mono ?_); rintro e w1 ⟨rfl, HI1, HB1, HK1⟩)) | (go_at_call 33; ((with_reducible refine (spec_l1Cur_pick.calls _ l0 t2 t3 10 u1 u2 u3 w _ HI1 HB1 A2).mono ?_); rintro e w2 ⟨rfl, HI2, HB2, HK2⟩)))
    go_ret
    exact ⟨by first | (rw [← hE.out]; rfl) | simp [hE.out], HB2.alloc HB2.size _⟩
  | false =>
    rw [if_neg (by simp)] at h
    obtain ⟨⟨u1, u2, u3⟩, A2, h⟩ := Option.bind_eq_some_iff.1 h
    injection h with h
    have e1 : u1 = r := h
    subst e1
    go_enter Tryd.func19, Tryd.ntmps19
    go_wp2_with (first | (go_at_call 34; ((with_reducible refine (spec_l1Cur_one.calls _ l0 0 0 20 false t2 t3 w _ hI hB A1).mono ?_); rintro e w1 ⟨rfl, HI1, HB1, HK1⟩)) | (go_at_call 36; ((with_reducible refine (spec_l1Cur_any1.calls _ l0 t2 t3 u1 u2 u3 w _ HI1 HB1 A2).mono ?_); rintro e w2 ⟨rfl, HI2, HB2, HK2⟩)))
    go_ret
    exact ⟨rfl, HB2⟩
end Go.Proofs.YtneaomnlpfeedaaDoor.PFnStrings
