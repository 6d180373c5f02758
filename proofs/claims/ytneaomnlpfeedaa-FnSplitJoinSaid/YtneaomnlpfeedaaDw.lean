/-
  The reference's draws of strings, as functions of the code: what they answer. No conditions.
-/
import Derived.Test.YtneaomnlpfeedaaPFnSplitJoinx2
import Derived.Test.YtneaomnlpfeedaaGv
import Derived.Lib.Hide
namespace Go.Proofs.Ytneaomnlpfeedaa.PFnSplitJoin
open Go.RowKit Go.Proofs.YtneaomnlpfeedaaW.PrintWords Go.Proofs.YtneaomnlpfeedaaW.PrintLast
set_option linter.unusedVariables false
set_option linter.unusedSimpArgs false

def spec_DrawLessString.f (l0 : List Int) : Option (ByteArray × ByteArray) :=
  (spec_l1Cur_any1.f l0 0 0).bind fun a => (spec_l1Cur_any1.f l0 a.2.1 a.2.2).bind fun b => some (a.1, b.1)
set_option maxRecDepth 100000 in
theorem spec_DrawLessString.calls (A0 : Option Addr) (c0 : Nat) (l0 : List Int) (r1 r2 : ByteArray) (w : World) (hr0 : Kd.C (Kd.int .u8) w A0 l0.length l0) (hc0 : l0.length ≤ c0) (h : spec_DrawLessString.f l0 = some (r1, r2)) :
    Calls Try.prog 25 #[.slice A0 l0.length c0] w fun e w' => e = .returned (.tuple #[.string r1, .string r2]) ∧ Below w.heap.size w w' := by
  unfold spec_DrawLessString.f at h
  obtain ⟨⟨t1, t2, t3⟩, A1, h⟩ := Option.bind_eq_some_iff.1 h
  obtain ⟨⟨u1, u2, u3⟩, A2, h⟩ := Option.bind_eq_some_iff.1 h
  injection h with h
  injection h with h1 h2
  have e1 : t1 = r1 := h1
  have e2 : u1 = r2 := h2
  subst e1 e2
  have hI := IsS51.new w w A0 c0 l0 0 0 (Below.refl _ _) hr0
  have hB := (Below.refl w.heap.size w).alloc (Nat.le_refl _) (.cells #[.slice A0 l0.length c0, .int .i64 0, .int .u64 0] 51)
  go_enter Try.func25, Try.ntmps25
  go_wp2_with (go_at_call 34; first | ((with_reducible refine (spec_l1Cur_any1.calls _ l0 0 0 t1 t2 t3 w _ hI hB A1).mono ?_); rintro e w1 ⟨rfl, HI1, HB1, HK1⟩) | ((with_reducible refine (spec_l1Cur_any1.calls _ l0 t2 t3 u1 u2 u3 w _ HI1 HB1 A2).mono ?_); rintro e w2 ⟨rfl, HI2, HB2, HK2⟩))
  exact bodyPost_ret (v := .tuple #[.string t1, .string u1]) (by simp [results, Try.results25, go_sem, *]) rfl ⟨rfl, HB2⟩

/-- a literal row of strings -/
theorem reps_strs (W : World) (base : Nat) (ok : Nat → Prop) : ∀ l : List ByteArray, Reps (Kd.M Kd.string W base ok) Kd.string.sz l (l.map Value.string)
  | [] => Reps.none _ _
  | s :: l => Reps.one (show Kd.M Kd.string W base ok s [.string s] from rfl) (reps_strs W base ok l)
def seps1 : List ByteArray := [(⟨#[44]⟩ : ByteArray), ⟨#[44]⟩, ⟨#[32]⟩, ⟨#[]⟩, ⟨#[44, 44]⟩]
def spec_DrawSplitString.f (l0 : List Int) : Option (ByteArray × ByteArray) :=
  (spec_l1Cur_any1.f l0 0 0).bind fun a => (spec_l1Cur_of.f l0 a.2.1 a.2.2 seps1).bind fun b => some (a.1, b.1)
set_option maxRecDepth 100000 in
theorem spec_DrawSplitString.calls (A0 : Option Addr) (c0 : Nat) (l0 : List Int) (r1 r2 : ByteArray) (w : World) (hr0 : Kd.C (Kd.int .u8) w A0 l0.length l0) (hc0 : l0.length ≤ c0) (h : spec_DrawSplitString.f l0 = some (r1, r2)) :
    Calls Try.prog 23 #[.slice A0 l0.length c0] w fun e w' => e = .returned (.tuple #[.string r1, .string r2]) ∧ Below w.heap.size w w' := by
  unfold spec_DrawSplitString.f at h
  obtain ⟨⟨t1, t2, t3⟩, A1, h⟩ := Option.bind_eq_some_iff.1 h
  obtain ⟨⟨u1, u2, u3⟩, A2, h⟩ := Option.bind_eq_some_iff.1 h
  injection h with h
  injection h with h1 h2
  have e1 : t1 = r1 := h1
  have e2 : u1 = r2 := h2
  subst e1 e2
  have hI := IsS51.new w w A0 c0 l0 0 0 (Below.refl _ _) hr0
  have hB := (Below.refl w.heap.size w).alloc (Nat.le_refl _) (.cells #[.slice A0 l0.length c0, .int .i64 0, .int .u64 0] 51)
  go_enter Try.func23, Try.ntmps23
  go_wp2_with (first | ((with_reducible refine gate_dst (N := 13) rfl ?_); refine Kd.R_lit Kd.string _ 9 ?hg (N := 13) ?hd (xs := seps1) (inner := seps1.map Value.string) (ok := fun _ => True) (okp := fun _ => True) ?hr ?hp (fun _ hk => hk) trivial (Below.refl _ _) (Nat.le_refl _) (by decide) ?_; (case hd => rfl); (case hg => rfl); (case hr => (simp only [seps1, List.map_cons, List.map_nil, List.length_cons, List.length_nil]; first | (go_simp; done) | (go_simp; rfl))); (case hp => exact reps_strs _ _ _ _); intro v13 w2 ho hb hg hnew; have HI2 := HI1.below hb; have HB2 := below_step HB1 hb; obtain ⟨Ao, co, eo⟩ := Kd.R_slice ho; subst eo) | (go_at_call 34; ((with_reducible refine (spec_l1Cur_any1.calls _ l0 0 0 t1 t2 t3 w _ hI hB A1).mono ?_); rintro e w1 ⟨rfl, HI1, HB1, HK1⟩)) | (go_at_call 35; ((with_reducible refine (spec_l1Cur_of.calls _ l0 t2 t3 Ao co seps1 u1 u2 u3 w _ HI2 HB2 (Kd.R_reads' ho).2.2 (Kd.R_reads' ho).2.1 (far_slice (IsS51.own_ne HI2 ho (by decide))) A2).mono ?_); rintro e w3 ⟨rfl, HI3, HB3, HK3⟩)))
  exact bodyPost_ret (v := .tuple #[.string t1, .string u1]) (by simp [results, Try.results23, go_sem, *]) rfl ⟨rfl, HB3⟩

def seps2 : List ByteArray := [(⟨#[44]⟩ : ByteArray), ⟨#[59]⟩, ⟨#[59]⟩, ⟨#[]⟩, ⟨#[97, 98]⟩]
def zs (n : Nat) : ByteArray := ⟨(List.replicate n (0 : UInt8)).toArray⟩
/-- some strings drawn one behind another -/
def dj (l0 : List Int) (a s : Int) : Nat → Option (List ByteArray × Int × Int)
  | 0 => some ([], a, s)
  | k + 1 => (dj l0 a s k).bind fun x => (spec_l1Cur_any1.f l0 x.2.1 x.2.2).bind fun y => some (x.1 ++ [y.1], y.2.1, y.2.2)
theorem dj_some (l0 : List Int) (a s : Int) (n : Nat) (h : ∃ r, dj l0 a s n = some r) : ∀ d k, k + d = n → ∃ r, dj l0 a s k = some r
  | 0, k, e => by rw [Nat.add_zero] at e; subst e; exact h
  | d + 1, k, e => by
    obtain ⟨r, hr⟩ := dj_some l0 a s n h d (k + 1) (by omega)
    unfold dj at hr
    obtain ⟨x, hx, _⟩ := Option.bind_eq_some_iff.1 hr
    exact ⟨x, hx⟩
theorem dj_len (l0 : List Int) (a s : Int) : ∀ n r, dj l0 a s n = some r → r.1.length = n
  | 0, r, h => by injection h with h; subst h; rfl
  | n + 1, r, h => by
    unfold dj at h
    obtain ⟨x, hx, h⟩ := Option.bind_eq_some_iff.1 h
    obtain ⟨y, hy, h⟩ := Option.bind_eq_some_iff.1 h
    injection h with h
    subst h
    have := dj_len l0 a s n x hx
    show (x.1 ++ [y.1]).length = n + 1
    rw [List.length_append, this]; rfl
def djEnd (l0 : List Int) (xs : List ByteArray) (b : Bool) (a s : Int) : Option (List ByteArray × Int × Int) :=
  if b = true then (spec_l1Cur_pick.f l0 a s 20).bind fun d => if 0 ≤ d.1 ∧ d.1 ≤ 19 then some (xs ++ [zs (3990 + d.1.toNat)], d.2.1, d.2.2) else none else some (xs, a, s)
def spec_DrawJoinStrings.f (l0 : List Int) : Option (List ByteArray × ByteArray) :=
  (spec_l1Cur_pick.f l0 0 0 4).bind fun n => if 0 ≤ n.1 ∧ n.1 ≤ 3 then (dj l0 n.2.1 n.2.2 n.1.toNat).bind fun b => (spec_l1Cur_one.f l0 b.2.1 b.2.2 20).bind fun c => (djEnd l0 b.1 c.1 c.2.1 c.2.2).bind fun e => (spec_l1Cur_of.f l0 e.2.1 e.2.2 seps2).bind fun g => some (e.1, g.1) else none

def JoRel (w : World) (l0 : List Int) (a s : Int) (n : Nat) (o i : Value) (wr : World) : Prop :=
  ∃ (k : Nat) (xs : List ByteArray) (a' s' : Int), k ≤ n ∧ i = .int .i64 (k : Int) ∧ dj l0 a s k = some (xs, a', s') ∧ Kd.R Kd.string 9 wr w.heap.size (fun _ => True) o xs ∧ IsS51 w wr w.heap.size l0 a' s' ∧ Below w.heap.size w wr
theorem made_string (N : Nat) (W : World) : (convert 36 9 (.slice (some ⟨W.heap.size, 0, none⟩) N N)).run Try.prog (W.alloc (.cells (madeCells #[.int .u8 0] N) 5)) = .ok (.string (zs N)) (W.alloc (.cells (madeCells #[.int .u8 0] N) 5)) := by
  have h := run_convert_bytes_back (P := Try.prog) (W.alloc (.cells (madeCells #[.int .u8 0] N) 5)) 36 9 5 ⟨W.heap.size, 0, none⟩ N (List.replicate N 0) Try.underlying36 Try.underlying5 Try.underlying9 (fun j hj => by
    rw [List.length_replicate] at hj
    have e : (⟨W.heap.size, 0, none⟩ : Addr).add j = ⟨W.heap.size, j, none⟩ := by
      unfold Addr.add
      split <;> simp_all
    rw [e, List.getElem_replicate]
    unfold World.cell?
    rw [show (⟨W.heap.size, j, none⟩ : Addr).block = W.heap.size from rfl, heap_alloc_new]
    simp [madeCells, hj, Nat.mod_one])
  rw [List.length_replicate] at h
  exact h
set_option maxRecDepth 100000 in
set_option maxHeartbeats 1600000 in
theorem spec_DrawJoinStrings.calls (A0 : Option Addr) (c0 : Nat) (l0 : List Int) (r1 : List ByteArray) (r2 : ByteArray) (w : World) (hr0 : Kd.C (Kd.int .u8) w A0 l0.length l0) (hc0 : l0.length ≤ c0) (h : spec_DrawJoinStrings.f l0 = some (r1, r2)) :
    Calls Try.prog 24 #[.slice A0 l0.length c0] w fun e w' => ∃ v0_ : Value, e = .returned (.tuple #[v0_, .string r2]) ∧ Kd.R Kd.string 9 w' w.heap.size (fun _ => True) v0_ r1 ∧ Below w.heap.size w w' := by
  unfold spec_DrawJoinStrings.f at h
  obtain ⟨⟨n0, n2, n3⟩, A1, h⟩ := Option.bind_eq_some_iff.1 h
  by_cases hn : 0 ≤ n0 ∧ n0 ≤ 3
  case neg => rw [if_neg hn] at h; cases h
  rw [if_pos hn] at h
  obtain ⟨⟨b1, b2, b3⟩, A2, h⟩ := Option.bind_eq_some_iff.1 h
  obtain ⟨⟨d1, d2, d3⟩, A3, h⟩ := Option.bind_eq_some_iff.1 h
  obtain ⟨⟨e1, e2, e3⟩, A4, h⟩ := Option.bind_eq_some_iff.1 h
  obtain ⟨⟨u1, u2, u3⟩, A5, h⟩ := Option.bind_eq_some_iff.1 h
  injection h with h
  injection h with h1 h2
  have f1 : e1 = r1 := h1
  have f2 : u1 = r2 := h2
  subst f1 f2
  obtain ⟨n, hnn⟩ : ∃ n : Nat, n0 = (n : Int) := ⟨n0.toNat, by omega⟩
  subst hnn
  rw [Int.toNat_natCast] at A2
  have hn3 : n ≤ 3 := by omega
  have hI := IsS51.new w w A0 c0 l0 0 0 (Below.refl _ _) hr0
  have hB := (Below.refl w.heap.size w).alloc (Nat.le_refl _) (.cells #[.slice A0 l0.length c0, .int .i64 0, .int .u64 0] 51)
  go_enter Try.func24, Try.ntmps24
  go_wp2_with (first | ((with_reducible refine gate_dst (N := 11) rfl ?_); refine Kd.R_lit Kd.string w.heap.size 9 ?hg (N := 11) ?hd (xs := ([] : List ByteArray)) (inner := []) (ok := fun _ => True) (okp := fun _ => True) ?hr ?hp (fun _ hk => hk) trivial hB hB.size (by decide) ?_; (case hd => rfl); (case hg => rfl); (case hr => first | (go_simp; done) | (go_simp; rfl)); (case hp => exact reps_strs _ _ _ []); intro v11 w2 ho hb2 hg hnew; have HI2 := hI.grown hg (by simp)) | (go_at_call 36; ((with_reducible refine (spec_l1Cur_pick.calls _ l0 0 0 4 (n : Int) n2 n3 w _ HI2 hb2 A1).mono ?_); rintro e w3 ⟨rfl, HI3, HB3, HK3⟩)))
  have HO3 := Kd.R_mono (Kd.R_keep (IsS51.apart HI2 ho (by decide)) HK3 (fun _ h => h.2)) (fun _ h => h.1)
  clear ho hb2 hg hnew HI2 HK3 hI hB A1 hn
  obtain ⟨W0, hW0⟩ : ∃ W0 : World, W0 = w3 := ⟨_, rfl⟩
  go_loopw [5, 7] (JoRel w l0 n2 n3 n) (fun _ i _ => n - (intOf i).toNat)
  case atStart => exact ⟨0, [], n2, n3, Nat.zero_le _, rfl, rfl, HO3, HI3, HB3⟩
  case round =>
    obtain ⟨k, xs, a', s', hk, rfl, hd, HO, HI, HB⟩ := hrel
    clear HO3 HI3 HB3
    have hxl : xs.length = k := dj_len l0 n2 n3 k _ hd
    by_cases hlt : k < n
    · have hlt' : (k : Int) < (n : Int) := by omega
      obtain ⟨⟨ys, a2, s2⟩, hd2⟩ := dj_some l0 n2 n3 n ⟨_, A2⟩ (n - (k + 1)) (k + 1) (by omega)
      have hd3 := hd2
      unfold dj at hd3
      rw [hd] at hd3
      simp only [Option.bind_some] at hd3
      obtain ⟨⟨t1, t2, t3⟩, B1, hd3⟩ := Option.bind_eq_some_iff.1 hd3
      injection hd3 with hd3
      injection hd3 with g1 g2
      injection g2 with g2 g3
      have f1 : xs ++ [t1] = ys := g1
      have f2 : t2 = a2 := g2
      have f3 : t3 = s2 := g3
      subst f1 f2 f3
      clear g1 g2 g3 hd A2 A3 A4 A5
      go_wp2_with (first | ((with_reducible refine gate_builtin (b := .append) (xs := #[.tmp 19, .tmp 22]) rfl ?_); at_builtin; refine Kd.R_append Kd.string (w0 := w) w.heap.size rfl (.tmp 19) (.tmp 22) 27 9 (.string ⟨#[]⟩) 16 rfl Try.underlying27 info9 rfl (by decide) (by omega) _ xs t1 [.string t1] (fun _ => True) (fun _ => False) rfl rfl ?aP (fun _ hk => hk.elim) ?aF ?aO ?aB ?aS ?aL ?_; (case aP => exact rfl); (case aB => exact HB4); (case aF => exact (fun _ _ => trivial)); (case aO => exact HO4); (case aS => exact HB4.size); (case aL => omega); intro v5 w5 ho5 hb5 hg5 hat5) | (go_at_call 34; ((with_reducible refine (spec_l1Cur_any1.calls _ l0 a' s' t1 t2 t3 w _ HI HB B1).mono ?_); rintro e w4 ⟨rfl, HI4, HB4, HK4⟩; have HO4 := Kd.R_mono (Kd.R_keep (IsS51.apart HI HO (by decide)) HK4 (fun _ h => h.2)) (fun _ h => h.1))))
      have HI5 := HI4.grown hg5 (IsS51.own_ne HI4 HO4 (by decide))
      go_roundw
      case rel => exact ⟨k + 1, _, t2, t3, by omega, by go_num, hd2, ho5, HI5, hb5⟩
      case measure => simp [intOf]; omega
    · have e : k = n := by omega
      subst e
      rw [hd] at A2
      injection A2 with A2
      injection A2 with g1 g2
      injection g2 with g2 g3
      subst g1 g2 g3
      clear hd
      cases d1 with
      | false =>
        unfold djEnd at A4
        rw [if_neg (by decide)] at A4
        injection A4 with A4
        injection A4 with g1 g2
        injection g2 with g2 g3
        subst g1 g2 g3
        go_wp2_with (first | ((with_reducible refine gate_dst (N := 36) rfl ?_); refine Kd.R_lit Kd.string w.heap.size 9 ?hg (N := 36) ?hd (xs := seps2) (inner := seps2.map Value.string) (ok := fun _ => True) (okp := fun _ => True) ?hr ?hp (fun _ hk => hk) trivial HB4 HB4.size (by decide) ?_; (case hd => rfl); (case hg => rfl); (case hr => (simp only [seps2, List.map_cons, List.map_nil, List.length_cons, List.length_nil]; first | (go_simp; done) | (go_simp; rfl))); (case hp => exact reps_strs _ _ _ _); intro v36 w8 ho8 hb8 hg8 hnew8; have HI8 := HI4.grown hg8 (by simp); have HO8 := Kd.R_grown HO4 hg8 (fun _ _ => by simp); obtain ⟨Ao, co, eo⟩ := Kd.R_slice ho8; subst eo) | (go_at_call 37; ((with_reducible refine (spec_l1Cur_one.calls _ l0 a' s' 20 false d2 d3 w _ HI HB A3).mono ?_); rintro e w4 ⟨rfl, HI4, HB4, HK4⟩; have HO4 := Kd.R_mono (Kd.R_keep (IsS51.apart HI HO (by decide)) HK4 (fun _ h => h.2)) (fun _ h => h.1))) | (go_at_call 35; ((with_reducible refine (spec_l1Cur_of.calls _ l0 d2 d3 Ao co seps2 u1 u2 u3 w _ HI8 hb8 (Kd.R_reads' ho8).2.2 (Kd.R_reads' ho8).2.1 (far_slice (IsS51.own_ne HI8 ho8 (by decide))) A5).mono ?_); rintro e w9 ⟨rfl, HI9, HB9, HK9⟩; have HO9 := Kd.R_mono (Kd.R_keep (IsS51.apart HI8 HO8 (by decide)) HK9 (fun _ h => h.2)) (fun _ h => h.1))))
        exact bodyPost_ret (by simp [results, Try.results24, go_sem, *]) rfl ⟨_, rfl, HO9, HB9⟩
      | true =>
        unfold djEnd at A4
        rw [if_pos rfl] at A4
        obtain ⟨⟨q1, q2, q3⟩, A6, A4⟩ := Option.bind_eq_some_iff.1 A4
        by_cases hq : 0 ≤ q1 ∧ q1 ≤ 19
        case neg => rw [if_neg hq] at A4; cases A4
        rw [if_pos hq] at A4
        injection A4 with A4
        injection A4 with g1 g2
        injection g2 with g2 g3
        have f2 : q2 = e2 := g2
        have f3 : q3 = e3 := g3
        subst f2 f3
        obtain ⟨N, hN⟩ : ∃ N : Nat, N = 3990 + q1.toNat := ⟨_, rfl⟩
        have hw : wrap64 (3990 + q1) = ((N : Nat) : Int) := by unfold wrap64; omega
        have hmk := print_make (P := Try.prog) 36 5 .u8 1 Try.underlying36 (by kernel_rfl) (by decide) N (by omega)
        have hcv := made_string N
        have HQ := Lib.hid hN
        have he : e1 = xs ++ [zs N] := by rw [← g1, hN]
        have hE := Lib.hid he
        clear he g1 hN hq
        go_wp2_with (first | ((with_reducible refine gate_builtin (b := .append) (xs := #[.tmp 26, .tmp 32]) rfl ?_); at_builtin; refine Kd.R_append Kd.string (w0 := w) w.heap.size rfl (.tmp 26) (.tmp 32) 27 9 (.string ⟨#[]⟩) 16 rfl Try.underlying27 info9 rfl (by decide) (by omega) _ xs (zs N) [.string (zs N)] (fun _ => True) (fun _ => False) rfl (by rw [World.size_alloc]; rfl) ?aP (fun _ hk => hk.elim) ?aF ?aO ?aB ?aS ?aL ?_; (case aP => exact rfl); (case aB => exact HB5.alloc HB5.size _); (case aF => exact (fun _ _ => trivial)); (case aO => exact Kd.R_alloc HO5 _); (case aS => exact (HB5.alloc HB5.size _).size); (case aL => omega); intro v5 w7 HO7 HB7 hg7 hat7; have HI7 := (HI5.alloc (.cells (madeCells #[.int .u8 0] N) 5)).grown hg7 (IsS51.own_ne (HI5.alloc (.cells (madeCells #[.int .u8 0] N) 5)) (Kd.R_alloc HO5 (.cells (madeCells #[.int .u8 0] N) 5)) (by decide))) | ((with_reducible refine gate_dst (N := 36) rfl ?_); refine Kd.R_lit Kd.string w.heap.size 9 ?hg (N := 36) ?hd (xs := seps2) (inner := seps2.map Value.string) (ok := fun _ => True) (okp := fun _ => True) ?hr ?hp (fun _ hk => hk) trivial HB7 HB7.size (by decide) ?_; (case hd => rfl); (case hg => rfl); (case hr => (simp only [seps2, List.map_cons, List.map_nil, List.length_cons, List.length_nil]; first | (go_simp; done) | (go_simp; rfl))); (case hp => exact reps_strs _ _ _ _); intro v36 w8 ho8 hb8 hg8 hnew8; have HI8 := HI7.grown hg8 (by simp); have HO8 := Kd.R_grown HO7 hg8 (fun _ _ => by simp); obtain ⟨Ao, co, eo⟩ := Kd.R_slice ho8; subst eo) | (go_at_call 37; ((with_reducible refine (spec_l1Cur_one.calls _ l0 a' s' 20 true d2 d3 w _ HI HB A3).mono ?_); rintro e w4 ⟨rfl, HI4, HB4, HK4⟩; have HO4 := Kd.R_mono (Kd.R_keep (IsS51.apart HI HO (by decide)) HK4 (fun _ h => h.2)) (fun _ h => h.1))) | (go_at_call 36; ((with_reducible refine (spec_l1Cur_pick.calls _ l0 d2 d3 20 q1 q2 q3 w _ HI4 HB4 A6).mono ?_); rintro e w5 ⟨rfl, HI5, HB5, HK5⟩; have HO5 := Kd.R_mono (Kd.R_keep (IsS51.apart HI4 HO4 (by decide)) HK5 (fun _ h => h.2)) (fun _ h => h.1))) | (go_at_call 35; ((with_reducible refine (spec_l1Cur_of.calls _ l0 q2 q3 Ao co seps2 u1 u2 u3 w _ HI8 hb8 (Kd.R_reads' ho8).2.2 (Kd.R_reads' ho8).2.1 (far_slice (IsS51.own_ne HI8 ho8 (by decide))) A5).mono ?_); rintro e w9 ⟨rfl, HI9, HB9, HK9⟩; have HO9 := Kd.R_mono (Kd.R_keep (IsS51.apart HI8 HO8 (by decide)) HK9 (fun _ h => h.2)) (fun _ h => h.1))))
        exact bodyPost_ret (v := .tuple #[v5, .string u1]) (by simp [results, Try.results24, go_sem, *]) rfl ⟨_, rfl, by rw [hE.out]; exact HO9, HB9⟩
end Go.Proofs.Ytneaomnlpfeedaa.PFnSplitJoin
