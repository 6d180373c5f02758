/-
  The reference's l4Basis: contract. No conditions.
-/
import Derived.Test.YtgjgefbcfcomcaaGreatDoorUf
import Derived.Test.YtgjgefbcfcomcaaGreatDoorUd
namespace Go.Proofs.YtgjgefbcfcomcaaGreatDoor
open Go.RowKit
set_option linter.unusedSimpArgs false
set_option linter.unusedVariables false

theorem BS.small {G O : List Nat} (h : BS G O) : O.length ≤ 36 := by
  have := ind_le (m := sgl 36) h.ind (fun v hv => (sp_sgl 36 v).2 (h.lead v hv).1)
  rw [sgl_len] at this
  exact this
/-- sheets, to the first k of which s has been added -/
def mdS (s : Nat) (O : List Nat) (k : Nat) : List Nat := (O.take k).map (adS s) ++ O.drop k
theorem mdS_len (s : Nat) (O : List Nat) (k : Nat) : (mdS s O k).length = O.length := by unfold mdS; simp; omega
theorem mdS_zero (s : Nat) (O : List Nat) : mdS s O 0 = O := by unfold mdS; simp
theorem mdS_all (s : Nat) (O : List Nat) : mdS s O O.length = O.map (adS s) := by unfold mdS; simp
theorem mdS_get (s : Nat) (O : List Nat) (k : Nat) (hk : k < O.length) : (mdS s O k).getD k 0 = O.getD k 0 := by
  unfold mdS
  rw [List.getD_eq_getElem?_getD, List.getD_eq_getElem?_getD, List.getElem?_append_right (by simp; omega), List.getElem?_drop]
  congr 2
  simp; omega
theorem mdS_succ (s : Nat) (O : List Nat) (k : Nat) (hk : k < O.length) : mdS s O (k + 1) = (mdS s O k).set k (adS s (O.getD k 0)) := by
  have hl : ((O.take k).map (adS s)).length = k := by simp; omega
  unfold mdS
  rw [take_snoc O 0 k hk, List.map_append, List.append_assoc, List.set_append_right _ _ (by omega), hl, Nat.sub_self]
  congr 1
  rw [List.drop_eq_getElem_cons hk]
  rfl
theorem set_sameN (R : List Nat) (k : Nat) : R.set k (R.getD k 0) = R := by
  apply List.ext_getElem?
  intro j
  rw [List.getElem?_set]
  split
  · rename_i e
    subst e
    split
    · rename_i hl
      rw [List.getD_eq_getElem?_getD, List.getElem?_eq_getElem hl]; rfl
    · rename_i hl
      rw [List.getElem?_eq_none (by omega)]
  · rfl
theorem cells6_new (W : World) (a0 a1 a2 a3 a4 a5 : Value) (t : TypeId) (SP : Nat) (hS : SP = W.heap.size) : ∀ j u, [a0, a1, a2, a3, a4, a5][j]? = some u → (W.alloc (.cells #[a0, a1, a2, a3, a4, a5] t)).cell? ((⟨SP, 0, none⟩ : Addr).add j) = some u := by
  subst hS
  intro j u hj
  match j, hj with
  | 0, hj => simp at hj; subst hj; simp [Addr.add]
  | 1, hj => simp at hj; subst hj; simp [Addr.add]
  | 2, hj => simp at hj; subst hj; simp [Addr.add]
  | 3, hj => simp at hj; subst hj; simp [Addr.add]
  | 4, hj => simp at hj; subst hj; simp [Addr.add]
  | 5, hj => simp at hj; subst hj; simp [Addr.add]
theorem add_plain (B o j : Nat) : (⟨B, o, none⟩ : Addr).add j = ⟨B, o + j, none⟩ := by
  unfold Addr.add
  split <;> simp_all
theorem cells_kept {W W1 : World} {v : Value} {B o : Nat} {L : List Value} (hg : W.grownBy W1 v.ownBlock) (hlt : B < W.heap.size) (hne : v.ownBlock ≠ some B) (h : ∀ j u, L[j]? = some u → W.cell? ((⟨B, o, none⟩ : Addr).add j) = some u) :
    ∀ j u, L[j]? = some u → W1.cell? ((⟨B, o, none⟩ : Addr).add j) = some u := fun j u hj => by
  have hb := hg.block B hlt (fun e => hne e.symm)
  have := h j u hj
  rw [add_plain] at this ⊢
  unfold World.cell? at this ⊢
  rw [show (⟨B, o + j, none⟩ : Addr).block = B from rfl, hb]
  exact this
theorem cells_past {W : World} {ob : Obj} {B o : Nat} {L : List Value} (hlt : B < W.heap.size) (h : ∀ j u, L[j]? = some u → W.cell? ((⟨B, o, none⟩ : Addr).add j) = some u) : ∀ j u, L[j]? = some u → (W.alloc ob).cell? ((⟨B, o, none⟩ : Addr).add j) = some u := fun j u hj => by
  rw [add_plain, World.cell?_alloc_past _ _ _ hlt, ← add_plain]
  exact h j u hj
theorem ins_own {W : World} {b B n r : Nat} {v : Value} {O : List Nat} {s : Nat} (hb : B ≤ b) (hn : n ≤ O.length) (hr : r = O.length - n)
    (h : W.ownsRow b 26 6 v (0 + n + 1 + r) ([] ++ (shI (O.take n)).map (Value.int .i64) ++ [.int .i64 (row s 0), .int .i64 (row s 1), .int .i64 (row s 2), .int .i64 (row s 3), .int .i64 (row s 4), .int .i64 (row s 5)] ++ (shI (O.drop n)).map (Value.int .i64))) : OwnsS W B v (O.take n ++ s :: O.drop n) := by
  have e1 : (shI (O.take n ++ s :: O.drop n)).map (Value.int .i64) = [] ++ (shI (O.take n)).map (Value.int .i64) ++ [.int .i64 (row s 0), .int .i64 (row s 1), .int .i64 (row s 2), .int .i64 (row s 3), .int .i64 (row s 4), .int .i64 (row s 5)] ++ (shI (O.drop n)).map (Value.int .i64) := by
    rw [shI_app, shI_cons]
    simp
  have e2 : (O.take n ++ s :: O.drop n).length = 0 + n + 1 + r := by
    rw [List.length_append, List.length_cons, List.length_take, List.length_drop]
    omega
  unfold OwnsS
  rw [e1, e2]
  refine ⟨⟨h.1, ?_⟩, ?_⟩
  · rcases h.2 with h | ⟨g, cap, cur, h1, h2, h3⟩
    · exact .inl h
    · exact .inr ⟨g, cap, cur, h1, by omega, h3⟩
  · rcases h.2 with ⟨_, h⟩ | ⟨g, cap, cur, h1, _⟩
    · omega
    · rw [h1]; simp
theorem take_cells {w W : World} {B g n cap k : Nat} {L : List Nat} (h : OwnsS w B (.slice (some ⟨g, 0, none⟩) n cap) L) (hn : n = L.length) (hb : Below w.heap.size w W) : ∀ j u, ((shI (L.take k)).map (Value.int .i64))[j]? = some u → W.cell? ((⟨g, 0, none⟩ : Addr).add j) = some u := fun j u hj => by
  subst hn
  have hgl := (h.1.lt g rfl).2
  have hx : ((shI L).map (Value.int .i64))[j]? = some u := by
    rw [← List.take_append_drop k L, shI_app, List.map_append, List.getElem?_append_left (List.getElem?_eq_some_iff.1 hj).1]
    exact hj
  have := h.1.cells (g := g) rfl j u hx
  rw [add_plain] at this ⊢
  exact (hb.cell (p := ⟨g, 0 + j, none⟩) hgl).trans this
theorem drop_cells {w W : World} {B g n cap k : Nat} {L : List Nat} (h : OwnsS w B (.slice (some ⟨g, 0, none⟩) n cap) L) (hn : n = L.length) (hk : k ≤ L.length) (hb : Below w.heap.size w W) : ∀ j u, ((shI (L.drop k)).map (Value.int .i64))[j]? = some u → W.cell? ((⟨g, k * 6, none⟩ : Addr).add j) = some u := fun j u hj => by
  subst hn
  have hgl := (h.1.lt g rfl).2
  have hx : ((shI L).map (Value.int .i64))[k * 6 + j]? = some u := by
    have hl : ((shI (L.take k)).map (Value.int .i64)).length = k * 6 := by rw [List.length_map, shI_len, List.length_take]; omega
    rw [← List.take_append_drop k L, shI_app, List.map_append, List.getElem?_append_right (by omega), hl, Nat.add_sub_cancel_left]
    exact hj
  have := h.1.cells (g := g) rfl (k * 6 + j) u hx
  rw [add_plain] at this ⊢
  rw [Nat.zero_add] at this
  exact (hb.cell (p := ⟨g, k * 6 + j, none⟩) hgl).trans this
theorem OwnsS.cap {w : World} {B g n cap : Nat} {L : List Nat} (h : OwnsS w B (.slice (some ⟨g, 0, none⟩) n cap) L) (hn : n = L.length) : n ≤ cap ∧ cap ≤ maxLen := by
  subst hn
  rcases h.1.2 with ⟨h1, _⟩ | ⟨g', cap', cur, hv, _, _, h1, h2, _⟩
  · simp at h1
  · simp only [Value.slice.injEq, Option.some.injEq, Addr.mk.injEq, and_true, true_and] at hv
    obtain ⟨_, rfl⟩ := hv
    exact ⟨h1, h2⟩
def BaRel (G : List Nat) (w : World) (vo i : Value) (wr : World) : Prop :=
  ∃ (m : Nat) (O : List Nat), m ≤ G.length ∧ i = .int .i64 (m : Int) ∧ OwnsS wr w.heap.size vo O ∧ BS (G.take m) O ∧ Below w.heap.size w wr
def BaEnd (G : List Nat) (w : World) (e : Ending) (w' : World) : Prop := ∃ vo O, e = .returned vo ∧ OwnsS w' w.heap.size vo O ∧ BS G O ∧ Below w.heap.size w w'
def IbRel (s S5 g cap : Nat) (O : List Nat) (w : World) (i : Value) (wr : World) : Prop :=
  ∃ k : Nat, k ≤ O.length ∧ i = .int .i64 (k : Int) ∧ OwnsS wr w.heap.size (.slice (some ⟨g, 0, none⟩) O.length cap) (mdS s O k) ∧ HoldsA wr 26 (S5) (row s 0) (row s 1) (row s 2) (row s 3) (row s 4) (row s 5) ∧ Below w.heap.size w wr
def NbRel (s S5 g cap : Nat) (O : List Nat) (w : World) (i : Value) (wr : World) : Prop :=
  ∃ n : Nat, n ≤ O.length ∧ i = .int .i64 (n : Int) ∧ (∀ o, o ∈ O.take n → ldN o < ldN s) ∧ OwnsS wr w.heap.size (.slice (some ⟨g, 0, none⟩) O.length cap) (O.map (adS s)) ∧ HoldsA wr 26 (S5) (row s 0) (row s 1) (row s 2) (row s 3) (row s 4) (row s 5) ∧ Below w.heap.size w wr
set_option maxRecDepth 100000 in
set_option maxHeartbeats 16000000 in
theorem l4Basis_any (vl : Value) (G : List Nat) (hG : ∀ x, x ∈ G → Vs x) (hGl : G.length ≤ 1000) (w : World) (hr : ReadsS w vl G) : Calls Tryz.prog 64 #[vl] w (BaEnd G w) := by
  obtain ⟨j0, hj, jz0, jz1, jz2⟩ := info_parts infoSheet
  have HG := Lib.hid hG
  clear hG
  rcases hr with ⟨rfl, rfl⟩ | ⟨gl, capl, rfl, hgl, hcell⟩
  · go_enter Tryz.func64, Tryz.ntmps64
    go_wp2
    refine wp_loop_rounds 2 ?_
    rw [rounds_succ]
    go_wp2
    go_ret
    exact ⟨_, [], rfl, ownsS_empty _ _ _ (Nat.le_refl _) rfl, BS.start, (by repeat (first | with_reducible exact Below.refl _ _ | with_reducible assumption | with_reducible refine Below.drew ?_ | with_reducible refine below_drewN ?_ _ | with_reducible refine Below.alloc ?_ ?_ _ | with_reducible refine Below.setCell ?_ ?_ _ | with_reducible refine Below.trans ?_ (Below.mono (by assumption) ?_) | omega | (simp <;> omega)))⟩
  · go_enter Tryz.func64, Tryz.ntmps64
    go_wp2
    go_loopw [3, 4] (BaRel G w) (fun _ i _ => G.length - (intOf i).toNat)
    case atStart => exact ⟨0, [], Nat.zero_le _, rfl, ownsS_empty _ _ _ (Nat.le_refl _) rfl, by rw [List.take_zero]; exact BS.start, (by repeat (first | with_reducible exact Below.refl _ _ | with_reducible assumption | with_reducible refine Below.drew ?_ | with_reducible refine below_drewN ?_ _ | with_reducible refine Below.alloc ?_ ?_ _ | with_reducible refine Below.setCell ?_ ?_ _ | with_reducible refine Below.trans ?_ (Below.mono (by assumption) ?_) | omega | (simp <;> omega)))⟩
    case round =>
      obtain ⟨m, O, hm, rfl, hO, hS, hbw⟩ := hrel
      have hbsz := hbw.size
      have hgw : gl < wr.heap.size := by omega
      by_cases hlt : m < G.length
      · have hlt' : (m : Int) < (G.length : Int) := by omega
        have hts := take_snoc G 0 m hlt
        have hcs := hcell m hlt
        have hxv : Vs (G.getD m 0) := HG.out _ (by rw [List.getD_eq_getElem?_getD, List.getElem?_eq_getElem hlt]; exact List.getElem_mem hlt)
        generalize G.getD m 0 = x at *
        obtain ⟨rc0, rc1, rc2, rc3, rc4, rc5⟩ := hcs
        have gw0 := (hbw.cell (p := ⟨gl, m * 6, none⟩) hgl).trans rc0
        have gw1 := (hbw.cell (p := ⟨gl, m * 6 + 1, none⟩) hgl).trans rc1
        have gw2 := (hbw.cell (p := ⟨gl, m * 6 + 2, none⟩) hgl).trans rc2
        have gw3 := (hbw.cell (p := ⟨gl, m * 6 + 3, none⟩) hgl).trans rc3
        have gw4 := (hbw.cell (p := ⟨gl, m * 6 + 4, none⟩) hgl).trans rc4
        have gw5 := (hbw.cell (p := ⟨gl, m * 6 + 5, none⟩) hgl).trans rc5
        have haw := fun W h => l4Away_any u3 O x (fun o ho => (hS.lead o ho).2) hS.small W h
        have hsv := aw_vs O x hxv (fun o ho => (hS.lead o ho).1)
        have ha0 := hS.add0 hxv
        have ha1 := hS.add1 hxv
        have hac := (aw_ok O x hS.tri).2
        have hOs := hS.small
        generalize awL O x = s at *
        have hAW := Lib.hid haw
        have HA0 := Lib.hid ha0
        have HA1 := Lib.hid ha1
        have HAC := Lib.hid hac
        have HTS := Lib.hid hts
        have HS := Lib.hid hS
        have HO := Lib.hid hO
        clear haw ha0 ha1 hac hts hS hO rc0 rc1 rc2 rc3 rc4 rc5
        by_cases hl36 : ldN s = 36
        · have hlead := l4Lead_any s
          rw [hl36, show ((36 : Nat) : Int) = 36 from rfl] at hlead
          have hLD := Lib.hid hlead
          clear hlead
          go_wp2_with (first | (go_at_call 80; (with_reducible refine (hAW.out _ (by exact (HO.out.below (by repeat (first | with_reducible exact Below.refl _ _ | with_reducible assumption | with_reducible refine Below.drew ?_ | with_reducible refine below_drewN ?_ _ | with_reducible refine Below.alloc ?_ ?_ _ | with_reducible refine Below.setCell ?_ ?_ _ | with_reducible refine Below.trans ?_ (Below.mono (by assumption) ?_) | omega | (simp <;> omega)))).reads)).mono ?_); rintro e w1 ⟨rfl, hb⟩; obtain ⟨hc, hf, hT, hz⟩ := bfacts hb; (try simp only [World.size_alloc, World.size_setCell, World.size_drew, size_drewN] at hc hf hT hz); (try (have hzA := Nat.lt_of_succ_le hz)); (try (have hl0 : w.heap.size ≤ w1.heap.size := by omega)); (try (have hz0 : w.heap.size < w1.heap.size := by omega)); (try (have hz1 : w.heap.size + 1 < w1.heap.size := by omega)); (try (have hz2 : w.heap.size + 1 + 1 < w1.heap.size := by omega)); (try (have hz3 : w.heap.size + 1 + 1 + 1 < w1.heap.size := by omega)); (try (have hz4 : w.heap.size + 1 + 1 + 1 + 1 < w1.heap.size := by omega)); (try (have gxgl : gl < w1.heap.size := by omega))) | (go_at_call 54; (with_reducible refine (hLD.out _).mono ?_); rintro e w1 ⟨rfl, hb⟩; obtain ⟨hc, hf, hT, hz⟩ := bfacts hb; (try simp only [World.size_alloc, World.size_setCell, World.size_drew, size_drewN] at hc hf hT hz); (try (have hzA := Nat.lt_of_succ_le hz)); (try (have hl0 : w.heap.size ≤ w1.heap.size := by omega)); (try (have hz0 : w.heap.size < w1.heap.size := by omega)); (try (have hz1 : w.heap.size + 1 < w1.heap.size := by omega)); (try (have hz2 : w.heap.size + 1 + 1 < w1.heap.size := by omega)); (try (have hz3 : w.heap.size + 1 + 1 + 1 < w1.heap.size := by omega)); (try (have hz4 : w.heap.size + 1 + 1 + 1 + 1 < w1.heap.size := by omega)); (try (have gxgl : gl < w1.heap.size := by omega))))
          have hBa : Below wr.heap.size wr w1 := (by repeat (first | with_reducible exact Below.refl _ _ | with_reducible assumption | with_reducible refine Below.drew ?_ | with_reducible refine below_drewN ?_ _ | with_reducible refine Below.alloc ?_ ?_ _ | with_reducible refine Below.setCell ?_ ?_ _ | with_reducible refine Below.trans ?_ (Below.mono (by assumption) ?_) | omega | (simp <;> omega)))
          have hS' := HA0.out hl36
          rw [← HTS.out] at hS'
          go_roundw
          case rel => exact ⟨m + 1, O, by omega, by go_num, HO.out.below hBa, hS', hbw.trans (hBa.mono hbw.size)⟩
          case measure => simp [intOf]; omega
        · have hl36' : ldN s < 36 := by have := ldN_le s; omega
          have hlead := l4Lead_any s
          obtain ⟨l, hl⟩ : ∃ l, l = ldN s := ⟨_, rfl⟩
          have hS1 := Lib.hid (HA1.out hl36')
          rw [← hl] at hlead hl36 hl36'
          have hLI : ¬ ((l : Int) = 36) := by omega
          have hLb : (((l : Nat) : Int) == 36) = false := by rw [beq_eq_false_iff_ne]; exact hLI
          obtain ⟨x', hxn⟩ : ∃ x', x' = 5 - l % 6 := ⟨_, rfl⟩
          obtain ⟨y', hyn⟩ : ∃ y', y' = l / 6 := ⟨_, rfl⟩
          have hx' : (5 - (l : Int) % 6) = (x' : Int) := by omega
          have hy' : ((l : Int) / 6) = (y' : Int) := by omega
          have hcl : 6 * y' + x' = ldc l := by unfold ldc; omega
          have hxy : x' < 6 ∧ y' < 6 := by omega
          clear hxn hyn
          obtain ⟨g, cap, rfl, hgB, hgo⟩ := HO.out.form
          have hLD := Lib.hid hlead
          have hCL := Lib.hid hcl
          have hLL := Lib.hid hl
          clear hlead hcl hl
          go_wp2_with (first | (go_at_call 80; (with_reducible refine (hAW.out _ (by exact (HO.out.below (by repeat (first | with_reducible exact Below.refl _ _ | with_reducible assumption | with_reducible refine Below.drew ?_ | with_reducible refine below_drewN ?_ _ | with_reducible refine Below.alloc ?_ ?_ _ | with_reducible refine Below.setCell ?_ ?_ _ | with_reducible refine Below.trans ?_ (Below.mono (by assumption) ?_) | omega | (simp <;> omega)))).reads)).mono ?_); rintro e w1 ⟨rfl, hb⟩; obtain ⟨hc, hf, hT, hz⟩ := bfacts hb; (try simp only [World.size_alloc, World.size_setCell, World.size_drew, size_drewN] at hc hf hT hz); (try (have hzA := Nat.lt_of_succ_le hz)); (try (have hl0 : w.heap.size ≤ w1.heap.size := by omega)); (try (have hz0 : w.heap.size < w1.heap.size := by omega)); (try (have hz1 : w.heap.size + 1 < w1.heap.size := by omega)); (try (have hz2 : w.heap.size + 1 + 1 < w1.heap.size := by omega)); (try (have hz3 : w.heap.size + 1 + 1 + 1 < w1.heap.size := by omega)); (try (have hz4 : w.heap.size + 1 + 1 + 1 + 1 < w1.heap.size := by omega)); (try (have gxgl : gl < w1.heap.size := by omega))) | (go_at_call 54; (with_reducible refine (hLD.out _).mono ?_); rintro e w5 ⟨rfl, hb5⟩; obtain ⟨hc, hf, hT, hz⟩ := bfacts hb5; (try simp only [World.size_alloc, World.size_setCell, World.size_drew, size_drewN] at hc hf hT hz); (try (have hzA := Nat.lt_of_succ_le hz)); (try (have hl0 : w.heap.size ≤ w5.heap.size := by omega)); (try (have hz0 : w.heap.size < w5.heap.size := by omega)); (try (have hz1 : w.heap.size + 1 < w5.heap.size := by omega)); (try (have hz2 : w.heap.size + 1 + 1 < w5.heap.size := by omega)); (try (have hz3 : w.heap.size + 1 + 1 + 1 < w5.heap.size := by omega)); (try (have hz4 : w.heap.size + 1 + 1 + 1 + 1 < w5.heap.size := by omega)); (try (have gxgl : gl < w5.heap.size := by omega))))
          have hB1 : Below wr.heap.size wr w1 := (by repeat (first | with_reducible exact Below.refl _ _ | with_reducible assumption | with_reducible refine Below.drew ?_ | with_reducible refine below_drewN ?_ _ | with_reducible refine Below.alloc ?_ ?_ _ | with_reducible refine Below.setCell ?_ ?_ _ | with_reducible refine Below.trans ?_ (Below.mono (by assumption) ?_) | omega | (simp <;> omega)))
          have k5 : HoldsA w5 26 (w1.heap.size) (row s 0) (row s 1) (row s 2) (row s 3) (row s 4) (row s 5) := (HoldsA.made' (w := w1) rfl).below hb5 (by simp)
          have kO : OwnsS w5 w.heap.size (.slice (some ⟨g, 0, none⟩) O.length cap) O := (((HO.out.below hB1).alloc _).below hb5)
          have hBw : Below w.heap.size w w5 := (hbw.trans (hB1.mono hbw.size)).trans ((((Below.refl w1.heap.size w1).alloc (Nat.le_refl _) _).trans (hb5.mono (by simp))).mono (by omega))
          have hgS : g < w1.heap.size := by have := hB1.size; omega
          have hS5w : w.heap.size < w1.heap.size := by omega
          have hszA := hB1.size
          generalize w1.heap.size = S5 at *
          clear hb hb5 hB1 hc hf hT hz
          have hgne : S5 ≠ g := by omega
          obtain ⟨wd, rfl⟩ : ∃ wd : World, wd = w5 := ⟨_, rfl⟩
          go_loopw [7] (IbRel s S5 g cap O w) (fun i _ => O.length - (intOf i).toNat)
          case atStart => exact ⟨0, Nat.zero_le _, rfl, by rw [mdS_zero]; exact kO, k5, hBw⟩
          case round =>
            clear kO k5 hBw
            obtain ⟨k, hk, rfl, hM, h5, hbi⟩ := hrel
            have hbiz := hbi.size
            have hl5' := h5.lt
            have hM1 := hM.1
            have hgwr : g < wr.heap.size := (hM1.lt g rfl).2
            have hp0 := h5.c0
            have hp1 := h5.c1
            have hp2 := h5.c2
            have hp3 := h5.c3
            have hp4 := h5.c4
            have hp5 := h5.c5
            have hpf := h5.free
            have hln := mdS_len s O k
            by_cases hkl : k < O.length
            · have hkl' : (k : Int) < (O.length : Int) := by omega
              have hcs := hM.cellsAt k (by omega)
              rw [mdS_get _ _ _ hkl] at hcs
              have hfr := hM.free hln.symm
              have hsu := mdS_succ s O k hkl
              have hss := set_sameN (mdS s O k) k
              rw [mdS_get _ _ _ hkl] at hss
              generalize O.getD k 0 = r at *
              obtain ⟨rc0, rc1, rc2, rc3, rc4, rc5⟩ := hcs
              have hg2 := l2Get_any r x' y' hxy.1 hxy.2
              rw [hCL.out] at hg2
              by_cases hb2 : r.testBit (ldc l) = true
              · rw [hb2] at hg2
                have hG := Lib.hid hg2
                have had : adS s r = r ^^^ s := by unfold adS; rw [← hLL.out, if_pos hb2]
                rw [had] at hsu
                have hSU := Lib.hid hsu
                have HM := Lib.hid hM
                clear hg2 had hsu hss hM hM1 hb2
                go_wp2_with (go_at_call 72; (with_reducible refine (hG.out _).mono ?_); rintro e w1 ⟨rfl, hb⟩; obtain ⟨hc, hf, hT, hz⟩ := bfacts hb; (try simp only [World.size_alloc, World.size_setCell, World.size_drew, size_drewN] at hc hf hT hz); (try (have hzA := Nat.lt_of_succ_le hz)); (try (have hl0 : w.heap.size ≤ w1.heap.size := by omega)); (try (have hz0 : w.heap.size < w1.heap.size := by omega)); (try (have hz1 : w.heap.size + 1 < w1.heap.size := by omega)); (try (have hz2 : w.heap.size + 1 + 1 < w1.heap.size := by omega)); (try (have hz3 : w.heap.size + 1 + 1 + 1 < w1.heap.size := by omega)); (try (have hz4 : w.heap.size + 1 + 1 + 1 + 1 < w1.heap.size := by omega)); (try (have gxS5 : S5 < w1.heap.size := by omega)); (try (have gxg : g < w1.heap.size := by omega)))
                have hBa : Below wr.heap.size wr w1 := (by repeat (first | with_reducible exact Below.refl _ _ | with_reducible assumption | with_reducible refine Below.drew ?_ | with_reducible refine below_drewN ?_ _ | with_reducible refine Below.alloc ?_ ?_ _ | with_reducible refine Below.setCell ?_ ?_ _ | with_reducible refine Below.trans ?_ (Below.mono (by assumption) ?_) | omega | (simp <;> omega)))
                have k5 := h5.below hBa hl5'
                have kM := HM.out.below hBa
                have rw0 := (hBa.cell (p := ⟨g, k * 6, none⟩) hgwr).trans rc0
                have rw1 := (hBa.cell (p := ⟨g, k * 6 + 1, none⟩) hgwr).trans rc1
                have rw2 := (hBa.cell (p := ⟨g, k * 6 + 2, none⟩) hgwr).trans rc2
                have rw3 := (hBa.cell (p := ⟨g, k * 6 + 3, none⟩) hgwr).trans rc3
                have rw4 := (hBa.cell (p := ⟨g, k * 6 + 4, none⟩) hgwr).trans rc4
                have rw5 := (hBa.cell (p := ⟨g, k * 6 + 5, none⟩) hgwr).trans rc5
                have hfr1 := kM.free hln.symm
                have hB1 := hbi.trans (hBa.mono hbi.size)
                obtain ⟨we, rfl⟩ : ∃ we : World, we = w1 := ⟨_, rfl⟩
                clear hb hc hf hT hz rc0 rc1 rc2 rc3 rc4 rc5 hp0 hp1 hp2 hp3 hp4 hp5 hpf hfr h5 hBa
                have hp0 := k5.c0
                have hp1 := k5.c1
                have hp2 := k5.c2
                have hp3 := k5.c3
                have hp4 := k5.c4
                have hp5 := k5.c5
                have hpf := k5.free
                have hle5 := k5.lt
                have hgle : g < we.heap.size := by
                  have := kM.1.lt g rfl
                  exact this.2
                go_region_with (go_at_call 46; (with_reducible refine (l2Xor_any _ _ _).mono ?_); rintro e w1 ⟨rfl, hb⟩; obtain ⟨hc, hf, hT, hz⟩ := bfacts hb; (try simp only [World.size_alloc, World.size_setCell, World.size_drew, size_drewN] at hc hf hT hz); (try (have hzA := Nat.lt_of_succ_le hz)); (try (have hl0 : w.heap.size ≤ w1.heap.size := by omega)); (try (have hz0 : w.heap.size < w1.heap.size := by omega)); (try (have hz1 : w.heap.size + 1 < w1.heap.size := by omega)); (try (have hz2 : w.heap.size + 1 + 1 < w1.heap.size := by omega)); (try (have hz3 : w.heap.size + 1 + 1 + 1 < w1.heap.size := by omega)); (try (have hz4 : w.heap.size + 1 + 1 + 1 + 1 < w1.heap.size := by omega)); (try (have gxS5 : S5 < w1.heap.size := by omega)); (try (have gxg : g < w1.heap.size := by omega)))
                all_goals
                  have hBB : Below we.heap.size we w1 := (Below.refl we.heap.size we).drew.trans hb
                  have e5 := k5.below hBB hle5
                  have eM := (kM.below hBB).set hln.symm k (r ^^^ s) (by omega)
                  have hB3 := hB1.trans (hBB.mono (by omega))
                  clear hBB hb hc hf hT
                  go_wp2
                  go_roundw
                  case rel =>
                    refine ⟨k + 1, by omega, by go_num, by rw [hSU.out]; exact eM, ?_, ?_⟩
                    · (repeat (first | with_reducible assumption | (with_reducible refine HoldsA.made' ?_; (simp; done)) | with_reducible refine HoldsA.alloc ?_ _ | with_reducible refine HoldsA.drew ?_ | with_reducible refine HoldsA.drewN ?_ _ | (with_reducible refine HoldsA.far ?_ _ _ (by first | (simp; done) | (simp; omega))) | (with_reducible refine HoldsA.below ?_ (by with_reducible assumption) (by first | (simp; done) | (simp; omega) | omega))))
                    · exact (by repeat (first | with_reducible exact Below.refl _ _ | with_reducible assumption | with_reducible refine Below.drew ?_ | with_reducible refine below_drewN ?_ _ | with_reducible refine Below.alloc ?_ ?_ _ | with_reducible refine Below.setCell ?_ ?_ _ | with_reducible refine Below.trans ?_ (Below.mono (by assumption) ?_) | omega | (simp <;> omega)))
                  case measure => simp [intOf]; omega
              · rw [Bool.eq_false_iff.2 hb2] at hg2
                have hG := Lib.hid hg2
                have had : adS s r = r := by unfold adS; rw [← hLL.out, if_neg hb2]
                rw [had, hss] at hsu
                have hSU := Lib.hid hsu
                have HM := Lib.hid hM
                clear hg2 had hsu hss hM hM1 hb2
                go_wp2_with (go_at_call 72; (with_reducible refine (hG.out _).mono ?_); rintro e w1 ⟨rfl, hb⟩; obtain ⟨hc, hf, hT, hz⟩ := bfacts hb; (try simp only [World.size_alloc, World.size_setCell, World.size_drew, size_drewN] at hc hf hT hz); (try (have hzA := Nat.lt_of_succ_le hz)); (try (have hl0 : w.heap.size ≤ w1.heap.size := by omega)); (try (have hz0 : w.heap.size < w1.heap.size := by omega)); (try (have hz1 : w.heap.size + 1 < w1.heap.size := by omega)); (try (have hz2 : w.heap.size + 1 + 1 < w1.heap.size := by omega)); (try (have hz3 : w.heap.size + 1 + 1 + 1 < w1.heap.size := by omega)); (try (have hz4 : w.heap.size + 1 + 1 + 1 + 1 < w1.heap.size := by omega)); (try (have gxS5 : S5 < w1.heap.size := by omega)); (try (have gxg : g < w1.heap.size := by omega)))
                have hBa : Below wr.heap.size wr w1 := (by repeat (first | with_reducible exact Below.refl _ _ | with_reducible assumption | with_reducible refine Below.drew ?_ | with_reducible refine below_drewN ?_ _ | with_reducible refine Below.alloc ?_ ?_ _ | with_reducible refine Below.setCell ?_ ?_ _ | with_reducible refine Below.trans ?_ (Below.mono (by assumption) ?_) | omega | (simp <;> omega)))
                go_roundw
                case rel => exact ⟨k + 1, by omega, by go_num, by rw [hSU.out]; exact HM.out.below hBa, h5.below hBa hl5', hbi.trans (hBa.mono hbi.size)⟩
                case measure => simp [intOf]; omega
            · have e : k = O.length := by omega
              subst e
              rw [mdS_all] at hM
              clear hp0 hp1 hp2 hp3 hp4 hp5 hpf hM1
              go_wp2
              obtain ⟨we, rfl⟩ : ∃ we : World, we = wr := ⟨_, rfl⟩
              go_loopw [8] (NbRel s S5 g cap O w) (fun i _ => O.length - (intOf i).toNat)
              case atStart => exact ⟨0, Nat.zero_le _, rfl, (fun o ho => by cases ho), hM, h5, hbi⟩
              case round =>
                clear hM h5 hbi
                obtain ⟨n, hn, rfl, hlo, hM, h5, hbi⟩ := hrel
                have hl5' := h5.lt
                have hbiz := hbi.size
                have hM1 := hM.1
                have hgwr : g < wr.heap.size := (hM1.lt g rfl).2
                have hlm : (O.map (adS s)).length = O.length := List.length_map _
                have hHI : ∀ o, o ∈ O.drop n → ldN o ≥ ldN (O.getD n 0) := fun o ho => by
                  by_cases hnl : n < O.length
                  · rw [List.drop_eq_getElem_cons hnl] at ho
                    have hsd := HS.out.sorted
                    rw [← List.take_append_drop n O, List.pairwise_append] at hsd
                    have hsd2 := hsd.2.1
                    rw [List.drop_eq_getElem_cons hnl, List.pairwise_cons] at hsd2
                    rw [List.getD_eq_getElem?_getD, List.getElem?_eq_getElem hnl]
                    rcases List.mem_cons.1 ho with rfl | ho
                    · exact Nat.le_refl _
                    · exact Nat.le_of_lt (hsd2.1 o ho).1
                  · rw [List.drop_eq_nil_of_le (by omega)] at ho
                    cases ho
                have hHid := Lib.hid hHI
                have hLO := Lib.hid hlo
                clear hHI hlo
                by_cases hnl : n < O.length
                · have hnl' : (n : Int) < (O.length : Int) := by omega
                  have hcs := hM.cellsAt n (by omega)
                  have hge : (O.map (adS s)).getD n 0 = adS s (O.getD n 0) := by
                    rw [List.getD_eq_getElem?_getD, List.getD_eq_getElem?_getD, List.getElem?_map, List.getElem?_eq_getElem hnl]; rfl
                  rw [hge] at hcs
                  have hom : O.getD n 0 ∈ O := by rw [List.getD_eq_getElem?_getD, List.getElem?_eq_getElem hnl]; exact List.getElem_mem hnl
                  have hts := take_snoc O 0 n hnl
                  have hld := adS_ld (by rw [← hLL.out]; exact hl36') (HS.out.lead _ hom).2 (HAC.out _ hom)
                  have hle2 := l4Lead_any (adS s (O.getD n 0))
                  rw [hld] at hle2
                  have HH2 := Lib.hid hHid.out
                  generalize O.getD n 0 = r at *
                  generalize adS s r = ar at *
                  obtain ⟨rc0, rc1, rc2, rc3, rc4, rc5⟩ := hcs
                  have hL2 := Lib.hid hle2
                  have hTS2 := Lib.hid hts
                  obtain ⟨d, hd⟩ : ∃ d, d = ldN r := ⟨_, rfl⟩
                  rw [← hd] at hL2
                  clear hle2 hts hge hld hHid
                  by_cases hdl : d < l
                  · have hdl' : (d : Int) < (l : Int) := by omega
                    have hlo' : ∀ o, o ∈ O.take (n + 1) → ldN o < ldN s := fun o ho => by
                      rw [hTS2.out] at ho
                      rcases List.mem_append.1 ho with ho | ho
                      · exact hLO.out o ho
                      · rw [List.mem_singleton.1 ho, ← hd, ← hLL.out]; exact hdl
                    have hLO2 := Lib.hid hlo'
                    have HM := Lib.hid hM
                    clear hlo' hM hM1
                    go_wp2_with (go_at_call 54; (with_reducible refine (hL2.out _).mono ?_); rintro e w1 ⟨rfl, hb⟩; obtain ⟨hc, hf, hT, hz⟩ := bfacts hb; (try simp only [World.size_alloc, World.size_setCell, World.size_drew, size_drewN] at hc hf hT hz); (try (have hzA := Nat.lt_of_succ_le hz)); (try (have hl0 : w.heap.size ≤ w1.heap.size := by omega)); (try (have hz0 : w.heap.size < w1.heap.size := by omega)); (try (have hz1 : w.heap.size + 1 < w1.heap.size := by omega)); (try (have hz2 : w.heap.size + 1 + 1 < w1.heap.size := by omega)); (try (have hz3 : w.heap.size + 1 + 1 + 1 < w1.heap.size := by omega)); (try (have hz4 : w.heap.size + 1 + 1 + 1 + 1 < w1.heap.size := by omega)); (try (have gxS5 : S5 < w1.heap.size := by omega)); (try (have gxg : g < w1.heap.size := by omega)))
                    have hBa : Below wr.heap.size wr w1 := (by repeat (first | with_reducible exact Below.refl _ _ | with_reducible assumption | with_reducible refine Below.drew ?_ | with_reducible refine below_drewN ?_ _ | with_reducible refine Below.alloc ?_ ?_ _ | with_reducible refine Below.setCell ?_ ?_ _ | with_reducible refine Below.trans ?_ (Below.mono (by assumption) ?_) | omega | (simp <;> omega)))
                    go_roundw
                    case rel => exact ⟨n + 1, by omega, by go_num, hLO2.out, HM.out.below hBa, h5.below hBa hl5', hbi.trans (hBa.mono hbi.size)⟩
                    case measure => simp [intOf]; omega
                  · have hdl' : ¬ ((d : Int) < (l : Int)) := by omega
                    have HM := Lib.hid hM
                    clear hM hM1
                    go_wp2_with (go_at_call 54; (with_reducible refine (hL2.out _).mono ?_); rintro e w1 ⟨rfl, hb⟩; obtain ⟨hc, hf, hT, hz⟩ := bfacts hb; (try simp only [World.size_alloc, World.size_setCell, World.size_drew, size_drewN] at hc hf hT hz); (try (have hzA := Nat.lt_of_succ_le hz)); (try (have hl0 : w.heap.size ≤ w1.heap.size := by omega)); (try (have hz0 : w.heap.size < w1.heap.size := by omega)); (try (have hz1 : w.heap.size + 1 < w1.heap.size := by omega)); (try (have hz2 : w.heap.size + 1 + 1 < w1.heap.size := by omega)); (try (have hz3 : w.heap.size + 1 + 1 + 1 < w1.heap.size := by omega)); (try (have hz4 : w.heap.size + 1 + 1 + 1 + 1 < w1.heap.size := by omega)); (try (have gxS5 : S5 < w1.heap.size := by omega)); (try (have gxg : g < w1.heap.size := by omega)))
                    have hBa : Below wr.heap.size wr w1 := (by repeat (first | with_reducible exact Below.refl _ _ | with_reducible assumption | with_reducible refine Below.drew ?_ | with_reducible refine below_drewN ?_ _ | with_reducible refine Below.alloc ?_ ?_ _ | with_reducible refine Below.setCell ?_ ?_ _ | with_reducible refine Below.trans ?_ (Below.mono (by assumption) ?_) | omega | (simp <;> omega)))
                    have hMf := HM.out.below hBa
                    have h5f := h5.below hBa hl5'
                    have hBf := hbi.trans (hBa.mono hbi.size)
                    have hHF := Lib.hid (show ∀ o, o ∈ O.drop n → ¬ ldN o < ldN s from fun o ho => by have h1 := HH2.out o ho; have h2 := hLL.out; omega)
                    obtain ⟨wf, rfl⟩ : ∃ wf : World, wf = w1 := ⟨_, rfl⟩
                    clear hb hc hf hT hz hBa HM h5 hbi hL2 hTS2 HH2 rc0 rc1 rc2 rc3 rc4 rc5
                    have hcap := (hMf.cap hlm.symm).1
                    have hcm := (hMf.cap hlm.symm).2
                    have hnc : n ≤ cap := by omega
                    have hncI : (n : Int) ≤ (cap : Int) := by omega
                    have hlenI : (O.length : Int) ≤ (cap : Int) := by omega
                    have hnlI : (n : Int) ≤ (O.length : Int) := by omega
                    have hOs := HS.out.small
                    have hp0 := h5f.c0
                    have hp1 := h5f.c1
                    have hp2 := h5f.c2
                    have hp3 := h5f.c3
                    have hp4 := h5f.c4
                    have hp5 := h5f.c5
                    have hpf := h5f.free
                    have hl5f := h5f.lt
                    have HMF := Lib.hid hMf
                    obtain ⟨A3, hA3, hN3⟩ : ∃ A3 : Addr, (if cap = n then some ⟨g, 0, none⟩ else some ⟨g, n * 6, none⟩) = some A3 ∧ ∀ W, Below wf.heap.size wf W → ∀ j u, ((shI ((O.map (adS s)).drop n)).map (Value.int .i64))[j]? = some u → W.cell? (A3.add j) = some u := by
                      by_cases hcn : cap = n
                      · refine ⟨⟨g, 0, none⟩, by rw [if_pos hcn], fun W _ j u hj => ?_⟩
                        rw [List.drop_eq_nil_of_le (by rw [hlm]; omega)] at hj
                        simp [shI] at hj
                      · exact ⟨⟨g, n * 6, none⟩, by rw [if_neg hcn], fun W hb => drop_cells hMf hlm.symm (by rw [hlm]; omega) hb⟩
                    have HN3 := Lib.hid hN3
                    clear hN3 hMf
                    go_region_law ((first | (refine step_append_own rfl (.tmp 66) (.tmp 69) 28 rfl wf.heap.size 26 j0 (.agg #[.int .i64 0, .int .i64 0, .int .i64 0, .int .i64 0, .int .i64 0, .int .i64 0]) 6 48 Tryz.underlying28 hj jz0 jz1 jz2 rfl (by decide) (.slice (some ⟨wf.heap.size, 0, none⟩) 0 0) 0 [] (by simp [Act.eval, Act.put]) (by first | exact (ownsS_empty _ _ _ (by first | omega | (simp; done) | (simp; omega)) (by first | omega | (simp; done) | (simp; omega))).1 | exact World.ownsRow.alloc (ownsS_empty _ _ _ (by first | omega | (simp; done) | (simp; omega)) (by first | omega | (simp; done) | (simp; omega))).1 _) ⟨g, 0, none⟩ n cap ((shI ((O.map (adS s)).take n)).map (Value.int .i64)) (by simp [Act.eval, Act.put]) (by rw [List.length_map, shI_len, List.length_take]; omega) (take_cells HMF.out hlm.symm (by repeat (first | with_reducible exact Below.refl _ _ | with_reducible assumption | with_reducible refine Below.drew ?_ | with_reducible refine below_drewN ?_ _ | with_reducible refine Below.alloc ?_ ?_ _ | with_reducible refine Below.setCell ?_ ?_ _ | with_reducible refine Below.trans ?_ (Below.mono (by assumption) ?_) | omega | (simp <;> omega)))) (fun u hu => by obtain ⟨z, _, rfl⟩ := List.mem_map.1 hu; rfl) (by unfold maxLen; omega) (by omega) (by first | omega | (simp; done) | (simp; omega)) ?_; intro v1 W1 ho1 hg1; have hb1 : Below wf.heap.size wf W1 := Below.grown (by repeat (first | with_reducible exact Below.refl _ _ | with_reducible assumption | with_reducible refine Below.drew ?_ | with_reducible refine below_drewN ?_ _ | with_reducible refine Below.alloc ?_ ?_ _ | with_reducible refine Below.setCell ?_ ?_ _ | with_reducible refine Below.trans ?_ (Below.mono (by assumption) ?_) | omega | (simp <;> omega))) hg1 (by first | omega | (simp; done) | (simp; omega)) (fun j hj => by simp [Value.ownBlock] at hj; omega); have hz1 := hb1.size; have q1 := h5f.below hb1 hl5f; have q10 := q1.c0; have q11 := q1.c1; have q12 := q1.c2; have q13 := q1.c3; have q14 := q1.c4; have q15 := q1.c5) | (refine step_append_own rfl (.tmp 66) (.tmp 69) 28 rfl wf.heap.size 26 j0 (.agg #[.int .i64 0, .int .i64 0, .int .i64 0, .int .i64 0, .int .i64 0, .int .i64 0]) 6 48 Tryz.underlying28 hj jz0 jz1 jz2 rfl (by decide) (.slice (some ⟨wf.heap.size + 1, 0, none⟩) 0 0) 0 [] (by simp [Act.eval, Act.put]) (by first | exact (ownsS_empty _ _ _ (by first | omega | (simp; done) | (simp; omega)) (by first | omega | (simp; done) | (simp; omega))).1 | exact World.ownsRow.alloc (ownsS_empty _ _ _ (by first | omega | (simp; done) | (simp; omega)) (by first | omega | (simp; done) | (simp; omega))).1 _) ⟨g, 0, none⟩ n cap ((shI ((O.map (adS s)).take n)).map (Value.int .i64)) (by simp [Act.eval, Act.put]) (by rw [List.length_map, shI_len, List.length_take]; omega) (take_cells HMF.out hlm.symm (by repeat (first | with_reducible exact Below.refl _ _ | with_reducible assumption | with_reducible refine Below.drew ?_ | with_reducible refine below_drewN ?_ _ | with_reducible refine Below.alloc ?_ ?_ _ | with_reducible refine Below.setCell ?_ ?_ _ | with_reducible refine Below.trans ?_ (Below.mono (by assumption) ?_) | omega | (simp <;> omega)))) (fun u hu => by obtain ⟨z, _, rfl⟩ := List.mem_map.1 hu; rfl) (by unfold maxLen; omega) (by omega) (by first | omega | (simp; done) | (simp; omega)) ?_; intro v1 W1 ho1 hg1; have hb1 : Below wf.heap.size wf W1 := Below.grown (by repeat (first | with_reducible exact Below.refl _ _ | with_reducible assumption | with_reducible refine Below.drew ?_ | with_reducible refine below_drewN ?_ _ | with_reducible refine Below.alloc ?_ ?_ _ | with_reducible refine Below.setCell ?_ ?_ _ | with_reducible refine Below.trans ?_ (Below.mono (by assumption) ?_) | omega | (simp <;> omega))) hg1 (by first | omega | (simp; done) | (simp; omega)) (fun j hj => by simp [Value.ownBlock] at hj; omega); have hz1 := hb1.size; have q1 := h5f.below hb1 hl5f; have q10 := q1.c0; have q11 := q1.c1; have q12 := q1.c2; have q13 := q1.c3; have q14 := q1.c4; have q15 := q1.c5) | (refine step_append_own rfl (.tmp 70) (.tmp 72) 28 rfl wf.heap.size 26 j0 (.agg #[.int .i64 0, .int .i64 0, .int .i64 0, .int .i64 0, .int .i64 0, .int .i64 0]) 6 48 Tryz.underlying28 hj jz0 jz1 jz2 rfl (by decide) v1 (0 + n) ([] ++ (shI ((O.map (adS s)).take n)).map (Value.int .i64)) (by simp [Act.eval, Act.put]) (by first | exact ho1 | exact World.ownsRow.alloc ho1 _) ⟨W1.heap.size, 0, none⟩ 1 1 [.int .i64 (row s 0), .int .i64 (row s 1), .int .i64 (row s 2), .int .i64 (row s 3), .int .i64 (row s 4), .int .i64 (row s 5)] (by simp [Act.eval, Act.put]) rfl (by first | exact cells6_new _ _ _ _ _ _ _ _ _ (by first | omega | (simp; done) | (simp; omega)) | exact cells_kept hg1 (by first | omega | (simp; done) | (simp; omega)) (by simp [Value.ownBlock] <;> omega) (cells6_new _ _ _ _ _ _ _ _ _ (by first | omega | (simp; done) | (simp; omega))) | exact cells_kept hg1 (by first | omega | (simp; done) | (simp; omega)) (by simp [Value.ownBlock] <;> omega) (cells_past (by first | omega | (simp; done) | (simp; omega)) (cells6_new _ _ _ _ _ _ _ _ _ (by first | omega | (simp; done) | (simp; omega))))) (by intro u hu; simp at hu; rcases hu with rfl | rfl | rfl | rfl | rfl | rfl <;> rfl) (by unfold maxLen; omega) (by omega) (by first | omega | (simp; done) | (simp; omega)) ?_; intro v2 W2 ho2 hg2; have hb2 : Below wf.heap.size wf W2 := Below.grown (by first | exact hb1 | exact hb1.alloc hb1.size _) hg2 (by first | omega | (simp; done) | (simp; omega)) (fun j hj => (ho1.lt j hj).1); have hz2 := hb2.size) | (refine step_append_own rfl (.tmp 70) (.tmp 72) 28 rfl wf.heap.size 26 j0 (.agg #[.int .i64 0, .int .i64 0, .int .i64 0, .int .i64 0, .int .i64 0, .int .i64 0]) 6 48 Tryz.underlying28 hj jz0 jz1 jz2 rfl (by decide) v1 (0 + n) ([] ++ (shI ((O.map (adS s)).take n)).map (Value.int .i64)) (by simp [Act.eval, Act.put]) (by first | exact ho1 | exact World.ownsRow.alloc ho1 _) ⟨wf.heap.size + 1, 0, none⟩ 1 1 [.int .i64 (row s 0), .int .i64 (row s 1), .int .i64 (row s 2), .int .i64 (row s 3), .int .i64 (row s 4), .int .i64 (row s 5)] (by simp [Act.eval, Act.put]) rfl (by first | exact cells6_new _ _ _ _ _ _ _ _ _ (by first | omega | (simp; done) | (simp; omega)) | exact cells_kept hg1 (by first | omega | (simp; done) | (simp; omega)) (by simp [Value.ownBlock] <;> omega) (cells6_new _ _ _ _ _ _ _ _ _ (by first | omega | (simp; done) | (simp; omega))) | exact cells_kept hg1 (by first | omega | (simp; done) | (simp; omega)) (by simp [Value.ownBlock] <;> omega) (cells_past (by first | omega | (simp; done) | (simp; omega)) (cells6_new _ _ _ _ _ _ _ _ _ (by first | omega | (simp; done) | (simp; omega))))) (by intro u hu; simp at hu; rcases hu with rfl | rfl | rfl | rfl | rfl | rfl <;> rfl) (by unfold maxLen; omega) (by omega) (by first | omega | (simp; done) | (simp; omega)) ?_; intro v2 W2 ho2 hg2; have hb2 : Below wf.heap.size wf W2 := Below.grown (by first | exact hb1 | exact hb1.alloc hb1.size _) hg2 (by first | omega | (simp; done) | (simp; omega)) (fun j hj => (ho1.lt j hj).1); have hz2 := hb2.size) | (refine step_append_own rfl (.tmp 70) (.tmp 72) 28 rfl wf.heap.size 26 j0 (.agg #[.int .i64 0, .int .i64 0, .int .i64 0, .int .i64 0, .int .i64 0, .int .i64 0]) 6 48 Tryz.underlying28 hj jz0 jz1 jz2 rfl (by decide) v1 (0 + n) ([] ++ (shI ((O.map (adS s)).take n)).map (Value.int .i64)) (by simp [Act.eval, Act.put]) (by first | exact ho1 | exact World.ownsRow.alloc ho1 _) ⟨wf.heap.size, 0, none⟩ 1 1 [.int .i64 (row s 0), .int .i64 (row s 1), .int .i64 (row s 2), .int .i64 (row s 3), .int .i64 (row s 4), .int .i64 (row s 5)] (by simp [Act.eval, Act.put]) rfl (by first | exact cells6_new _ _ _ _ _ _ _ _ _ (by first | omega | (simp; done) | (simp; omega)) | exact cells_kept hg1 (by first | omega | (simp; done) | (simp; omega)) (by simp [Value.ownBlock] <;> omega) (cells6_new _ _ _ _ _ _ _ _ _ (by first | omega | (simp; done) | (simp; omega))) | exact cells_kept hg1 (by first | omega | (simp; done) | (simp; omega)) (by simp [Value.ownBlock] <;> omega) (cells_past (by first | omega | (simp; done) | (simp; omega)) (cells6_new _ _ _ _ _ _ _ _ _ (by first | omega | (simp; done) | (simp; omega))))) (by intro u hu; simp at hu; rcases hu with rfl | rfl | rfl | rfl | rfl | rfl <;> rfl) (by unfold maxLen; omega) (by omega) (by first | omega | (simp; done) | (simp; omega)) ?_; intro v2 W2 ho2 hg2; have hb2 : Below wf.heap.size wf W2 := Below.grown (by first | exact hb1 | exact hb1.alloc hb1.size _) hg2 (by first | omega | (simp; done) | (simp; omega)) (fun j hj => (ho1.lt j hj).1); have hz2 := hb2.size) | (refine step_append_own rfl (.tmp 73) (.tmp 76) 28 rfl wf.heap.size 26 j0 (.agg #[.int .i64 0, .int .i64 0, .int .i64 0, .int .i64 0, .int .i64 0, .int .i64 0]) 6 48 Tryz.underlying28 hj jz0 jz1 jz2 rfl (by decide) v2 (0 + n + 1) ([] ++ (shI ((O.map (adS s)).take n)).map (Value.int .i64) ++ [.int .i64 (row s 0), .int .i64 (row s 1), .int .i64 (row s 2), .int .i64 (row s 3), .int .i64 (row s 4), .int .i64 (row s 5)]) (by simp [Act.eval, Act.put]) ho2 A3 (O.length - n) (cap - n) ((shI ((O.map (adS s)).drop n)).map (Value.int .i64)) (by simp [Act.eval, Act.put]) (by rw [List.length_map, shI_len, List.length_drop]; omega) (HN3.out _ hb2) (fun u hu => by obtain ⟨z, _, rfl⟩ := List.mem_map.1 hu; rfl) (by unfold maxLen; omega) (by omega) (by first | omega | (simp; done) | (simp; omega)) ?_; intro v3 W3 ho3 hg3; have hb3 : Below wf.heap.size wf W3 := Below.grown hb2 hg3 (by first | omega | (simp; done) | (simp; omega)) (fun j hj => (ho2.lt j hj).1))))
                    all_goals
                      have hOf : OwnsS W3 w.heap.size v3 ((O.map (adS s)).take n ++ s :: (O.map (adS s)).drop n) := ins_own hBf.size (by rw [hlm]; exact hn) (by rw [hlm]) ho3
                      have hB3 : Below w.heap.size w W3 := hBf.trans (hb3.mono hBf.size)
                      have hSn := hS1.out n hLO.out hHF.out
                      rw [← HTS.out] at hSn
                      clear hb1 hb2 hb3 ho1 ho2 ho3 hg1 hg2 hg3
                      go_wp2
                      go_roundw
                      case rel => exact ⟨m + 1, _, by omega, by go_num, hOf, hSn, hB3⟩
                      case measure => simp [intOf]; omega
                · have hHF := Lib.hid (show ∀ o, o ∈ O.drop n → ¬ ldN o < ldN s from fun o ho => by rw [List.drop_eq_nil_of_le (by omega)] at ho; cases ho)
                  have hnl' : ¬ ((n : Int) < (O.length : Int)) := by omega
                  have hMf := hM
                  have h5f := h5
                  have hBf := hbi
                  clear hM hM1 h5 hbi hHid
                  go_wp2
                  obtain ⟨wf, rfl⟩ : ∃ wf : World, wf = wr := ⟨_, rfl⟩
                  have hcap := (hMf.cap hlm.symm).1
                  have hcm := (hMf.cap hlm.symm).2
                  have hnc : n ≤ cap := by omega
                  have hncI : (n : Int) ≤ (cap : Int) := by omega
                  have hlenI : (O.length : Int) ≤ (cap : Int) := by omega
                  have hnlI : (n : Int) ≤ (O.length : Int) := by omega
                  have hOs := HS.out.small
                  have hp0 := h5f.c0
                  have hp1 := h5f.c1
                  have hp2 := h5f.c2
                  have hp3 := h5f.c3
                  have hp4 := h5f.c4
                  have hp5 := h5f.c5
                  have hpf := h5f.free
                  have hl5f := h5f.lt
                  have HMF := Lib.hid hMf
                  obtain ⟨A3, hA3, hN3⟩ : ∃ A3 : Addr, (if cap = n then some ⟨g, 0, none⟩ else some ⟨g, n * 6, none⟩) = some A3 ∧ ∀ W, Below wf.heap.size wf W → ∀ j u, ((shI ((O.map (adS s)).drop n)).map (Value.int .i64))[j]? = some u → W.cell? (A3.add j) = some u := by
                    by_cases hcn : cap = n
                    · refine ⟨⟨g, 0, none⟩, by rw [if_pos hcn], fun W _ j u hj => ?_⟩
                      rw [List.drop_eq_nil_of_le (by rw [hlm]; omega)] at hj
                      simp [shI] at hj
                    · exact ⟨⟨g, n * 6, none⟩, by rw [if_neg hcn], fun W hb => drop_cells hMf hlm.symm (by rw [hlm]; omega) hb⟩
                  have HN3 := Lib.hid hN3
                  clear hN3 hMf
                  go_region_law ((first | (refine step_append_own rfl (.tmp 66) (.tmp 69) 28 rfl wf.heap.size 26 j0 (.agg #[.int .i64 0, .int .i64 0, .int .i64 0, .int .i64 0, .int .i64 0, .int .i64 0]) 6 48 Tryz.underlying28 hj jz0 jz1 jz2 rfl (by decide) (.slice (some ⟨wf.heap.size, 0, none⟩) 0 0) 0 [] (by simp [Act.eval, Act.put]) (by first | exact (ownsS_empty _ _ _ (by first | omega | (simp; done) | (simp; omega)) (by first | omega | (simp; done) | (simp; omega))).1 | exact World.ownsRow.alloc (ownsS_empty _ _ _ (by first | omega | (simp; done) | (simp; omega)) (by first | omega | (simp; done) | (simp; omega))).1 _) ⟨g, 0, none⟩ n cap ((shI ((O.map (adS s)).take n)).map (Value.int .i64)) (by simp [Act.eval, Act.put]) (by rw [List.length_map, shI_len, List.length_take]; omega) (take_cells HMF.out hlm.symm (by repeat (first | with_reducible exact Below.refl _ _ | with_reducible assumption | with_reducible refine Below.drew ?_ | with_reducible refine below_drewN ?_ _ | with_reducible refine Below.alloc ?_ ?_ _ | with_reducible refine Below.setCell ?_ ?_ _ | with_reducible refine Below.trans ?_ (Below.mono (by assumption) ?_) | omega | (simp <;> omega)))) (fun u hu => by obtain ⟨z, _, rfl⟩ := List.mem_map.1 hu; rfl) (by unfold maxLen; omega) (by omega) (by first | omega | (simp; done) | (simp; omega)) ?_; intro v1 W1 ho1 hg1; have hb1 : Below wf.heap.size wf W1 := Below.grown (by repeat (first | with_reducible exact Below.refl _ _ | with_reducible assumption | with_reducible refine Below.drew ?_ | with_reducible refine below_drewN ?_ _ | with_reducible refine Below.alloc ?_ ?_ _ | with_reducible refine Below.setCell ?_ ?_ _ | with_reducible refine Below.trans ?_ (Below.mono (by assumption) ?_) | omega | (simp <;> omega))) hg1 (by first | omega | (simp; done) | (simp; omega)) (fun j hj => by simp [Value.ownBlock] at hj; omega); have hz1 := hb1.size; have q1 := h5f.below hb1 hl5f; have q10 := q1.c0; have q11 := q1.c1; have q12 := q1.c2; have q13 := q1.c3; have q14 := q1.c4; have q15 := q1.c5) | (refine step_append_own rfl (.tmp 66) (.tmp 69) 28 rfl wf.heap.size 26 j0 (.agg #[.int .i64 0, .int .i64 0, .int .i64 0, .int .i64 0, .int .i64 0, .int .i64 0]) 6 48 Tryz.underlying28 hj jz0 jz1 jz2 rfl (by decide) (.slice (some ⟨wf.heap.size + 1, 0, none⟩) 0 0) 0 [] (by simp [Act.eval, Act.put]) (by first | exact (ownsS_empty _ _ _ (by first | omega | (simp; done) | (simp; omega)) (by first | omega | (simp; done) | (simp; omega))).1 | exact World.ownsRow.alloc (ownsS_empty _ _ _ (by first | omega | (simp; done) | (simp; omega)) (by first | omega | (simp; done) | (simp; omega))).1 _) ⟨g, 0, none⟩ n cap ((shI ((O.map (adS s)).take n)).map (Value.int .i64)) (by simp [Act.eval, Act.put]) (by rw [List.length_map, shI_len, List.length_take]; omega) (take_cells HMF.out hlm.symm (by repeat (first | with_reducible exact Below.refl _ _ | with_reducible assumption | with_reducible refine Below.drew ?_ | with_reducible refine below_drewN ?_ _ | with_reducible refine Below.alloc ?_ ?_ _ | with_reducible refine Below.setCell ?_ ?_ _ | with_reducible refine Below.trans ?_ (Below.mono (by assumption) ?_) | omega | (simp <;> omega)))) (fun u hu => by obtain ⟨z, _, rfl⟩ := List.mem_map.1 hu; rfl) (by unfold maxLen; omega) (by omega) (by first | omega | (simp; done) | (simp; omega)) ?_; intro v1 W1 ho1 hg1; have hb1 : Below wf.heap.size wf W1 := Below.grown (by repeat (first | with_reducible exact Below.refl _ _ | with_reducible assumption | with_reducible refine Below.drew ?_ | with_reducible refine below_drewN ?_ _ | with_reducible refine Below.alloc ?_ ?_ _ | with_reducible refine Below.setCell ?_ ?_ _ | with_reducible refine Below.trans ?_ (Below.mono (by assumption) ?_) | omega | (simp <;> omega))) hg1 (by first | omega | (simp; done) | (simp; omega)) (fun j hj => by simp [Value.ownBlock] at hj; omega); have hz1 := hb1.size; have q1 := h5f.below hb1 hl5f; have q10 := q1.c0; have q11 := q1.c1; have q12 := q1.c2; have q13 := q1.c3; have q14 := q1.c4; have q15 := q1.c5) | (refine step_append_own rfl (.tmp 70) (.tmp 72) 28 rfl wf.heap.size 26 j0 (.agg #[.int .i64 0, .int .i64 0, .int .i64 0, .int .i64 0, .int .i64 0, .int .i64 0]) 6 48 Tryz.underlying28 hj jz0 jz1 jz2 rfl (by decide) v1 (0 + n) ([] ++ (shI ((O.map (adS s)).take n)).map (Value.int .i64)) (by simp [Act.eval, Act.put]) (by first | exact ho1 | exact World.ownsRow.alloc ho1 _) ⟨W1.heap.size, 0, none⟩ 1 1 [.int .i64 (row s 0), .int .i64 (row s 1), .int .i64 (row s 2), .int .i64 (row s 3), .int .i64 (row s 4), .int .i64 (row s 5)] (by simp [Act.eval, Act.put]) rfl (by first | exact cells6_new _ _ _ _ _ _ _ _ _ (by first | omega | (simp; done) | (simp; omega)) | exact cells_kept hg1 (by first | omega | (simp; done) | (simp; omega)) (by simp [Value.ownBlock] <;> omega) (cells6_new _ _ _ _ _ _ _ _ _ (by first | omega | (simp; done) | (simp; omega))) | exact cells_kept hg1 (by first | omega | (simp; done) | (simp; omega)) (by simp [Value.ownBlock] <;> omega) (cells_past (by first | omega | (simp; done) | (simp; omega)) (cells6_new _ _ _ _ _ _ _ _ _ (by first | omega | (simp; done) | (simp; omega))))) (by intro u hu; simp at hu; rcases hu with rfl | rfl | rfl | rfl | rfl | rfl <;> rfl) (by unfold maxLen; omega) (by omega) (by first | omega | (simp; done) | (simp; omega)) ?_; intro v2 W2 ho2 hg2; have hb2 : Below wf.heap.size wf W2 := Below.grown (by first | exact hb1 | exact hb1.alloc hb1.size _) hg2 (by first | omega | (simp; done) | (simp; omega)) (fun j hj => (ho1.lt j hj).1); have hz2 := hb2.size) | (refine step_append_own rfl (.tmp 70) (.tmp 72) 28 rfl wf.heap.size 26 j0 (.agg #[.int .i64 0, .int .i64 0, .int .i64 0, .int .i64 0, .int .i64 0, .int .i64 0]) 6 48 Tryz.underlying28 hj jz0 jz1 jz2 rfl (by decide) v1 (0 + n) ([] ++ (shI ((O.map (adS s)).take n)).map (Value.int .i64)) (by simp [Act.eval, Act.put]) (by first | exact ho1 | exact World.ownsRow.alloc ho1 _) ⟨wf.heap.size + 1, 0, none⟩ 1 1 [.int .i64 (row s 0), .int .i64 (row s 1), .int .i64 (row s 2), .int .i64 (row s 3), .int .i64 (row s 4), .int .i64 (row s 5)] (by simp [Act.eval, Act.put]) rfl (by first | exact cells6_new _ _ _ _ _ _ _ _ _ (by first | omega | (simp; done) | (simp; omega)) | exact cells_kept hg1 (by first | omega | (simp; done) | (simp; omega)) (by simp [Value.ownBlock] <;> omega) (cells6_new _ _ _ _ _ _ _ _ _ (by first | omega | (simp; done) | (simp; omega))) | exact cells_kept hg1 (by first | omega | (simp; done) | (simp; omega)) (by simp [Value.ownBlock] <;> omega) (cells_past (by first | omega | (simp; done) | (simp; omega)) (cells6_new _ _ _ _ _ _ _ _ _ (by first | omega | (simp; done) | (simp; omega))))) (by intro u hu; simp at hu; rcases hu with rfl | rfl | rfl | rfl | rfl | rfl <;> rfl) (by unfold maxLen; omega) (by omega) (by first | omega | (simp; done) | (simp; omega)) ?_; intro v2 W2 ho2 hg2; have hb2 : Below wf.heap.size wf W2 := Below.grown (by first | exact hb1 | exact hb1.alloc hb1.size _) hg2 (by first | omega | (simp; done) | (simp; omega)) (fun j hj => (ho1.lt j hj).1); have hz2 := hb2.size) | (refine step_append_own rfl (.tmp 70) (.tmp 72) 28 rfl wf.heap.size 26 j0 (.agg #[.int .i64 0, .int .i64 0, .int .i64 0, .int .i64 0, .int .i64 0, .int .i64 0]) 6 48 Tryz.underlying28 hj jz0 jz1 jz2 rfl (by decide) v1 (0 + n) ([] ++ (shI ((O.map (adS s)).take n)).map (Value.int .i64)) (by simp [Act.eval, Act.put]) (by first | exact ho1 | exact World.ownsRow.alloc ho1 _) ⟨wf.heap.size, 0, none⟩ 1 1 [.int .i64 (row s 0), .int .i64 (row s 1), .int .i64 (row s 2), .int .i64 (row s 3), .int .i64 (row s 4), .int .i64 (row s 5)] (by simp [Act.eval, Act.put]) rfl (by first | exact cells6_new _ _ _ _ _ _ _ _ _ (by first | omega | (simp; done) | (simp; omega)) | exact cells_kept hg1 (by first | omega | (simp; done) | (simp; omega)) (by simp [Value.ownBlock] <;> omega) (cells6_new _ _ _ _ _ _ _ _ _ (by first | omega | (simp; done) | (simp; omega))) | exact cells_kept hg1 (by first | omega | (simp; done) | (simp; omega)) (by simp [Value.ownBlock] <;> omega) (cells_past (by first | omega | (simp; done) | (simp; omega)) (cells6_new _ _ _ _ _ _ _ _ _ (by first | omega | (simp; done) | (simp; omega))))) (by intro u hu; simp at hu; rcases hu with rfl | rfl | rfl | rfl | rfl | rfl <;> rfl) (by unfold maxLen; omega) (by omega) (by first | omega | (simp; done) | (simp; omega)) ?_; intro v2 W2 ho2 hg2; have hb2 : Below wf.heap.size wf W2 := Below.grown (by first | exact hb1 | exact hb1.alloc hb1.size _) hg2 (by first | omega | (simp; done) | (simp; omega)) (fun j hj => (ho1.lt j hj).1); have hz2 := hb2.size) | (refine step_append_own rfl (.tmp 73) (.tmp 76) 28 rfl wf.heap.size 26 j0 (.agg #[.int .i64 0, .int .i64 0, .int .i64 0, .int .i64 0, .int .i64 0, .int .i64 0]) 6 48 Tryz.underlying28 hj jz0 jz1 jz2 rfl (by decide) v2 (0 + n + 1) ([] ++ (shI ((O.map (adS s)).take n)).map (Value.int .i64) ++ [.int .i64 (row s 0), .int .i64 (row s 1), .int .i64 (row s 2), .int .i64 (row s 3), .int .i64 (row s 4), .int .i64 (row s 5)]) (by simp [Act.eval, Act.put]) ho2 A3 (O.length - n) (cap - n) ((shI ((O.map (adS s)).drop n)).map (Value.int .i64)) (by simp [Act.eval, Act.put]) (by rw [List.length_map, shI_len, List.length_drop]; omega) (HN3.out _ hb2) (fun u hu => by obtain ⟨z, _, rfl⟩ := List.mem_map.1 hu; rfl) (by unfold maxLen; omega) (by omega) (by first | omega | (simp; done) | (simp; omega)) ?_; intro v3 W3 ho3 hg3; have hb3 : Below wf.heap.size wf W3 := Below.grown hb2 hg3 (by first | omega | (simp; done) | (simp; omega)) (fun j hj => (ho2.lt j hj).1))))
                  all_goals
                    have hOf : OwnsS W3 w.heap.size v3 ((O.map (adS s)).take n ++ s :: (O.map (adS s)).drop n) := ins_own hBf.size (by rw [hlm]; exact hn) (by rw [hlm]) ho3
                    have hB3 : Below w.heap.size w W3 := hBf.trans (hb3.mono hBf.size)
                    have hSn := hS1.out n hLO.out hHF.out
                    rw [← HTS.out] at hSn
                    clear hb1 hb2 hb3 ho1 ho2 ho3 hg1 hg2 hg3
                    go_wp2
                    go_roundw
                    case rel => exact ⟨m + 1, _, by omega, by go_num, hOf, hSn, hB3⟩
                    case measure => simp [intOf]; omega
      · have e : m = G.length := by omega
        subst e
        rw [List.take_length] at hS
        go_wp2
        go_ret
        exact ⟨_, O, rfl, hO, hS, hbw⟩
end Go.Proofs.YtgjgefbcfcomcaaGreatDoor
