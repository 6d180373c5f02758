/-
  vBig, vCut, and the reference's draw of a turn and a vector. No conditions.
-/
import Derived.Test.YtidaoalnngmoaaaHe
import Derived.Laws.AppendOwnNone
import Derived.Deep.CutRange
namespace Go.Proofs.Ytidaoalnngmoaaa
open Go.RowKit
set_option linter.unusedSimpArgs false
set_option linter.unusedVariables false

theorem infoByte : (Try.prog.info? 5).map (fun i => (i.zero, i.size, i.bytes)) = some (some (.int .u8 0), 1, 1) := by kernel_rfl
theorem CodeB.moved {w W : World} {len : Nat} {cv : Value} (h : CodeB w w.heap.size cv len) (hb : Below w.heap.size w W) : CodeB W W.heap.size cv len := by
  rcases h with h | ⟨cb, co, cap, h1, h2, h3⟩
  · exact .inl h
  · refine .inr ⟨cb, co, cap, h1, Nat.lt_of_lt_of_le h2 hb.size, fun j hj => ?_⟩
    obtain ⟨z, hz⟩ := h3 j hj
    exact ⟨z, by rw [hb.cell (p := ⟨cb, co + j, none⟩) h2]; exact hz⟩
/-- a byte's value -/
def ByV (u : Value) : Prop := ∃ z : Int, u = .int .u8 z ∧ 0 ≤ z ∧ z ≤ 255
theorem codeB_of_row {w : World} {B n : Nat} {v : Value} {xs : List Value} (h : w.ownsRow B 5 1 v n xs) (hb : ∀ u ∈ xs, ByV u) : CodeB w w.heap.size v n := by
  rcases h.2 with ⟨h1, h2⟩ | ⟨g, cap, cur, hv, hg, hh, h1, h2, h3⟩
  · exact .inl ⟨h1, h2⟩
  · refine .inr ⟨g, 0, cap, hv, (Array.getElem?_eq_some_iff.1 hh).1, fun j hj => ?_⟩
    have hl : j < xs.length := by rw [h.1]; omega
    obtain ⟨z, hz, h0, h9⟩ := hb _ (List.getElem_mem hl)
    have h5 : (List.take (n * 1) cur.toList)[j]? = some (.int .u8 z) := by rw [h3.2, List.getElem?_eq_getElem hl, hz]
    rw [List.getElem?_take, if_pos (by omega)] at h5
    exact ⟨z, by simpa [World.cell?, hh] using h5, h0, h9⟩
theorem vBig_any (cv : Value) (len : Nat) (w : World) (hcode : CodeB w w.heap.size cv len) : Calls Try.prog 51 #[cv] w fun e w' => e = .returned (.bool (decide ((65536 : Int) < (len : Int)))) ∧ w' = w := by
  rcases hcode with ⟨hE, hL⟩ | ⟨cb, co, cap, hE, _, _⟩
  all_goals
    subst hE
    go_enter Try.func51, Try.ntmps51
    go_wp2
    go_ret
    exact ⟨by simp [*], rfl⟩
def VCutEnd (len : Nat) (w : World) (e : Ending) (w' : World) : Prop := ∃ (v : Value) (m : Nat), e = .returned v ∧ m ≤ len + 2 ∧ CodeB w' w'.heap.size v m ∧ Below w.heap.size w w'
theorem bytes_of {w : World} {cb co len : Nat} (h : ∀ j, j < len → ∃ z : Int, w.cell? ⟨cb, co + j, none⟩ = some (.int .u8 z) ∧ 0 ≤ z ∧ z ≤ 255) : ∃ zs : List Value, zs.length = len ∧ (∀ j u, zs[j]? = some u → w.cell? ⟨cb, co + j, none⟩ = some u) ∧ ∀ u ∈ zs, ByV u := by
  induction len with
  | zero => exact ⟨[], rfl, fun j u hj => by simp at hj, fun u hu => by simp at hu⟩
  | succ n ih =>
    obtain ⟨zs, h1, h2, h3⟩ := ih (fun j hj => h j (by omega))
    obtain ⟨z, z1, z2, z3⟩ := h n (by omega)
    refine ⟨zs ++ [.int .u8 z], by simp [h1], fun j u hj => ?_, fun u hu => ?_⟩
    · by_cases hl : j < n
      · rw [List.getElem?_append_left (by omega)] at hj
        exact h2 j u hj
      · rw [List.getElem?_append_right (by omega)] at hj
        have e : j = n := by
          by_cases e : j = n
          · exact e
          · rw [List.getElem?_eq_none (by simp; omega)] at hj
            simp at hj
        subst e
        rw [h1, Nat.sub_self] at hj
        simp at hj
        rw [← hj]
        exact z1
    · rcases List.mem_append.1 hu with hu | hu
      · exact h3 u hu
      · simp at hu
        exact ⟨z, hu, z2, z3⟩
def DrawTurnVectorEnd (w : World) (e : Ending) (w' : World) : Prop := ∃ t x y : Int, e = .returned (.tuple #[.int .i64 t, .int .i64 x, .int .i64 y]) ∧ Below w.heap.size w w'
set_option maxRecDepth 100000 in
set_option maxHeartbeats 1600000 in
theorem DrawTurnVector_any (cv : Value) (len : Nat) (hlen : len ≤ 1000000) (w : World) (hcode : CodeB w w.heap.size cv len) : Calls Try.prog 56 #[cv] w (DrawTurnVectorEnd w) := by
  have hc2 := hcode
  rcases hc2 with ⟨hE, hL⟩ | ⟨cb, co, cap, hE, _, _⟩
  all_goals
    subst hE
    go_enter Try.func56, Try.ntmps56
    go_upto_region 3 with (go_at_call 100; (with_reducible refine (motion3_draw (by exact Cur.boxed' hcode (by repeat (first | with_reducible exact Below.refl _ _ | with_reducible assumption | with_reducible refine Below.drew ?_ | with_reducible refine below_drewN ?_ _ | with_reducible refine Below.alloc ?_ ?_ _ | with_reducible refine Below.setCell ?_ ?_ _ | with_reducible refine Below.trans ?_ (Below.mono (by assumption) ?_) | omega | (simp <;> omega))) (by simp)) (by omega) hlen).mono ?_); rintro e w1 ⟨m0, m1, m2, rfl, hcu, hg⟩)
    have hM : Holds3 (w1.alloc (.cells #[.int .i64 m0, .int .i64 m1, .int .i64 m2] 39)) 39 w1.heap.size m0 m1 m2 := Holds3.made' rfl
    have c0 := hM.c0
    have c1 := hM.c1
    have c2 := hM.c2
    have cf := hM.free
    have hl0 : w.heap.size ≤ w1.heap.size := by have := hcu.lt; omega
    have hB : Below w.heap.size w (w1.alloc (.cells #[.int .i64 m0, .int .i64 m1, .int .i64 m2] 39)) := (by repeat (first | with_reducible exact Below.refl _ _ | with_reducible assumption | with_reducible refine Below.drew ?_ | with_reducible refine below_drewN ?_ _ | with_reducible refine Below.alloc ?_ ?_ _ | with_reducible refine Below.setCell ?_ ?_ _ | with_reducible refine below_grown ?_ (by with_reducible assumption) ?_ | omega | (simp <;> omega)))
    generalize hE : (w1.alloc (.cells #[.int .i64 m0, .int .i64 m1, .int .i64 m2] 39)) = W at *
    generalize hE2 : w1.heap.size = gM at *
    clear hE hE2
    go_region
    go_wp2_with fail
    go_ret3
    exact ⟨m0, m1, m2, rfl, (by repeat (first | with_reducible exact Below.refl _ _ | with_reducible assumption | with_reducible refine Below.drew ?_ | with_reducible refine below_drewN ?_ _ | with_reducible refine Below.alloc ?_ ?_ _ | with_reducible refine Below.setCell ?_ ?_ _ | with_reducible refine below_grown ?_ (by with_reducible assumption) ?_ | omega | (simp <;> omega)))⟩
theorem cell_new (W : World) (x : Value) (zs : Array Value) (T B : Nat) (h : B = W.heap.size) : ((W.alloc (.cells (#[x] ++ zs) T)).drew).cell? ⟨B, 0 + 0, none⟩ = some x := by
  subst h
  show (W.alloc (.cells (#[x] ++ zs) T)).cell? ⟨W.heap.size, 0 + 0, none⟩ = some x
  have e := heap_alloc_new W (.cells (#[x] ++ zs) T)
  unfold World.cell?
  rw [e]
  simp
  rw [Array.getElem?_append_left (by simp)]
  rfl
set_option maxRecDepth 100000 in
set_option maxHeartbeats 1600000 in
theorem vCut_none (k : Int) (hk : k = 1 ∨ k = 2) (w : World) : Calls Try.prog 54 #[.slice none 0 0, .int .i64 k] w (VCutEnd 0 w) := by
  rcases hk with rfl | rfl
  all_goals
    go_enter Try.func54, Try.ntmps54
    go_wp2
    go_ret
    refine ⟨_, 1, rfl, by omega, .inr ⟨w.heap.size + 1 + 1, 0, _, rfl, by simp, fun j hj => ?_⟩, (by repeat (first | with_reducible exact Below.refl _ _ | with_reducible assumption | with_reducible refine Below.drew ?_ | with_reducible refine below_drewN ?_ _ | with_reducible refine Below.alloc ?_ ?_ _ | with_reducible refine Below.setCell ?_ ?_ _ | with_reducible refine Below.trans ?_ (Below.mono (by assumption) ?_) | omega | (simp <;> omega)))⟩
    have e : j = 0 := by omega
    subst e
    exact ⟨0, cell_new _ _ _ _ _ (by simp), by omega, by omega⟩
set_option maxRecDepth 100000 in
set_option maxHeartbeats 1600000 in
theorem vCut_some (cb co len cap : Nat) (k : Int) (hk : k = 1 ∨ k = 2) (hlen : len ≤ 1000000) (hcap : len ≤ cap) (w : World) (hcb : cb < w.heap.size) (hcell : ∀ j, j < len → ∃ z : Int, w.cell? ⟨cb, co + j, none⟩ = some (.int .u8 z) ∧ 0 ≤ z ∧ z ≤ 255) : Calls Try.prog 54 #[.slice (some ⟨cb, co, none⟩) len cap, .int .i64 k] w (VCutEnd len w) := by
  obtain ⟨i0, hi, iz0, iz1, iz2⟩ := info_parts infoByte
  have hown := World.ownsRow_lit (base := w.heap.size) (e := 5) (size := 1) w #[] 0 (Nat.le_refl _) (by unfold maxLen; omega) (by simp)
  obtain ⟨n, rfl⟩ : ∃ n : Nat, k = (n : Int) := ⟨k.toNat, by omega⟩
  have hn2 : n ≤ 2 := by omega
  clear hk
  by_cases hl : (len : Int) < (n : Int)
  · by_cases hce : cap = len
    all_goals
      go_enter Try.func54, Try.ntmps54
      go_wp2
      go_ret
      refine ⟨_, 1, rfl, by omega, .inr ⟨w.heap.size + 1 + 1, 0, _, rfl, by simp, fun j hj => ?_⟩, (by repeat (first | with_reducible exact Below.refl _ _ | with_reducible assumption | with_reducible refine Below.drew ?_ | with_reducible refine below_drewN ?_ _ | with_reducible refine Below.alloc ?_ ?_ _ | with_reducible refine Below.setCell ?_ ?_ _ | with_reducible refine Below.trans ?_ (Below.mono (by assumption) ?_) | omega | (simp <;> omega)))⟩
      have e : j = 0 := by omega
      subst e
      exact ⟨(len : Int), cell_new _ _ _ _ _ (by simp), by omega, by omega⟩
  by_cases hl2 : len = n
  · subst hl2
    by_cases hce : cap = len
    all_goals
      go_enter Try.func54, Try.ntmps54
      go_wp2
      go_ret
      refine ⟨_, 1, rfl, by omega, .inr ⟨w.heap.size + 1 + 1, 0, _, rfl, by simp, fun j hj => ?_⟩, (by repeat (first | with_reducible exact Below.refl _ _ | with_reducible assumption | with_reducible refine Below.drew ?_ | with_reducible refine below_drewN ?_ _ | with_reducible refine Below.alloc ?_ ?_ _ | with_reducible refine Below.setCell ?_ ?_ _ | with_reducible refine Below.trans ?_ (Below.mono (by assumption) ?_) | omega | (simp <;> omega)))⟩
      have e : j = 0 := by omega
      subst e
      exact ⟨(len : Int), cell_new _ _ _ _ _ (by simp), by omega, by omega⟩
  have hce : ¬ cap = n := by omega
  have hln : (n : Int) ≤ (len : Int) := by omega
  obtain ⟨zs, z1, z2, z3⟩ := bytes_of hcell
  have hlz : (zs.drop n).length = (len - n) * 1 := by rw [List.length_drop]; omega
  go_enter Try.func54, Try.ntmps54
  go_wp2_with (at_builtin; refine wpList_append_own _ rfl (.tmp 11) (.tmp 14) 63 rfl w.heap.size 5 i0 (.int .u8 0) 1 1 Try.underlying63 hi iz0 iz1 iz2 rfl (by decide) _ _ _ rfl hown ⟨cb, co + n, none⟩ (len - n) (cap - n) (zs.drop n) rfl hlz ?c1 ?c2 ?c3 ?c4 ?c5 ?_)
  case c1 =>
    intro j u hj
    have h := z2 (n + j) u hj
    rw [show co + (n + j) = co + n + j by omega] at h
    simpa [Addr.add] using h
  case c2 => intro u hu; obtain ⟨z, rfl, _, _⟩ := z3 u (List.mem_of_mem_drop hu); rfl
  case c3 => unfold maxLen; omega
  case c4 => omega
  intro v1 w1 hown1 hgrow1 hnil1
  have hB1 : Below w.heap.size w w1 := ((by repeat (first | with_reducible exact Below.refl _ _ | with_reducible assumption | with_reducible refine Below.drew ?_ | with_reducible refine below_drewN ?_ _ | with_reducible refine Below.alloc ?_ ?_ _ | with_reducible refine Below.setCell ?_ ?_ _ | with_reducible refine Below.trans ?_ (Below.mono (by assumption) ?_) | omega | (simp <;> omega))) : Below w.heap.size w (w.alloc (.cells #[] 5))).grown hgrow1 (by simp) (fun j hj => by simp [Value.ownBlock] at hj; omega)
  have hsz1 := hB1.size
  clear hgrow1 hnil1 hown
  go_wp2_with (at_builtin; refine wpList_append_own _ rfl (.tmp 15) (.tmp 18) 63 rfl w.heap.size 5 i0 (.int .u8 0) 1 1 Try.underlying63 hi iz0 iz1 iz2 rfl (by decide) _ _ _ rfl (hown1.alloc _) ⟨w1.heap.size, 0, none⟩ 1 1 [.int .u8 (n : Int)] rfl rfl ?d1 ?d2 ?d3 ?d4 ?d5 ?_)
  case d1 =>
    intro j u hj
    match j, hj with
    | 0, hj => simp at hj; subst hj; simp [Addr.add]
  case d2 => intro u hu; simp at hu; subst hu; rfl
  case d3 => unfold maxLen; omega
  case d4 => omega
  case d5 => simp; omega
  intro v2 w2 hown2 hgrow2 hnil2
  have hB : Below w.heap.size w w2 := (hB1.alloc hsz1 _).grown hgrow2 (by simp; omega) (fun j hj => (hown1.lt j hj).1)
  go_wp2
  go_ret
  refine ⟨v2, _, rfl, ?_, codeB_of_row hown2 ?_, hB⟩
  · omega
  · intro u hu
    rcases List.mem_append.1 hu with hu | hu
    · exact z3 u (List.mem_of_mem_drop hu)
    · simp at hu
      exact ⟨(n : Int), hu, by omega, by omega⟩
theorem vCut_any (cv : Value) (len : Nat) (w : World) (hcode : CodeB w w.heap.size cv len) (hcap : ∀ a m c, cv = .slice a m c → m ≤ c) (k : Int) (hk : k = 1 ∨ k = 2) (hlen : len ≤ 1000000) : Calls Try.prog 54 #[cv, .int .i64 k] w (VCutEnd len w) := by
  rcases hcode with ⟨rfl, rfl⟩ | ⟨cb, co, cap, rfl, h1, h2⟩
  · exact vCut_none k hk w
  · exact vCut_some cb co len cap k hk hlen (hcap _ _ _ rfl) w h1 h2
set_option maxRecDepth 100000 in
theorem eql_arr3 (d : Nat) (a0 a1 a2 b0 b1 b2 : Int) (w : World) : (Op.equalIn (d + 2) 39 (.agg #[.int .i64 a0, .int .i64 a1, .int .i64 a2]) (.agg #[.int .i64 b0, .int .i64 b1, .int .i64 b2])).run Try.prog w = .ok (decide (a0 = b0 ∧ a1 = b1 ∧ a2 = b2)) w := by
  have hs : ∀ w, (sizeOf 3).run Try.prog w = .ok 1 w := fun _ => by kernel_rfl
  have hu : ∀ w, (underlying 39).run Try.prog w = .ok (.array 3 3) w := fun _ => by kernel_rfl
  have hp : ∀ (c0 c1 c2 : Int) w, (part 3 #[.int .i64 c0, .int .i64 c1, .int .i64 c2] 0).run Try.prog w = .ok (.int .i64 c0) w ∧
   (part 3 #[.int .i64 c0, .int .i64 c1, .int .i64 c2] 1).run Try.prog w = .ok (.int .i64 c1) w ∧
   (part 3 #[.int .i64 c0, .int .i64 c1, .int .i64 c2] 2).run Try.prog w = .ok (.int .i64 c2) w := fun _ _ _ _ => ⟨by kernel_rfl, by kernel_rfl, by kernel_rfl⟩
  have h3 := eql_int d
  rw [Op.equalIn]
  simp only [Sem.run_bind, hu, Result.andThen_ok, hs]
  simp [Std.Legacy.Range.forIn_eq_forIn_range', List.range', hp, h3, Sem.run_bind, Sem.run_ite]
  clear hs hu hp h3
  by_cases h0 : a0 = b0 <;> by_cases h1 : a1 = b1 <;> by_cases h2 : a2 = b2 <;> simp [h0, h1, h2]
@[go_sem] theorem run_equalIn_mot (a0 a1 a2 b0 b1 b2 : Int) (w : World) : (Op.equalIn 10000 39 (.agg #[.int .i64 a0, .int .i64 a1, .int .i64 a2]) (.agg #[.int .i64 b0, .int .i64 b1, .int .i64 b2])).run Try.prog w = .ok (decide (a0 = b0 ∧ a1 = b1 ∧ a2 = b2)) w := eql_arr3 9998 a0 a1 a2 b0 b1 b2 w
@[go_sem] theorem run_eql_mot (a0 a1 a2 b0 b1 b2 : Int) (w : World) : (binOp .eql 39 (.agg #[.int .i64 a0, .int .i64 a1, .int .i64 a2]) (.agg #[.int .i64 b0, .int .i64 b1, .int .i64 b2])).run Try.prog w = .ok (.bool (decide (a0 = b0 ∧ a1 = b1 ∧ a2 = b2))) w := by
  have h := eql_arr3 9998 a0 a1 a2 b0 b1 b2 w
  simp only [binOp]
  simp [Op.equal, Op.maxDepth, h]
@[go_sem] theorem run_neq_mot (a0 a1 a2 b0 b1 b2 : Int) (w : World) : (binOp .neq 39 (.agg #[.int .i64 a0, .int .i64 a1, .int .i64 a2]) (.agg #[.int .i64 b0, .int .i64 b1, .int .i64 b2])).run Try.prog w = .ok (.bool (!decide (a0 = b0 ∧ a1 = b1 ∧ a2 = b2))) w := by
  have h := eql_arr3 9998 a0 a1 a2 b0 b1 b2 w
  simp only [binOp]
  simp [Op.equal, Op.maxDepth, h]
end Go.Proofs.Ytidaoalnngmoaaa
