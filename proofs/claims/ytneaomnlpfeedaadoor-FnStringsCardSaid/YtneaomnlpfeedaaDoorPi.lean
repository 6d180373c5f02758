/-
  The program's ParseInt: its contract, out of the library's Atoi and Itoa. Conditions: the tables and the errors are laid.
-/
import Derived.Test.YtneaomnlpfeedaaDoorGv
import Derived.Lib.AtoiErrMem
import Derived.Tactics
import Derived.WalkKit
namespace Go.Proofs
open Go.RowKit Go.Proofs.YtneaomnlpfeedaaDoorW.PrintWords Go.Proofs.YtneaomnlpfeedaaDoorW.PrintLast
set_option linter.unusedVariables false
set_option linter.unusedSimpArgs false

/-- the table and the two errors lie in memory -/
def TabE (w : World) : Prop := TabW w ∧ (∃ tp p, w.var? Tryd.prog "strconv.ErrSyntax" = some #[.iface tp p]) ∧ ∃ tp p, w.var? Tryd.prog "strconv.ErrRange" = some #[.iface tp p]
theorem var_below {w w' : World} {n : String} {g : Nat} {v : Array Value} (hg : Tryd.prog.globalNamed n = some g) (h : w.var? Tryd.prog n = some v) (hb : Below w.heap.size w w') : w'.var? Tryd.prog n = some v := by
  unfold World.var? at h ⊢
  rw [hg] at h ⊢
  simp only [Option.bind_some] at h ⊢
  have hlt : g < w.heap.size := by
    rcases Nat.lt_or_ge g w.heap.size with h' | h'
    · exact h'
    · rw [Array.getElem?_eq_none h'] at h; cases h
  rw [hb.block _ hlt]
  exact h
theorem TabE.below {w w' : World} (h : TabE w) (hb : Below w.heap.size w w') : TabE w' := by
  obtain ⟨h1, ⟨a, b, h2⟩, c, d, h3⟩ := h
  exact ⟨h1.below hb, ⟨a, b, var_below (g := 1) (by kernel_rfl) h2 hb⟩, c, d, var_below (g := 2) (by kernel_rfl) h3 hb⟩
theorem TabE.tab {w : World} (h : TabE w) : TabW w := h.1
theorem Atoi_okB (s : ByteArray) (hs : s.size ≤ 281474976710656) (v : Int) (h : Lib.atoiAll s.data.toList = .ok v) (w : World) :
    Calls Tryd.prog 31 #[.string s] w fun e w' => e = .returned (.tuple #[.int .i64 v, .nilIface]) ∧ Below w.heap.size w w' := by
  refine (Tryd.strconv_Atoi_ok s (by omega) v h w).mono ?_
  rintro e w' ⟨rfl, rfl | ⟨t, rfl⟩⟩
  · exact ⟨rfl, Below.refl _ _⟩
  · exact ⟨rfl, Lib.bytesWorld_below w _ t⟩
theorem Atoi_badB (s : ByteArray) (hs : s.size ≤ 281474976710656) (h : ∀ v, Lib.atoiAll s.data.toList ≠ .ok v) (w : World) (hE : TabE w) :
    Calls Tryd.prog 31 #[.string s] w fun e w' => ∃ (n : Int) (N : Nat), e = .returned (.tuple #[.int .i64 n, .iface 64 (.pointer (some ⟨N, 0, none⟩))]) ∧ Below w.heap.size w w' := by
  obtain ⟨_, ⟨a, b, h2⟩, c, d, h3⟩ := hE
  cases e : Lib.atoiAll s.data.toList
  · rename_i v
    exact absurd e (h v)
  · skip
    refine (Any.strconv_Atoi_syntax_var Tryd.laysC172 s hs e a b w h2).mono ?_
    rintro e w' ⟨N, rfl, _, _, hb⟩
    exact ⟨_, N, rfl, hb⟩
  · skip
    refine (Tryd.strconv_Atoi_range_var s hs e c d w h3).mono ?_
    rintro e w' ⟨N, rfl, _, _, hb⟩
    exact ⟨_, N, rfl, hb⟩
set_option maxRecDepth 100000 in
theorem FormatInt_in (n : Int) (h0 : -999999 ≤ n) (h1 : n ≤ 999999) (w : World) (hTB : TabW w) : Calls Tryd.prog 9 #[.int .i64 n] w fun e w' => e = .returned (.tuple #[.string ⟨(Lib.itoa n).toArray⟩, .bool true]) ∧ Below w.heap.size w w' := by
  have c2 : decide (n < (-999999)) = false := decide_eq_false (by omega)
  have c3 : decide (999999 < n) = false := decide_eq_false (by omega)
  have hI := Aside0.mk (strconv_Itoa_23.calls n ⟨(Lib.itoa n).toArray⟩ w hTB (by unfold strconv_Itoa_23.f; rw [if_pos ⟨by omega, by omega⟩]))
  clear h0 h1 hTB
  go_enter Tryd.func9, Tryd.ntmps9
  go_wp2_with (go_at_call 23; (with_reducible refine hI.out.mono ?_); rintro e w1 ⟨rfl, hb⟩)
  go_ret2
  exact ⟨rfl, hb⟩
set_option maxRecDepth 100000 in
theorem FormatInt_out (n : Int) (h : n < -999999 ∨ 999999 < n) (w : World) : Calls Tryd.prog 9 #[.int .i64 n] w fun e w' => e = .returned (.tuple #[.string ⟨#[]⟩, .bool false]) ∧ Below w.heap.size w w' := by
  by_cases c : n < -999999
  · have c2 : decide (n < (-999999)) = true := decide_eq_true c
    clear h c
    go_enter Tryd.func9, Tryd.ntmps9
    go_wp2
    go_ret2
    exact ⟨rfl, Below.refl _ _⟩
  · have c2 : decide (n < (-999999)) = false := decide_eq_false c
    have c3 : decide (999999 < n) = true := decide_eq_true (by omega)
    clear h c
    go_enter Tryd.func9, Tryd.ntmps9
    go_wp2
    go_ret2
    exact ⟨rfl, Below.refl _ _⟩
theorem FormatInt_some (n : Int) (w : World) (hTB : TabW w) : Calls Tryd.prog 9 #[.int .i64 n] w fun e w' => ∃ (t : ByteArray) (b : Bool), e = .returned (.tuple #[.string t, .bool b]) ∧ Below w.heap.size w w' := by
  by_cases h : -999999 ≤ n ∧ n ≤ 999999
  · refine (FormatInt_in n h.1 h.2 w hTB).mono ?_
    rintro e w' ⟨rfl, hb⟩
    exact ⟨_, _, rfl, hb⟩
  · refine (FormatInt_out n (by omega) w).mono ?_
    rintro e w' ⟨rfl, hb⟩
    exact ⟨_, _, rfl, hb⟩
/-- the program's ParseInt -/
def pfI (s : ByteArray) : Int × Bool :=
  match Lib.atoiAll s.data.toList with
  | .ok v => if -999999 ≤ v ∧ v ≤ 999999 ∧ Lib.itoa v = s.data.toList then (v, true) else (0, false)
  | _ => (0, false)
def impl_ParseInt.f (s : ByteArray) : Option (Int × Bool) := if s.size ≤ 281474976710656 then some (pfI s) else none
set_option maxRecDepth 100000 in
theorem parse_bad (s : ByteArray) (hs : s.size ≤ 281474976710656) (h : ∀ v, Lib.atoiAll s.data.toList ≠ .ok v) (w : World) (hE : TabE w) :
    Calls Tryd.prog 15 #[.string s] w fun e w' => e = .returned (.tuple #[.int .i64 0, .bool false]) ∧ Below w.heap.size w w' := by
  have HE := Aside0.mk hE
  have hA := Aside0.mk (Atoi_badB s hs h w hE)
  clear h hE
  go_enter Tryd.func15, Tryd.ntmps15
  go_wp2_with (first | (go_at_call 31; (with_reducible refine hA.out.mono ?_); rintro e w1 ⟨n, N, rfl, hb1⟩) | (go_at_call 9; (with_reducible refine (FormatInt_some _ _ (HE.out.below hb1).tab).mono ?_); rintro e w2 ⟨t, b, rfl, hb2⟩))
  go_ret2
  exact ⟨rfl, below_step hb1 hb2⟩
set_option maxRecDepth 100000 in
theorem parse_out (s : ByteArray) (hs : s.size ≤ 281474976710656) (v : Int) (h : Lib.atoiAll s.data.toList = .ok v) (hv : v < -999999 ∨ 999999 < v) (w : World) (hE : TabE w) :
    Calls Tryd.prog 15 #[.string s] w fun e w' => e = .returned (.tuple #[.int .i64 0, .bool false]) ∧ Below w.heap.size w w' := by
  have HV := Aside0.mk hv
  have hA := Aside0.mk (Atoi_okB s hs v h w)
  clear h hE hv
  go_enter Tryd.func15, Tryd.ntmps15
  go_wp2_with (first | (go_at_call 31; (with_reducible refine hA.out.mono ?_); rintro e w1 ⟨rfl, hb1⟩) | (go_at_call 9; (with_reducible refine (FormatInt_out _ HV.out _).mono ?_); rintro e w2 ⟨rfl, hb2⟩))
  go_ret2
  exact ⟨rfl, below_step hb1 hb2⟩
set_option maxRecDepth 100000 in
theorem parse_in (s : ByteArray) (hs : s.size ≤ 281474976710656) (v : Int) (h : Lib.atoiAll s.data.toList = .ok v) (h0 : -999999 ≤ v) (h1 : v ≤ 999999) (w : World) (hE : TabE w) :
    Calls Tryd.prog 15 #[.string s] w fun e w' => e = .returned (.tuple #[.int .i64 (if Lib.itoa v = s.data.toList then v else 0), .bool (decide (Lib.itoa v = s.data.toList))]) ∧ Below w.heap.size w w' := by
  have HE := Aside0.mk hE
  have hA := Aside0.mk (Atoi_okB s hs v h w)
  have H0 := Aside0.mk h0
  have H1 := Aside0.mk h1
  clear h hE h0 h1
  have hl : ((⟨(Lib.itoa v).toArray⟩ : ByteArray).toList = s.toList) = (Lib.itoa v = s.data.toList) := by rw [ByteArray.toList_eq, ByteArray.toList_eq]
  obtain ⟨t, ht⟩ : ∃ t : ByteArray, t = ⟨(Lib.itoa v).toArray⟩ := ⟨_, rfl⟩
  rw [← ht] at hl
  have hF := Aside0.mk (fun w' hb => FormatInt_in v H0.out H1.out w' hb)
  rw [← ht] at hF
  by_cases c : Lib.itoa v = s.data.toList
  · have c4 : (t.toList == s.toList) = true := by rw [beq_iff_eq, hl]; exact c
    have c5 : t.toList = s.toList := by rw [hl]; exact c
    rw [if_pos c, decide_eq_true c]
    clear hl ht c
    go_enter Tryd.func15, Tryd.ntmps15
    go_wp2_with (first | (go_at_call 31; (with_reducible refine hA.out.mono ?_); rintro e w1 ⟨rfl, hb1⟩) | (go_at_call 9; (with_reducible refine (hF.out _ (HE.out.below hb1).tab).mono ?_); rintro e w2 ⟨rfl, hb2⟩))
    go_ret2
    exact ⟨rfl, below_step hb1 hb2⟩
  · have c4 : (t.toList == s.toList) = false := by rw [beq_eq_false_iff_ne, ne_eq, hl]; exact c
    have c5 : ¬ t.toList = s.toList := by rw [hl]; exact c
    rw [if_neg c, decide_eq_false c]
    clear hl ht c
    go_enter Tryd.func15, Tryd.ntmps15
    go_wp2_with (first | (go_at_call 31; (with_reducible refine hA.out.mono ?_); rintro e w1 ⟨rfl, hb1⟩) | (go_at_call 9; (with_reducible refine (hF.out _ (HE.out.below hb1).tab).mono ?_); rintro e w2 ⟨rfl, hb2⟩))
    go_ret2
    exact ⟨rfl, below_step hb1 hb2⟩
theorem impl_ParseInt.calls (s : ByteArray) (r1 : Int) (r2 : Bool) (w : World) (hTB : TabE w) (h : impl_ParseInt.f s = some (r1, r2)) :
    Calls Tryd.prog 15 #[.string s] w fun e w' => e = .returned (.tuple #[.int .i64 r1, .bool r2]) ∧ Below w.heap.size w w' := by
  unfold impl_ParseInt.f at h
  by_cases hs : s.size ≤ 281474976710656
  · rw [if_pos hs] at h
    injection h with h
    unfold pfI at h
    cases e : Lib.atoiAll s.data.toList
    · rename_i v
      rw [e] at h
      by_cases hv : -999999 ≤ v ∧ v ≤ 999999
      · have := parse_in s hs v e hv.1 hv.2 w hTB
        by_cases c : Lib.itoa v = s.data.toList
        · simp only [hv, c, and_self, if_true, Prod.mk.injEq] at h
          obtain ⟨rfl, rfl⟩ := h
          simpa [c] using this
        · simp only [c, and_false, if_false, Prod.mk.injEq] at h
          obtain ⟨rfl, rfl⟩ := h
          simpa [c] using this
      · have h2 : ¬ (-999999 ≤ v ∧ v ≤ 999999 ∧ Lib.itoa v = s.data.toList) := fun hh => hv ⟨hh.1, hh.2.1⟩
        simp only [h2, if_false, Prod.mk.injEq] at h
        obtain ⟨rfl, rfl⟩ := h
        exact parse_out s hs v e (by omega) w hTB
    · skip
      rw [e] at h
      injection h with h5 h6
      subst h5 h6
      exact parse_bad s hs (fun v hh => by rw [e] at hh; cases hh) w hTB
    · skip
      rw [e] at h
      injection h with h5 h6
      subst h5 h6
      exact parse_bad s hs (fun v hh => by rw [e] at hh; cases hh) w hTB
  · rw [if_neg hs] at h
    cases h
end Go.Proofs
