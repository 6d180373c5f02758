/-
  The reference's draws for FnKernels, and the law's comparison of two slices of sheets.  The reference's draw of a list of stamps: at most seven sheets, valid or not, in a row of its own. No conditions.
-/
import Derived.Test.YtgjgefbcfcomcaaGreatDoorXc
import Derived.Test.YtgjgefbcfcomcaaGreatDoorUh
import Derived.Test.YtgjgefbcfcomcaaGreatDoorWb
import Derived.Test.YtgjgefbcfcomcaaGreatDoorVf
import Derived.Deep.CutRange
namespace Go.Proofs.YtgjgefbcfcomcaaGreatDoor
open Go.RowKit
set_option linter.unusedSimpArgs false
set_option linter.unusedVariables false

theorem am_pw (C len n : Nat) (cv : Value) (hn : n ≤ 1000000) (hlen : len ≤ 1000000) (W : World) (hcur : Cur W C cv len n) (L : Nat) (hL : L = W.heap.size) (T : Nat) :
    Calls Tryz.prog 43 #[.pointer (some ⟨C, 0, none⟩), .slice (some ⟨L, 0, none⟩) 10 10] (W.alloc (.cells #[.int .i64 2, .int .i64 3, .int .i64 1, .int .i64 0, .int .i64 4, .int .i64 6, .int .i64 12, .int .i64 24, .int .i64 25, .int .i64 (-1)] T)) (AmongEnd C cv len n (fun z => z = z) (W.alloc (.cells #[.int .i64 2, .int .i64 3, .int .i64 1, .int .i64 0, .int .i64 4, .int .i64 6, .int .i64 12, .int .i64 24, .int .i64 25, .int .i64 (-1)] T))) :=
  among_lit C len n cv _ [2, 3, 1, 0, 4, 6, 12, 24, 25, -1] (by decide) hn hlen W hcur (by decide) L hL _ rfl T 10 rfl
theorem am_c_pw {C len n : Nat} {cv : Value} {W : World} (hcur : Cur W C cv len n) (hn : n ≤ 1000000) (hlen : len ≤ 1000000) (L : Nat) (hL : L = W.heap.size) (T : Nat) :
    Calls Tryz.prog 43 #[.pointer (some ⟨C, 0, none⟩), .slice (some ⟨L, 0, none⟩) 10 10] (W.alloc (.cells #[.int .i64 2, .int .i64 3, .int .i64 1, .int .i64 0, .int .i64 4, .int .i64 6, .int .i64 12, .int .i64 24, .int .i64 25, .int .i64 (-1)] T)) (AmongEnd C cv len n (fun z => z = z) (W.alloc (.cells #[.int .i64 2, .int .i64 3, .int .i64 1, .int .i64 0, .int .i64 4, .int .i64 6, .int .i64 12, .int .i64 24, .int .i64 25, .int .i64 (-1)] T))) := am_pw C len n cv hn hlen W hcur L hL T
theorem am_qs (C len n : Nat) (cv : Value) (hn : n ≤ 1000000) (hlen : len ≤ 1000000) (W : World) (hcur : Cur W C cv len n) (L : Nat) (hL : L = W.heap.size) (T : Nat) :
    Calls Tryz.prog 43 #[.pointer (some ⟨C, 0, none⟩), .slice (some ⟨L, 0, none⟩) 6 6] (W.alloc (.cells #[.int .i64 2, .int .i64 1, .int .i64 3, .int .i64 0, .int .i64 4, .int .i64 7] T)) (AmongEnd C cv len n (fun z => 0 ≤ z ∧ z ≤ 7) (W.alloc (.cells #[.int .i64 2, .int .i64 1, .int .i64 3, .int .i64 0, .int .i64 4, .int .i64 7] T))) :=
  among_lit C len n cv _ [2, 1, 3, 0, 4, 7] (by decide) hn hlen W hcur (by decide) L hL _ rfl T 6 rfl
theorem am_c_qs {C len n : Nat} {cv : Value} {W : World} (hcur : Cur W C cv len n) (hn : n ≤ 1000000) (hlen : len ≤ 1000000) (L : Nat) (hL : L = W.heap.size) (T : Nat) :
    Calls Tryz.prog 43 #[.pointer (some ⟨C, 0, none⟩), .slice (some ⟨L, 0, none⟩) 6 6] (W.alloc (.cells #[.int .i64 2, .int .i64 1, .int .i64 3, .int .i64 0, .int .i64 4, .int .i64 7] T)) (AmongEnd C cv len n (fun z => 0 ≤ z ∧ z ≤ 7) (W.alloc (.cells #[.int .i64 2, .int .i64 1, .int .i64 3, .int .i64 0, .int .i64 4, .int .i64 7] T))) := am_qs C len n cv hn hlen W hcur L hL T
def One6 (w : World) (e : Ending) (w' : World) : Prop := ∃ a0 a1 a2 a3 a4 a5 : Int, e = .returned (.agg #[.int .i64 a0, .int .i64 a1, .int .i64 a2, .int .i64 a3, .int .i64 a4, .int .i64 a5]) ∧ Below w.heap.size w w'
def PowEnd (w : World) (e : Ending) (w' : World) : Prop := ∃ a0 a1 a2 a3 a4 a5 n : Int, e = .returned (.tuple #[.agg #[.int .i64 a0, .int .i64 a1, .int .i64 a2, .int .i64 a3, .int .i64 a4, .int .i64 a5], .int .i64 n]) ∧ Below w.heap.size w w'

set_option maxRecDepth 100000 in
set_option maxHeartbeats 3200000 in
theorem DrawKernelOf_any (cv : Value) (len : Nat) (hlen : len ≤ 1000000) (w : World) (hcode : CodeB w w.heap.size cv len) : Calls Tryz.prog 5 #[cv] w (One6 w) := by
  have hc2 := hcode
  rcases hc2 with ⟨hE, hL⟩ | ⟨cb, co, cap, hE, _, _⟩
  · subst hE
    go_enter Tryz.func5, Tryz.ntmps5
    go_wp2_with (go_at_call 30; (with_reducible refine (kernelStamp_draw (by exact Cur.boxed' hcode (by repeat (first | with_reducible exact Below.refl _ _ | with_reducible assumption | with_reducible refine Below.drew ?_ | with_reducible refine below_drewN ?_ _ | with_reducible refine Below.alloc ?_ ?_ _ | with_reducible refine Below.setCell ?_ ?_ _ | with_reducible refine Below.trans ?_ (Below.mono (by assumption) ?_) | omega | (simp <;> omega))) (by simp)) (by omega) hlen).mono ?_); rintro e w1 ⟨a0, a1, a2, a3, a4, a5, rfl, hcu, hg⟩; have hr : HoldsA w1 26 (w.heap.size) 0 0 0 0 0 0 := HoldsA.grownM (by repeat (first | with_reducible assumption | (with_reducible refine HoldsA.made' ?_; (simp; done)) | with_reducible refine HoldsA.alloc ?_ _ | with_reducible refine HoldsA.drew ?_ | with_reducible refine HoldsA.drewN ?_ _ | (with_reducible refine HoldsA.far ?_ _ _ (by first | (simp; done) | (simp; omega) | omega)))) hg (by omega); have y0 := hr.c0; have y1 := hr.c1; have y2 := hr.c2; have y3 := hr.c3; have y4 := hr.c4; have y5 := hr.c5; have yf := hr.free)
    exact bodyPost_ret (v := .agg #[.int .i64 a0, .int .i64 a1, .int .i64 a2, .int .i64 a3, .int .i64 a4, .int .i64 a5]) (by simp [results, Tryz.results5, go_sem, *]) rfl ⟨_, _, _, _, _, _, rfl, (by repeat (first | with_reducible exact Below.refl _ _ | with_reducible assumption | with_reducible refine Below.drew ?_ | with_reducible refine below_drewN ?_ _ | with_reducible refine Below.alloc ?_ ?_ _ | with_reducible refine Below.setCell ?_ ?_ _ | with_reducible refine below_grown ?_ (by with_reducible assumption) ?_ | omega | (simp <;> omega)))⟩
  · subst hE
    go_enter Tryz.func5, Tryz.ntmps5
    go_wp2_with (go_at_call 30; (with_reducible refine (kernelStamp_draw (by exact Cur.boxed' hcode (by repeat (first | with_reducible exact Below.refl _ _ | with_reducible assumption | with_reducible refine Below.drew ?_ | with_reducible refine below_drewN ?_ _ | with_reducible refine Below.alloc ?_ ?_ _ | with_reducible refine Below.setCell ?_ ?_ _ | with_reducible refine Below.trans ?_ (Below.mono (by assumption) ?_) | omega | (simp <;> omega))) (by simp)) (by omega) hlen).mono ?_); rintro e w1 ⟨a0, a1, a2, a3, a4, a5, rfl, hcu, hg⟩; have hr : HoldsA w1 26 (w.heap.size) 0 0 0 0 0 0 := HoldsA.grownM (by repeat (first | with_reducible assumption | (with_reducible refine HoldsA.made' ?_; (simp; done)) | with_reducible refine HoldsA.alloc ?_ _ | with_reducible refine HoldsA.drew ?_ | with_reducible refine HoldsA.drewN ?_ _ | (with_reducible refine HoldsA.far ?_ _ _ (by first | (simp; done) | (simp; omega) | omega)))) hg (by omega); have y0 := hr.c0; have y1 := hr.c1; have y2 := hr.c2; have y3 := hr.c3; have y4 := hr.c4; have y5 := hr.c5; have yf := hr.free)
    exact bodyPost_ret (v := .agg #[.int .i64 a0, .int .i64 a1, .int .i64 a2, .int .i64 a3, .int .i64 a4, .int .i64 a5]) (by simp [results, Tryz.results5, go_sem, *]) rfl ⟨_, _, _, _, _, _, rfl, (by repeat (first | with_reducible exact Below.refl _ _ | with_reducible assumption | with_reducible refine Below.drew ?_ | with_reducible refine below_drewN ?_ _ | with_reducible refine Below.alloc ?_ ?_ _ | with_reducible refine Below.setCell ?_ ?_ _ | with_reducible refine below_grown ?_ (by with_reducible assumption) ?_ | omega | (simp <;> omega)))⟩

set_option maxRecDepth 100000 in
set_option maxHeartbeats 3200000 in
theorem DrawPowerOf_any (cv : Value) (len : Nat) (hlen : len ≤ 1000000) (w : World) (hcode : CodeB w w.heap.size cv len) : Calls Tryz.prog 18 #[cv] w (PowEnd w) := by
  have hc2 := hcode
  rcases hc2 with ⟨hE, hL⟩ | ⟨cb, co, cap, hE, _, _⟩
  · subst hE
    go_enter Tryz.func18, Tryz.ntmps18
    go_upto_region 3 with (go_at_call 43; (with_reducible refine (am_c_pw (by exact Cur.boxed' hcode (by repeat (first | with_reducible exact Below.refl _ _ | with_reducible assumption | with_reducible refine Below.drew ?_ | with_reducible refine below_drewN ?_ _ | with_reducible refine Below.alloc ?_ ?_ _ | with_reducible refine Below.setCell ?_ ?_ _ | with_reducible refine Below.trans ?_ (Below.mono (by assumption) ?_) | omega | (simp <;> omega))) (by simp)) (by omega) hlen _ (by simp) _).mono ?_); rintro e w1 ⟨n, rfl, hPz, hcu, hg⟩; clear hPz)
    have hr1 : HoldsA w1 26 (w.heap.size) 0 0 0 0 0 0 := HoldsA.grownM (by repeat (first | with_reducible assumption | (with_reducible refine HoldsA.made' ?_; (simp; done)) | with_reducible refine HoldsA.alloc ?_ _ | with_reducible refine HoldsA.drew ?_ | with_reducible refine HoldsA.drewN ?_ _ | (with_reducible refine HoldsA.far ?_ _ _ (by first | (simp; done) | (simp; omega) | omega)))) hg (by omega)
    have hB1 : Below w.heap.size w w1 := (by repeat (first | with_reducible exact Below.refl _ _ | with_reducible assumption | with_reducible refine Below.drew ?_ | with_reducible refine below_drewN ?_ _ | with_reducible refine Below.alloc ?_ ?_ _ | with_reducible refine Below.setCell ?_ ?_ _ | with_reducible refine below_grown ?_ (by with_reducible assumption) ?_ | omega | (simp <;> omega)))
    have hl1 := hcu.lt
    clear hg
    go_wp2_with (go_at_call 30; (with_reducible refine (kernelStamp_draw hcu (by omega) hlen).mono ?_); rintro e w2 ⟨a0, a1, a2, a3, a4, a5, rfl, hcu2, hg2⟩; have hr2 : HoldsA w2 26 (w.heap.size) 0 0 0 0 0 0 := HoldsA.grownM hr1 hg2 (by omega); have y0 := hr2.c0; have y1 := hr2.c1; have y2 := hr2.c2; have y3 := hr2.c3; have y4 := hr2.c4; have y5 := hr2.c5; have yf := hr2.free)
    exact bodyPost_ret (v := .tuple #[.agg #[.int .i64 a0, .int .i64 a1, .int .i64 a2, .int .i64 a3, .int .i64 a4, .int .i64 a5], .int .i64 n]) (by simp [results, Tryz.results18, go_sem, *]) rfl ⟨_, _, _, _, _, _, _, rfl, (by repeat (first | with_reducible exact Below.refl _ _ | with_reducible assumption | with_reducible refine Below.drew ?_ | with_reducible refine below_drewN ?_ _ | with_reducible refine Below.alloc ?_ ?_ _ | with_reducible refine Below.setCell ?_ ?_ _ | with_reducible refine below_grown ?_ (by with_reducible assumption) ?_ | omega | (simp <;> omega)))⟩
  · subst hE
    go_enter Tryz.func18, Tryz.ntmps18
    go_upto_region 3 with (go_at_call 43; (with_reducible refine (am_c_pw (by exact Cur.boxed' hcode (by repeat (first | with_reducible exact Below.refl _ _ | with_reducible assumption | with_reducible refine Below.drew ?_ | with_reducible refine below_drewN ?_ _ | with_reducible refine Below.alloc ?_ ?_ _ | with_reducible refine Below.setCell ?_ ?_ _ | with_reducible refine Below.trans ?_ (Below.mono (by assumption) ?_) | omega | (simp <;> omega))) (by simp)) (by omega) hlen _ (by simp) _).mono ?_); rintro e w1 ⟨n, rfl, hPz, hcu, hg⟩; clear hPz)
    have hr1 : HoldsA w1 26 (w.heap.size) 0 0 0 0 0 0 := HoldsA.grownM (by repeat (first | with_reducible assumption | (with_reducible refine HoldsA.made' ?_; (simp; done)) | with_reducible refine HoldsA.alloc ?_ _ | with_reducible refine HoldsA.drew ?_ | with_reducible refine HoldsA.drewN ?_ _ | (with_reducible refine HoldsA.far ?_ _ _ (by first | (simp; done) | (simp; omega) | omega)))) hg (by omega)
    have hB1 : Below w.heap.size w w1 := (by repeat (first | with_reducible exact Below.refl _ _ | with_reducible assumption | with_reducible refine Below.drew ?_ | with_reducible refine below_drewN ?_ _ | with_reducible refine Below.alloc ?_ ?_ _ | with_reducible refine Below.setCell ?_ ?_ _ | with_reducible refine below_grown ?_ (by with_reducible assumption) ?_ | omega | (simp <;> omega)))
    have hl1 := hcu.lt
    clear hg
    go_wp2_with (go_at_call 30; (with_reducible refine (kernelStamp_draw hcu (by omega) hlen).mono ?_); rintro e w2 ⟨a0, a1, a2, a3, a4, a5, rfl, hcu2, hg2⟩; have hr2 : HoldsA w2 26 (w.heap.size) 0 0 0 0 0 0 := HoldsA.grownM hr1 hg2 (by omega); have y0 := hr2.c0; have y1 := hr2.c1; have y2 := hr2.c2; have y3 := hr2.c3; have y4 := hr2.c4; have y5 := hr2.c5; have yf := hr2.free)
    exact bodyPost_ret (v := .tuple #[.agg #[.int .i64 a0, .int .i64 a1, .int .i64 a2, .int .i64 a3, .int .i64 a4, .int .i64 a5], .int .i64 n]) (by simp [results, Tryz.results18, go_sem, *]) rfl ⟨_, _, _, _, _, _, _, rfl, (by repeat (first | with_reducible exact Below.refl _ _ | with_reducible assumption | with_reducible refine Below.drew ?_ | with_reducible refine below_drewN ?_ _ | with_reducible refine Below.alloc ?_ ?_ _ | with_reducible refine Below.setCell ?_ ?_ _ | with_reducible refine below_grown ?_ (by with_reducible assumption) ?_ | omega | (simp <;> omega)))⟩
def RhRel (L : List Nat) (w : World) (i : Value) (wr : World) : Prop := ∃ k : Nat, k ≤ L.length ∧ i = .int .i64 (k : Int) ∧ Below w.heap.size w wr
set_option maxRecDepth 100000 in
set_option maxHeartbeats 8000000 in
theorem rSheets_any (L : List Nat) (v v' : Value) (hL : L.length ≤ 36) (w : World) (hr : ReadsS w v L) (hr' : ReadsS w v' L) :
    Calls Tryz.prog 9 #[v, v'] w fun e w' => e = .returned (.bool true) ∧ Below w.heap.size w w' := by
  obtain ⟨a, c, rfl⟩ := readsS_form hr
  obtain ⟨a', c', rfl⟩ := readsS_form hr'
  go_enter Tryz.func9, Tryz.ntmps9
  go_wp2
  go_loopw [5] (RhRel L w) (fun i _ => L.length - (intOf i).toNat)
  case atStart => exact ⟨0, Nat.zero_le _, rfl, Below.refl _ _⟩
  case round =>
    obtain ⟨k, hk, rfl, hbw⟩ := hrel
    have hbsz := hbw.size
    by_cases hlt : k < L.length
    · have hlt' : (k : Int) < (L.length : Int) := by omega
      rcases hr with ⟨h1, _⟩ | ⟨g, cap, h1, hg, hcell⟩
      · injection h1 with _ h2 _
        omega
      injection h1 with h2 _ h3
      subst h2 h3
      rcases hr' with ⟨h1, _⟩ | ⟨g', cap', h1, hg', hcell'⟩
      · injection h1 with _ h2 _
        omega
      injection h1 with h2 _ h3
      subst h2 h3
      obtain ⟨c0, c1, c2, c3, c4, c5⟩ := hcell k hlt
      obtain ⟨d0, d1, d2, d3, d4, d5⟩ := hcell' k hlt
      generalize L.getD k 0 = q at *
      have e0 := (hbw.cell (p := ⟨g, k * 6, none⟩) hg).trans c0
      have e1 := (hbw.cell (p := ⟨g, k * 6 + 1, none⟩) hg).trans c1
      have e2 := (hbw.cell (p := ⟨g, k * 6 + 2, none⟩) hg).trans c2
      have e3 := (hbw.cell (p := ⟨g, k * 6 + 3, none⟩) hg).trans c3
      have e4 := (hbw.cell (p := ⟨g, k * 6 + 4, none⟩) hg).trans c4
      have e5 := (hbw.cell (p := ⟨g, k * 6 + 5, none⟩) hg).trans c5
      have f0 := (hbw.cell (p := ⟨g', k * 6, none⟩) hg').trans d0
      have f1 := (hbw.cell (p := ⟨g', k * 6 + 1, none⟩) hg').trans d1
      have f2 := (hbw.cell (p := ⟨g', k * 6 + 2, none⟩) hg').trans d2
      have f3 := (hbw.cell (p := ⟨g', k * 6 + 3, none⟩) hg').trans d3
      have f4 := (hbw.cell (p := ⟨g', k * 6 + 4, none⟩) hg').trans d4
      have f5 := (hbw.cell (p := ⟨g', k * 6 + 5, none⟩) hg').trans d5
      clear c0 c1 c2 c3 c4 c5 d0 d1 d2 d3 d4 d5
      have hgw : g < wr.heap.size := by omega
      have hgw' : g' < wr.heap.size := by omega
      go_upto_region 6 with fail
      go_cut [25] from 17 to 25 (fun s25 wc => s25 = .bool false ∧ Below wr.heap.size wr wc)
      case first =>
        go_region_held3 (fun w' => w'.cell? ⟨g, k * 6, none⟩ = some (.int .i64 (row q 0)) ∧ w'.cell? ⟨g, k * 6 + 1, none⟩ = some (.int .i64 (row q 1)) ∧ w'.cell? ⟨g, k * 6 + 2, none⟩ = some (.int .i64 (row q 2)) ∧ w'.cell? ⟨g, k * 6 + 3, none⟩ = some (.int .i64 (row q 3)) ∧ w'.cell? ⟨g, k * 6 + 4, none⟩ = some (.int .i64 (row q 4)) ∧ w'.cell? ⟨g, k * 6 + 5, none⟩ = some (.int .i64 (row q 5)) ∧ w'.cell? ⟨g', k * 6, none⟩ = some (.int .i64 (row q 0)) ∧ w'.cell? ⟨g', k * 6 + 1, none⟩ = some (.int .i64 (row q 1)) ∧ w'.cell? ⟨g', k * 6 + 2, none⟩ = some (.int .i64 (row q 2)) ∧ w'.cell? ⟨g', k * 6 + 3, none⟩ = some (.int .i64 (row q 3)) ∧ w'.cell? ⟨g', k * 6 + 4, none⟩ = some (.int .i64 (row q 4)) ∧ w'.cell? ⟨g', k * 6 + 5, none⟩ = some (.int .i64 (row q 5))) (simp [*, World.cell?_alloc_some, World.cell?_setCell_far, Nat.ne_of_gt]) (fail)
        all_goals
          go_wp2_with fail
          go_meet
          exact ⟨rfl, (by repeat (first | with_reducible exact Below.refl _ _ | with_reducible assumption | with_reducible refine Below.drew ?_ | with_reducible refine below_drewN ?_ _ | with_reducible refine Below.alloc ?_ ?_ _ | with_reducible refine Below.setCell ?_ ?_ _ | with_reducible refine Below.trans ?_ (Below.mono (by assumption) ?_) | omega | (simp <;> omega)))⟩
      case rest =>
        obtain ⟨rfl, hbc⟩ := hcut
        go_wp2
        go_roundw
        case rel => exact ⟨k + 1, by omega, by go_num, hbw.trans (hbc.mono hbw.size)⟩
        case measure => simp [intOf]; omega
    · have e : k = L.length := by omega
      subst e
      go_wp2
      go_ret
      exact ⟨rfl, hbw⟩

theorem OwnsS.drew {w : World} {B : Nat} {v : Value} {L : List Nat} (h : OwnsS w B v L) : OwnsS w.drew B v L := h
theorem OwnsS.drewN {w : World} {B : Nat} {v : Value} {L : List Nat} (h : OwnsS w B v L) (n : Nat) : OwnsS (w.drewN n) B v L := h
theorem owns_cur {w : World} {B C len n : Nat} {cv v : Value} {L : List Nat} (h : OwnsS w B v L) (hc : Cur w C cv len n) : ∀ g, v.ownBlock = some g → g ≠ C := by
  rcases h.1.2 with ⟨h1, _⟩ | ⟨g, cap, cur, rfl, _, hh, _⟩
  · exact absurd h1 h.2
  · intro g' hg e
    have : g = g' := by simpa [Value.ownBlock] using hg
    subst this
    subst e
    obtain ⟨a, s, h1, _⟩ := hc
    rw [hh] at h1
    injection h1 with h1
    injection h1 with _ ht
    exact absurd ht (by decide)
theorem OwnsS.grownC {w w1 : World} {B C g cap n : Nat} {L : List Nat} (h : OwnsS w B (.slice (some ⟨g, 0, none⟩) n cap) L) (hg : w.grownBy w1 (some C)) (hne : g ≠ C) : OwnsS w1 B (.slice (some ⟨g, 0, none⟩) n cap) L := by
  refine ⟨?_, h.2⟩
  obtain ⟨h0, h1⟩ := h.1
  refine ⟨h0, ?_⟩
  rcases h1 with h1 | ⟨g', cap', cur, hv, hB, hh, hrest⟩
  · exact .inl h1
  · have e : g = g' := by injection hv with hv; injection hv with hv; injection hv
    subst e
    exact .inr ⟨g, cap', cur, hv, hB, (hg.block g (Array.getElem?_eq_some_iff.1 hh).1 (fun e => by injection e with e; exact hne e)).trans hh, hrest⟩
def KeNew (X : Nat) (w : World) (e : Ending) (w' : World) : Prop :=
  ∃ vo O, e = .returned vo ∧ ∃ B, w.heap.size ≤ B ∧ OwnsS w' B vo O ∧ (∃ R L, SR X (sgl 36) R L ∧ BS L O) ∧ Below w.heap.size w w'
set_option maxRecDepth 100000 in
theorem l4Kernel_new (X : Nat) (hX : Vs X) (w : World) : Calls Tryz.prog 37 #[(.agg #[.int .i64 (row X 0), .int .i64 (row X 1), .int .i64 (row X 2), .int .i64 (row X 3), .int .i64 (row X 4), .int .i64 (row X 5)])] w (KeNew X w) := by
  have HX := Lib.hid hX
  clear hX
  go_enter Tryz.func37, Tryz.ntmps37
  go_wp2_with (first | (go_at_call 63; (with_reducible refine (l4Reduce_any X HX.out _).mono ?_); rintro e w1 ⟨vr, vq, R, L, rfl, hR, hL, hS, hb⟩; obtain ⟨hc, hf, hT, hz⟩ := bfacts hb; (try simp only [World.size_alloc, World.size_setCell, World.size_drew, size_drewN] at hc hf hT hz); (try (have hzA := Nat.lt_of_succ_le hz)); (try (have hl0 : w.heap.size ≤ w1.heap.size := by omega)); (try (have hz0 : w.heap.size < w1.heap.size := by omega)); (try (have hz1 : w.heap.size + 1 < w1.heap.size := by omega)); (try (have hz2 : w.heap.size + 1 + 1 < w1.heap.size := by omega)); (try (have hz3 : w.heap.size + 1 + 1 + 1 < w1.heap.size := by omega)); (try (have hz4 : w.heap.size + 1 + 1 + 1 + 1 < w1.heap.size := by omega))) | (go_at_call 64; (with_reducible refine (l4Basis_any vq L hS.qvs hS.qlen _ (by exact hL.reads)).mono ?_); rintro e w2 ⟨vo, O, rfl, hO, hBS, hb2⟩; obtain ⟨hc, hf, hT, hz⟩ := bfacts hb2; (try simp only [World.size_alloc, World.size_setCell, World.size_drew, size_drewN] at hc hf hT hz); (try (have hzA := Nat.lt_of_succ_le hz)); (try (have hl0 : w.heap.size ≤ w2.heap.size := by omega)); (try (have hz0 : w.heap.size < w2.heap.size := by omega)); (try (have hz1 : w.heap.size + 1 < w2.heap.size := by omega)); (try (have hz2 : w.heap.size + 1 + 1 < w2.heap.size := by omega)); (try (have hz3 : w.heap.size + 1 + 1 + 1 < w2.heap.size := by omega)); (try (have hz4 : w.heap.size + 1 + 1 + 1 + 1 < w2.heap.size := by omega))))
  have hB1 : Below w.heap.size w w1 := (by repeat (first | with_reducible exact Below.refl _ _ | with_reducible assumption | with_reducible refine Below.drew ?_ | with_reducible refine below_drewN ?_ _ | with_reducible refine Below.alloc ?_ ?_ _ | with_reducible refine Below.setCell ?_ ?_ _ | with_reducible refine Below.trans ?_ (Below.mono (by assumption) ?_) | omega | (simp <;> omega)))
  have hB2 : Below w.heap.size w w2 := hB1.trans (hb2.mono hB1.size)
  go_ret
  exact ⟨vo, O, rfl, _, (by first | exact hB1.size | exact Nat.le_refl _), hO, ⟨R, L, hS, hBS⟩, hB2⟩
theorem OwnsS.all {w : World} {B g m cap : Nat} {O : List Nat} (h : OwnsS w B (.slice (some ⟨g, 0, none⟩) m cap) O) (pf : Nat → Nat) (hpf : ∀ n, O.getD n 0 = pf n) :
    (∀ n, n < O.length → w.cell? ⟨g, n * 6, none⟩ = some (.int .i64 (row (pf n) 0))) ∧ (∀ n, n < O.length → w.cell? ⟨g, n * 6 + 1, none⟩ = some (.int .i64 (row (pf n) 1))) ∧ (∀ n, n < O.length → w.cell? ⟨g, n * 6 + 2, none⟩ = some (.int .i64 (row (pf n) 2))) ∧ (∀ n, n < O.length → w.cell? ⟨g, n * 6 + 3, none⟩ = some (.int .i64 (row (pf n) 3))) ∧ (∀ n, n < O.length → w.cell? ⟨g, n * 6 + 4, none⟩ = some (.int .i64 (row (pf n) 4))) ∧ (∀ n, n < O.length → w.cell? ⟨g, n * 6 + 5, none⟩ = some (.int .i64 (row (pf n) 5))) := by
  refine ⟨fun n hn => ?_, fun n hn => ?_, fun n hn => ?_, fun n hn => ?_, fun n hn => ?_, fun n hn => ?_⟩
  all_goals
    obtain ⟨c0, c1, c2, c3, c4, c5⟩ := h.cellsAt n hn
    rw [hpf n] at c0 c1 c2 c3 c4 c5
    assumption

set_option maxRecDepth 100000 in
set_option maxHeartbeats 3200000 in
theorem DrawIsQuiet_any (cv : Value) (len : Nat) (hlen : len ≤ 1000000) (w : World) (hcode : CodeB w w.heap.size cv len) : Calls Tryz.prog 21 #[cv] w (Two6 w) := by
  have hc2 := hcode
  rcases hc2 with ⟨hE, hL⟩ | ⟨cb, co, cap, hE, _, _⟩
  · subst hE
    go_enter Tryz.func21, Tryz.ntmps21
    go_upto_region 3 with (go_at_call 30; (with_reducible refine (kernelStamp_draw (by exact Cur.boxed' hcode (by repeat (first | with_reducible exact Below.refl _ _ | with_reducible assumption | with_reducible refine Below.drew ?_ | with_reducible refine below_drewN ?_ _ | with_reducible refine Below.alloc ?_ ?_ _ | with_reducible refine Below.setCell ?_ ?_ _ | with_reducible refine Below.trans ?_ (Below.mono (by assumption) ?_) | omega | (simp <;> omega))) (by simp)) (by omega) hlen).mono ?_); rintro e w1 ⟨a0, a1, a2, a3, a4, a5, rfl, hcua, hga⟩)
    have hrwa : HoldsA (w1.alloc (.cells #[.int .i64 a0, .int .i64 a1, .int .i64 a2, .int .i64 a3, .int .i64 a4, .int .i64 a5] 26)) 26 (w.heap.size) 0 0 0 0 0 0 := HoldsA.alloc (HoldsA.grownM (by repeat (first | with_reducible assumption | (with_reducible refine HoldsA.made' ?_; (simp; done)) | with_reducible refine HoldsA.alloc ?_ _ | with_reducible refine HoldsA.drew ?_ | with_reducible refine HoldsA.drewN ?_ _ | (with_reducible refine HoldsA.far ?_ _ _ (by first | (simp; done) | (simp; omega) | omega)))) hga (by omega)) _
    have hqwa : HoldsA (w1.alloc (.cells #[.int .i64 a0, .int .i64 a1, .int .i64 a2, .int .i64 a3, .int .i64 a4, .int .i64 a5] 26)) 26 (w.heap.size + 1) 0 0 0 0 0 0 := HoldsA.alloc (HoldsA.grownM (by repeat (first | with_reducible assumption | (with_reducible refine HoldsA.made' ?_; (simp; done)) | with_reducible refine HoldsA.alloc ?_ _ | with_reducible refine HoldsA.drew ?_ | with_reducible refine HoldsA.drewN ?_ _ | (with_reducible refine HoldsA.far ?_ _ _ (by first | (simp; done) | (simp; omega) | omega)))) hga (by omega)) _
    have hawa : HoldsA (w1.alloc (.cells #[.int .i64 a0, .int .i64 a1, .int .i64 a2, .int .i64 a3, .int .i64 a4, .int .i64 a5] 26)) 26 (w1.heap.size) a0 a1 a2 a3 a4 a5 := HoldsA.made _ _ _ _ _ _ _ _
    have hlwa : w.heap.size ≤ w1.heap.size := by have := hcua.lt; omega
    have hcuwa := hcua.alloc (.cells #[.int .i64 a0, .int .i64 a1, .int .i64 a2, .int .i64 a3, .int .i64 a4, .int .i64 a5] 26)
    have hBwa : Below w.heap.size w (w1.alloc (.cells #[.int .i64 a0, .int .i64 a1, .int .i64 a2, .int .i64 a3, .int .i64 a4, .int .i64 a5] 26)) := (by repeat (first | with_reducible exact Below.refl _ _ | with_reducible assumption | with_reducible refine Below.drew ?_ | with_reducible refine below_drewN ?_ _ | with_reducible refine Below.alloc ?_ ?_ _ | with_reducible refine Below.setCell ?_ ?_ _ | with_reducible refine below_grown ?_ (by with_reducible assumption) ?_ | omega | (simp <;> omega)))
    have hswa : (w1.alloc (.cells #[.int .i64 a0, .int .i64 a1, .int .i64 a2, .int .i64 a3, .int .i64 a4, .int .i64 a5] 26)).heap.size = w1.heap.size + 1 := by simp
    have hzwa : w.heap.size + 1 + 1 < w1.heap.size := by have := hcua.lt; omega
    clear hcua hga
    generalize hEwa : (w1.alloc (.cells #[.int .i64 a0, .int .i64 a1, .int .i64 a2, .int .i64 a3, .int .i64 a4, .int .i64 a5] 26)) = wa at *
    generalize hGwa : w1.heap.size = ga at *
    clear hEwa hGwa
    clear hlwa hswa
    have hl2 := hrwa.lt
    have hl3 := hqwa.lt
    have hl4 := hawa.lt
    have hl5 := hcuwa.lt
    by_cases ha : Ok6 a0 a1 a2 a3 a4 a5
    · obtain ⟨X, hX, rfl, rfl, rfl, rfl, rfl, rfl⟩ := set_of_rows a0 a1 a2 a3 a4 a5 ha.1 ha.2.1 ha.2.2.1 ha.2.2.2.1 ha.2.2.2.2.1 ha.2.2.2.2.2
      clear ha
      have x0 := hawa.c0
      have x1 := hawa.c1
      have x2 := hawa.c2
      have x3 := hawa.c3
      have x4 := hawa.c4
      have x5 := hawa.c5
      have xf := hawa.free
      go_upto_if 18 with (first | (go_at_call 36; (with_reducible refine (l2Sheet_ok X _).mono ?_); rintro e w3 ⟨rfl, hw3⟩; have hrw3 := hrwa.below hw3 (by omega); have hqw3 := hqwa.below hw3 (by omega); have haw3 := hawa.below hw3 (by omega); have hBw3 := hBwa.trans (hw3.mono (by omega)); have hzw3 := hw3.size; have hcuw3 := hcuwa.below' hw3 (Nat.le_refl _)) | (go_at_call 45; (with_reducible refine (one_c (n := 0 + 70) (cv := (.slice none 0 0)) (len := len) hcuw3 3 (by constructor <;> omega) (by omega) hlen).mono ?_); rintro e w5 ⟨b, rfl, hcuw5, hg5⟩; have hrw5 := HoldsA.grownM hrw3 hg5 (by omega); have hqw5 := HoldsA.grownM hqw3 hg5 (by omega); have haw5 := HoldsA.grownM haw3 hg5 (by omega); have hBw5 := below_grown hBw3 hg5 (by omega); have hz5 := hg5.size))
      clear x0 x1 x2 x3 x4 x5 xf
      cases b with
      | true =>
        go_upto_region 7 with fail
        go_cut [] from 36 to 38 (fun wx => ∃ b0 b1 b2 b3 b4 b5 : Int, HoldsA wx 26 (w.heap.size) (row X 0) (row X 1) (row X 2) (row X 3) (row X 4) (row X 5) ∧ HoldsA wx 26 (w.heap.size + 1) b0 b1 b2 b3 b4 b5 ∧ Below w.heap.size w wx)
        case first =>
          have fx0 := haw5.c0
          have fx1 := haw5.c1
          have fx2 := haw5.c2
          have fx3 := haw5.c3
          have fx4 := haw5.c4
          have fx5 := haw5.c5
          have fxf := haw5.free
          have fy0 := hrw5.c0
          have fy1 := hrw5.c1
          have fy2 := hrw5.c2
          have fy3 := hrw5.c3
          have fy4 := hrw5.c4
          have fy5 := hrw5.c5
          have fyf := hrw5.free
          have fz0 := hqw5.c0
          have fz1 := hqw5.c1
          have fz2 := hqw5.c2
          have fz3 := hqw5.c3
          have fz4 := hqw5.c4
          have fz5 := hqw5.c5
          have fzf := hqw5.free
          have lt1 : w.heap.size < ga := by omega
          have lt2 : w.heap.size + 1 < ga := by omega
          go_region_held3 (fun w' => w'.cell? ⟨ga, 0, none⟩ = some (.int .i64 (row X 0)) ∧ w'.cell? ⟨ga, 1, none⟩ = some (.int .i64 (row X 1)) ∧ w'.cell? ⟨ga, 2, none⟩ = some (.int .i64 (row X 2)) ∧ w'.cell? ⟨ga, 3, none⟩ = some (.int .i64 (row X 3)) ∧ w'.cell? ⟨ga, 4, none⟩ = some (.int .i64 (row X 4)) ∧ w'.cell? ⟨ga, 5, none⟩ = some (.int .i64 (row X 5))) (simp [*, World.cell?_alloc_some, World.cell?_setCell_far, Nat.ne_of_gt, Nat.ne_of_lt]) (first | (go_at_call 48; (with_reducible refine (sheet_c (n := 0 + 70 + 1) (cv := (.slice none 0 0)) (len := len) (by repeat (first | with_reducible assumption | with_reducible refine Cur.drew ?_ | with_reducible refine Cur.alloc ?_ _ | with_reducible refine Cur.new ?_ ?_ | with_reducible refine Cur.drewN ?_ _ | omega)) (by omega) hlen).mono ?_); rintro e w9 ⟨b0, b1, b2, b3, b4, b5, rfl, hcub, hgb⟩; (first | have hrb : HoldsA w9 26 (w.heap.size) 0 0 0 0 0 0 := HoldsA.grownM (by repeat (first | with_reducible assumption | (with_reducible refine HoldsA.made' ?_; (simp; done)) | with_reducible refine HoldsA.alloc ?_ _ | with_reducible refine HoldsA.drew ?_ | with_reducible refine HoldsA.drewN ?_ _ | (with_reducible refine HoldsA.far ?_ _ _ (by first | (simp; done) | (simp; omega) | omega)))) hgb (by omega) | have hrb : HoldsA w9 26 (w.heap.size) (row X 0) (row X 1) (row X 2) (row X 3) (row X 4) (row X 5) := HoldsA.grownM (by repeat (first | with_reducible assumption | (with_reducible refine HoldsA.made' ?_; (simp; done)) | with_reducible refine HoldsA.alloc ?_ _ | with_reducible refine HoldsA.drew ?_ | with_reducible refine HoldsA.drewN ?_ _ | (with_reducible refine HoldsA.far ?_ _ _ (by first | (simp; done) | (simp; omega) | omega)))) hgb (by omega)); have hqb : HoldsA w9 26 (w.heap.size + 1) 0 0 0 0 0 0 := HoldsA.grownM (by repeat (first | with_reducible assumption | (with_reducible refine HoldsA.made' ?_; (simp; done)) | with_reducible refine HoldsA.alloc ?_ _ | with_reducible refine HoldsA.drew ?_ | with_reducible refine HoldsA.drewN ?_ _ | (with_reducible refine HoldsA.far ?_ _ _ (by first | (simp; done) | (simp; omega) | omega)))) hgb (by omega); have hab : HoldsA w9 26 (ga) (row X 0) (row X 1) (row X 2) (row X 3) (row X 4) (row X 5) := HoldsA.grownM (by repeat (first | with_reducible assumption | (with_reducible refine HoldsA.made' ?_; (simp; done)) | with_reducible refine HoldsA.alloc ?_ _ | with_reducible refine HoldsA.drew ?_ | with_reducible refine HoldsA.drewN ?_ _ | (with_reducible refine HoldsA.far ?_ _ _ (by first | (simp; done) | (simp; omega) | omega)))) hgb (by omega); have yr0 := hrb.c0; have yr1 := hrb.c1; have yr2 := hrb.c2; have yr3 := hrb.c3; have yr4 := hrb.c4; have yr5 := hrb.c5; have yrf := hrb.free; have yq0 := hqb.c0; have yq1 := hqb.c1; have yq2 := hqb.c2; have yq3 := hqb.c3; have yq4 := hqb.c4; have yq5 := hqb.c5; have yqf := hqb.free; have ya0 := hab.c0; have ya1 := hab.c1; have ya2 := hab.c2; have ya3 := hab.c3; have ya4 := hab.c4; have ya5 := hab.c5; have yaf := hab.free))
          all_goals
            go_wp2_with fail
            go_meet
            refine ⟨b0, b1, b2, b3, b4, b5, ?_, ?_, ?_⟩
            · ((repeat (first | with_reducible refine HoldsA.drew ?_ | with_reducible refine HoldsA.drewN ?_ _)); first | with_reducible exact (hrb.store _ _ _ _ _ _).far6 (show w.heap.size ≠ w.heap.size + 1 by omega) _ _ _ _ _ _ | with_reducible exact (hrb.far6 (show w.heap.size ≠ w.heap.size + 1 by omega) _ _ _ _ _ _).store _ _ _ _ _ _ | with_reducible exact hrb.far6 (show w.heap.size ≠ w.heap.size + 1 by omega) _ _ _ _ _ _)
            · ((repeat (first | with_reducible refine HoldsA.drew ?_ | with_reducible refine HoldsA.drewN ?_ _)); first | with_reducible exact (hqb.far6 (show w.heap.size + 1 ≠ w.heap.size by omega) _ _ _ _ _ _).store _ _ _ _ _ _ | with_reducible exact (hqb.store _ _ _ _ _ _).far6 (show w.heap.size + 1 ≠ w.heap.size by omega) _ _ _ _ _ _ | with_reducible exact hqb.store _ _ _ _ _ _)
            · exact (by repeat (first | with_reducible exact Below.refl _ _ | with_reducible assumption | with_reducible refine Below.drew ?_ | with_reducible refine below_drewN ?_ _ | with_reducible refine Below.alloc ?_ ?_ _ | with_reducible refine Below.setCell ?_ ?_ _ | with_reducible refine below_grown ?_ (by with_reducible assumption) ?_ | omega | (simp <;> omega)))
        case rest =>
          obtain ⟨b0, b1, b2, b3, b4, b5, hrx, hqx, hBx⟩ := hcut
          have gy0 := hrx.c0
          have gy1 := hrx.c1
          have gy2 := hrx.c2
          have gy3 := hrx.c3
          have gy4 := hrx.c4
          have gy5 := hrx.c5
          have gyf := hrx.free
          have gz0 := hqx.c0
          have gz1 := hqx.c1
          have gz2 := hqx.c2
          have gz3 := hqx.c3
          have gz4 := hqx.c4
          have gz5 := hqx.c5
          have gzf := hqx.free
          go_wp2_with fail
          exact bodyPost_ret (v := .tuple #[.agg #[.int .i64 (row X 0), .int .i64 (row X 1), .int .i64 (row X 2), .int .i64 (row X 3), .int .i64 (row X 4), .int .i64 (row X 5)], .agg #[.int .i64 b0, .int .i64 b1, .int .i64 b2, .int .i64 b3, .int .i64 b4, .int .i64 b5]]) (by simp [results, Tryz.results21, go_sem, *]) rfl ⟨_, _, _, _, _, _, _, _, _, _, _, _, rfl, hBx⟩
      | false =>
        have x0 := haw5.c0
        have x1 := haw5.c1
        have x2 := haw5.c2
        have x3 := haw5.c3
        have x4 := haw5.c4
        have x5 := haw5.c5
        have xf := haw5.free
        go_upto_region 5 with (go_at_call 37; (with_reducible refine (l4Kernel_new X hX _).mono ?_); rintro e w6 ⟨vo, O, rfl, B, hBw, hOw6, ⟨R, L, hSR, hBS⟩, hw6⟩)
        clear x0 x1 x2 x3 x4 x5 xf
        have hrw6 := hrw5.below hw6 (by omega)
        have hqw6 := hqw5.below hw6 (by omega)
        have haw6 := haw5.below hw6 (by omega)
        have hBw6 := hBw5.trans (hw6.mono (by omega))
        have hzw6 := hw6.size
        have hcuw6 := hcuw5.below' hw6 (Nat.le_refl _)
        have hO36 : O.length ≤ 36 := by have h1 := hBS.len (hSR.tabl.ind (sgl_ind 36)); have h2 := hSR.lens; omega
        obtain ⟨g, capO, rfl, hgB, hgl⟩ := hOw6.form
        have hgC := owns_cur hOw6 hcuw6 g rfl
        clear hSR hBS
        by_cases h0 : O.length = 0
        · generalize hnO : O.length = nO at *
          subst h0
          clear hnO
          go_upto_region 7 with fail
          go_cut [] from 36 to 38 (fun wx => ∃ b0 b1 b2 b3 b4 b5 : Int, HoldsA wx 26 (w.heap.size) (row X 0) (row X 1) (row X 2) (row X 3) (row X 4) (row X 5) ∧ HoldsA wx 26 (w.heap.size + 1) b0 b1 b2 b3 b4 b5 ∧ Below w.heap.size w wx)
          case first =>
            have fx0 := haw6.c0
            have fx1 := haw6.c1
            have fx2 := haw6.c2
            have fx3 := haw6.c3
            have fx4 := haw6.c4
            have fx5 := haw6.c5
            have fxf := haw6.free
            have fy0 := hrw6.c0
            have fy1 := hrw6.c1
            have fy2 := hrw6.c2
            have fy3 := hrw6.c3
            have fy4 := hrw6.c4
            have fy5 := hrw6.c5
            have fyf := hrw6.free
            have fz0 := hqw6.c0
            have fz1 := hqw6.c1
            have fz2 := hqw6.c2
            have fz3 := hqw6.c3
            have fz4 := hqw6.c4
            have fz5 := hqw6.c5
            have fzf := hqw6.free
            have lt1 : w.heap.size < ga := by omega
            have lt2 : w.heap.size + 1 < ga := by omega
            go_region_held3 (fun w' => w'.cell? ⟨ga, 0, none⟩ = some (.int .i64 (row X 0)) ∧ w'.cell? ⟨ga, 1, none⟩ = some (.int .i64 (row X 1)) ∧ w'.cell? ⟨ga, 2, none⟩ = some (.int .i64 (row X 2)) ∧ w'.cell? ⟨ga, 3, none⟩ = some (.int .i64 (row X 3)) ∧ w'.cell? ⟨ga, 4, none⟩ = some (.int .i64 (row X 4)) ∧ w'.cell? ⟨ga, 5, none⟩ = some (.int .i64 (row X 5))) (simp [*, World.cell?_alloc_some, World.cell?_setCell_far, Nat.ne_of_gt, Nat.ne_of_lt]) (first | (go_at_call 48; (with_reducible refine (sheet_c (n := 0 + 70 + 1) (cv := (.slice none 0 0)) (len := len) (by repeat (first | with_reducible assumption | with_reducible refine Cur.drew ?_ | with_reducible refine Cur.alloc ?_ _ | with_reducible refine Cur.new ?_ ?_ | with_reducible refine Cur.drewN ?_ _ | omega)) (by omega) hlen).mono ?_); rintro e w9 ⟨b0, b1, b2, b3, b4, b5, rfl, hcub, hgb⟩; (first | have hrb : HoldsA w9 26 (w.heap.size) 0 0 0 0 0 0 := HoldsA.grownM (by repeat (first | with_reducible assumption | (with_reducible refine HoldsA.made' ?_; (simp; done)) | with_reducible refine HoldsA.alloc ?_ _ | with_reducible refine HoldsA.drew ?_ | with_reducible refine HoldsA.drewN ?_ _ | (with_reducible refine HoldsA.far ?_ _ _ (by first | (simp; done) | (simp; omega) | omega)))) hgb (by omega) | have hrb : HoldsA w9 26 (w.heap.size) (row X 0) (row X 1) (row X 2) (row X 3) (row X 4) (row X 5) := HoldsA.grownM (by repeat (first | with_reducible assumption | (with_reducible refine HoldsA.made' ?_; (simp; done)) | with_reducible refine HoldsA.alloc ?_ _ | with_reducible refine HoldsA.drew ?_ | with_reducible refine HoldsA.drewN ?_ _ | (with_reducible refine HoldsA.far ?_ _ _ (by first | (simp; done) | (simp; omega) | omega)))) hgb (by omega)); have hqb : HoldsA w9 26 (w.heap.size + 1) 0 0 0 0 0 0 := HoldsA.grownM (by repeat (first | with_reducible assumption | (with_reducible refine HoldsA.made' ?_; (simp; done)) | with_reducible refine HoldsA.alloc ?_ _ | with_reducible refine HoldsA.drew ?_ | with_reducible refine HoldsA.drewN ?_ _ | (with_reducible refine HoldsA.far ?_ _ _ (by first | (simp; done) | (simp; omega) | omega)))) hgb (by omega); have hab : HoldsA w9 26 (ga) (row X 0) (row X 1) (row X 2) (row X 3) (row X 4) (row X 5) := HoldsA.grownM (by repeat (first | with_reducible assumption | (with_reducible refine HoldsA.made' ?_; (simp; done)) | with_reducible refine HoldsA.alloc ?_ _ | with_reducible refine HoldsA.drew ?_ | with_reducible refine HoldsA.drewN ?_ _ | (with_reducible refine HoldsA.far ?_ _ _ (by first | (simp; done) | (simp; omega) | omega)))) hgb (by omega); have yr0 := hrb.c0; have yr1 := hrb.c1; have yr2 := hrb.c2; have yr3 := hrb.c3; have yr4 := hrb.c4; have yr5 := hrb.c5; have yrf := hrb.free; have yq0 := hqb.c0; have yq1 := hqb.c1; have yq2 := hqb.c2; have yq3 := hqb.c3; have yq4 := hqb.c4; have yq5 := hqb.c5; have yqf := hqb.free; have ya0 := hab.c0; have ya1 := hab.c1; have ya2 := hab.c2; have ya3 := hab.c3; have ya4 := hab.c4; have ya5 := hab.c5; have yaf := hab.free))
            all_goals
              go_wp2_with fail
              go_meet
              refine ⟨b0, b1, b2, b3, b4, b5, ?_, ?_, ?_⟩
              · ((repeat (first | with_reducible refine HoldsA.drew ?_ | with_reducible refine HoldsA.drewN ?_ _)); first | with_reducible exact (hrb.store _ _ _ _ _ _).far6 (show w.heap.size ≠ w.heap.size + 1 by omega) _ _ _ _ _ _ | with_reducible exact (hrb.far6 (show w.heap.size ≠ w.heap.size + 1 by omega) _ _ _ _ _ _).store _ _ _ _ _ _ | with_reducible exact hrb.far6 (show w.heap.size ≠ w.heap.size + 1 by omega) _ _ _ _ _ _)
              · ((repeat (first | with_reducible refine HoldsA.drew ?_ | with_reducible refine HoldsA.drewN ?_ _)); first | with_reducible exact (hqb.far6 (show w.heap.size + 1 ≠ w.heap.size by omega) _ _ _ _ _ _).store _ _ _ _ _ _ | with_reducible exact (hqb.store _ _ _ _ _ _).far6 (show w.heap.size + 1 ≠ w.heap.size by omega) _ _ _ _ _ _ | with_reducible exact hqb.store _ _ _ _ _ _)
              · exact (by repeat (first | with_reducible exact Below.refl _ _ | with_reducible assumption | with_reducible refine Below.drew ?_ | with_reducible refine below_drewN ?_ _ | with_reducible refine Below.alloc ?_ ?_ _ | with_reducible refine Below.setCell ?_ ?_ _ | with_reducible refine below_grown ?_ (by with_reducible assumption) ?_ | omega | (simp <;> omega)))
          case rest =>
            obtain ⟨b0, b1, b2, b3, b4, b5, hrx, hqx, hBx⟩ := hcut
            have gy0 := hrx.c0
            have gy1 := hrx.c1
            have gy2 := hrx.c2
            have gy3 := hrx.c3
            have gy4 := hrx.c4
            have gy5 := hrx.c5
            have gyf := hrx.free
            have gz0 := hqx.c0
            have gz1 := hqx.c1
            have gz2 := hqx.c2
            have gz3 := hqx.c3
            have gz4 := hqx.c4
            have gz5 := hqx.c5
            have gzf := hqx.free
            go_wp2_with fail
            exact bodyPost_ret (v := .tuple #[.agg #[.int .i64 (row X 0), .int .i64 (row X 1), .int .i64 (row X 2), .int .i64 (row X 3), .int .i64 (row X 4), .int .i64 (row X 5)], .agg #[.int .i64 b0, .int .i64 b1, .int .i64 b2, .int .i64 b3, .int .i64 b4, .int .i64 b5]]) (by simp [results, Tryz.results21, go_sem, *]) rfl ⟨_, _, _, _, _, _, _, _, _, _, _, _, rfl, hBx⟩
        · have hpos : 0 < O.length := by omega
          have hposI : (0 : Int) < (O.length : Int) := by omega
          clear h0
          go_upto_region 6 with fail
          obtain ⟨q0, hq0⟩ : ∃ q0, O.getD 0 0 = q0 := ⟨_, rfl⟩
          have HQ0 := Lib.hid hq0
          clear hq0
          obtain ⟨z0, z1, z2, z3, z4, z5⟩ := hOw6.cellsAt 0 hpos; rw [HQ0.out] at z0 z1 z2 z3 z4 z5; (simp only [Nat.zero_mul, Nat.zero_add] at z0 z1 z2 z3 z4 z5)
          obtain ⟨pf, hpf⟩ : ∃ pf : Nat → Nat, ∀ n, O.getD n 0 = pf n := ⟨_, fun _ => rfl⟩
          have HPF := Lib.hid hpf
          clear hpf
          obtain ⟨e0, e1, e2, e3, e4, e5⟩ := hOw6.all pf HPF.out
          go_cut [] from 24 to 35 (fun wx => ∃ b0 b1 b2 b3 b4 b5 : Int, HoldsA wx 26 (w.heap.size) (row X 0) (row X 1) (row X 2) (row X 3) (row X 4) (row X 5) ∧ HoldsA wx 26 (w.heap.size + 1) b0 b1 b2 b3 b4 b5 ∧ Below w.heap.size w wx)
          case first =>
            have fx0 := haw6.c0
            have fx1 := haw6.c1
            have fx2 := haw6.c2
            have fx3 := haw6.c3
            have fx4 := haw6.c4
            have fx5 := haw6.c5
            have fxf := haw6.free
            have fy0 := hrw6.c0
            have fy1 := hrw6.c1
            have fy2 := hrw6.c2
            have fy3 := hrw6.c3
            have fy4 := hrw6.c4
            have fy5 := hrw6.c5
            have fyf := hrw6.free
            have fz0 := hqw6.c0
            have fz1 := hqw6.c1
            have fz2 := hqw6.c2
            have fz3 := hqw6.c3
            have fz4 := hqw6.c4
            have fz5 := hqw6.c5
            have fzf := hqw6.free
            have lt1 : w.heap.size < ga := by omega
            have lt2 : w.heap.size + 1 < ga := by omega
            have lt3 : w.heap.size < g := by omega
            have lt4 : w.heap.size + 1 < g := by omega
            go_region_held3 (fun w' => w'.cell? ⟨ga, 0, none⟩ = some (.int .i64 (row X 0)) ∧ w'.cell? ⟨ga, 1, none⟩ = some (.int .i64 (row X 1)) ∧ w'.cell? ⟨ga, 2, none⟩ = some (.int .i64 (row X 2)) ∧ w'.cell? ⟨ga, 3, none⟩ = some (.int .i64 (row X 3)) ∧ w'.cell? ⟨ga, 4, none⟩ = some (.int .i64 (row X 4)) ∧ w'.cell? ⟨ga, 5, none⟩ = some (.int .i64 (row X 5)) ∧ w'.cell? ⟨g, 0, none⟩ = some (.int .i64 (row q0 0)) ∧ w'.cell? ⟨g, 1, none⟩ = some (.int .i64 (row q0 1)) ∧ w'.cell? ⟨g, 2, none⟩ = some (.int .i64 (row q0 2)) ∧ w'.cell? ⟨g, 3, none⟩ = some (.int .i64 (row q0 3)) ∧ w'.cell? ⟨g, 4, none⟩ = some (.int .i64 (row q0 4)) ∧ w'.cell? ⟨g, 5, none⟩ = some (.int .i64 (row q0 5)) ∧ (∀ n, n < O.length → w'.cell? ⟨g, n * 6, none⟩ = some (.int .i64 (row (pf n) 0))) ∧ (∀ n, n < O.length → w'.cell? ⟨g, n * 6 + 1, none⟩ = some (.int .i64 (row (pf n) 1))) ∧ (∀ n, n < O.length → w'.cell? ⟨g, n * 6 + 2, none⟩ = some (.int .i64 (row (pf n) 2))) ∧ (∀ n, n < O.length → w'.cell? ⟨g, n * 6 + 3, none⟩ = some (.int .i64 (row (pf n) 3))) ∧ (∀ n, n < O.length → w'.cell? ⟨g, n * 6 + 4, none⟩ = some (.int .i64 (row (pf n) 4))) ∧ (∀ n, n < O.length → w'.cell? ⟨g, n * 6 + 5, none⟩ = some (.int .i64 (row (pf n) 5)))) (simp +contextual [*, World.cell?_alloc_some, World.cell?_setCell_far, Nat.ne_of_gt, Nat.ne_of_lt]) (first | (go_at_call 47; (with_reducible refine (pick_c (n := 0 + 70 + 1) (cv := (.slice none 0 0)) (len := len) (by repeat (first | with_reducible assumption | with_reducible refine Cur.drew ?_ | with_reducible refine Cur.alloc ?_ _ | with_reducible refine Cur.new ?_ ?_ | with_reducible refine Cur.drewN ?_ _ | omega)) (O.length : Int) (by constructor <;> omega) (by omega) hlen).mono ?_); rintro e w8 ⟨rr, rfl, ⟨r0, r1⟩, hcu8, hg8⟩; obtain ⟨rn, rfl⟩ : ∃ rn : Nat, rr = (rn : Int) := ⟨rr.toNat, by omega⟩; have hrn : rn < O.length := (by omega); have hrw8 : HoldsA w8 26 (w.heap.size) 0 0 0 0 0 0 := HoldsA.grownM (by repeat (first | with_reducible assumption | (with_reducible refine HoldsA.made' ?_; (simp; done)) | with_reducible refine HoldsA.alloc ?_ _ | with_reducible refine HoldsA.drew ?_ | with_reducible refine HoldsA.drewN ?_ _ | (with_reducible refine HoldsA.far ?_ _ _ (by first | (simp; done) | (simp; omega) | omega)))) hg8 (by omega); have hqw8 : HoldsA w8 26 (w.heap.size + 1) 0 0 0 0 0 0 := HoldsA.grownM (by repeat (first | with_reducible assumption | (with_reducible refine HoldsA.made' ?_; (simp; done)) | with_reducible refine HoldsA.alloc ?_ _ | with_reducible refine HoldsA.drew ?_ | with_reducible refine HoldsA.drewN ?_ _ | (with_reducible refine HoldsA.far ?_ _ _ (by first | (simp; done) | (simp; omega) | omega)))) hg8 (by omega); have haw8 : HoldsA w8 26 (ga) (row X 0) (row X 1) (row X 2) (row X 3) (row X 4) (row X 5) := HoldsA.grownM (by repeat (first | with_reducible assumption | (with_reducible refine HoldsA.made' ?_; (simp; done)) | with_reducible refine HoldsA.alloc ?_ _ | with_reducible refine HoldsA.drew ?_ | with_reducible refine HoldsA.drewN ?_ _ | (with_reducible refine HoldsA.far ?_ _ _ (by first | (simp; done) | (simp; omega) | omega)))) hg8 (by omega); have hOw8 : OwnsS w8 B (.slice (some ⟨g, 0, none⟩) O.length capO) O := OwnsS.grownC (by first | exact hOw6 | exact OwnsS.drew hOw6 | exact OwnsS.drewN hOw6 _) hg8 hgC; obtain ⟨e0, e1, e2, e3, e4, e5⟩ := hOw8.all pf HPF.out; obtain ⟨z0, z1, z2, z3, z4, z5⟩ := hOw8.cellsAt 0 hpos; rw [HQ0.out] at z0 z1 z2 z3 z4 z5; (simp only [Nat.zero_mul, Nat.zero_add] at z0 z1 z2 z3 z4 z5); have xa0 := haw8.c0; have xa1 := haw8.c1; have xa2 := haw8.c2; have xa3 := haw8.c3; have xa4 := haw8.c4; have xa5 := haw8.c5; have xaf := haw8.free; have xr0 := hrw8.c0; have xr1 := hrw8.c1; have xr2 := hrw8.c2; have xr3 := hrw8.c3; have xr4 := hrw8.c4; have xr5 := hrw8.c5; have xrf := hrw8.free; have xq0 := hqw8.c0; have xq1 := hqw8.c1; have xq2 := hqw8.c2; have xq3 := hqw8.c3; have xq4 := hqw8.c4; have xq5 := hqw8.c5; have xqf := hqw8.free; have hB8 : Below w.heap.size w w8 := below_grown (by repeat (first | with_reducible exact Below.refl _ _ | with_reducible assumption | with_reducible refine Below.drew ?_ | with_reducible refine below_drewN ?_ _ | with_reducible refine Below.alloc ?_ ?_ _ | with_reducible refine Below.setCell ?_ ?_ _ | with_reducible refine Below.trans ?_ (Below.mono (by assumption) ?_) | omega | (simp <;> omega))) hg8 (by omega); have lg8 := hg8.size; (try simp only [World.size_drew, size_drewN] at lg8)) | (go_at_call 46; (try simp only [List.getElem?_cons_succ, List.getElem?_cons_zero, Option.getD_some]); (with_reducible refine (l2Xor_any (pf rn) q0 _).mono ?_); rintro e w10 ⟨rfl, hb10⟩; have la8 := haw8.lt; have hB10 : Below w.heap.size w w10 := (by repeat (first | with_reducible exact Below.refl _ _ | with_reducible assumption | with_reducible refine Below.drew ?_ | with_reducible refine below_drewN ?_ _ | with_reducible refine Below.alloc ?_ ?_ _ | with_reducible refine Below.setCell ?_ ?_ _ | with_reducible refine Below.trans ?_ (Below.mono (by assumption) ?_) | omega | (simp <;> omega))); have hrw10 : HoldsA w10 26 (w.heap.size) 0 0 0 0 0 0 := hrw8.below hb10 (by omega); have hqw10 : HoldsA w10 26 (w.heap.size + 1) 0 0 0 0 0 0 := hqw8.below hb10 (by omega); have haw10 : HoldsA w10 26 (ga) (row X 0) (row X 1) (row X 2) (row X 3) (row X 4) (row X 5) := haw8.below hb10 (by omega); have hOw10 : OwnsS w10 B (.slice (some ⟨g, 0, none⟩) O.length capO) O := hOw8.below hb10; obtain ⟨k0, k1, k2, k3, k4, k5⟩ := hOw10.all pf HPF.out; obtain ⟨z0, z1, z2, z3, z4, z5⟩ := hOw10.cellsAt 0 hpos; rw [HQ0.out] at z0 z1 z2 z3 z4 z5; (simp only [Nat.zero_mul, Nat.zero_add] at z0 z1 z2 z3 z4 z5); have wa0 := haw10.c0; have wa1 := haw10.c1; have wa2 := haw10.c2; have wa3 := haw10.c3; have wa4 := haw10.c4; have wa5 := haw10.c5; have waf := haw10.free; have wr0 := hrw10.c0; have wr1 := hrw10.c1; have wr2 := hrw10.c2; have wr3 := hrw10.c3; have wr4 := hrw10.c4; have wr5 := hrw10.c5; have wrf := hrw10.free; have wq0 := hqw10.c0; have wq1 := hqw10.c1; have wq2 := hqw10.c2; have wq3 := hqw10.c3; have wq4 := hqw10.c4; have wq5 := hqw10.c5; have wqf := hqw10.free))
            all_goals
              go_wp2_with fail
              go_meet
              refine ⟨row (pf rn ^^^ q0) 0, row (pf rn ^^^ q0) 1, row (pf rn ^^^ q0) 2, row (pf rn ^^^ q0) 3, row (pf rn ^^^ q0) 4, row (pf rn ^^^ q0) 5, ?_, ?_, ?_⟩
              · ((repeat (first | with_reducible refine HoldsA.drew ?_ | with_reducible refine HoldsA.drewN ?_ _)); first | with_reducible exact (hrw10.store _ _ _ _ _ _).far6 (show w.heap.size ≠ w.heap.size + 1 by omega) _ _ _ _ _ _ | with_reducible exact (hrw10.far6 (show w.heap.size ≠ w.heap.size + 1 by omega) _ _ _ _ _ _).store _ _ _ _ _ _ | with_reducible exact hrw10.far6 (show w.heap.size ≠ w.heap.size + 1 by omega) _ _ _ _ _ _)
              · ((repeat (first | with_reducible refine HoldsA.drew ?_ | with_reducible refine HoldsA.drewN ?_ _)); first | with_reducible exact (hqw10.far6 (show w.heap.size + 1 ≠ w.heap.size by omega) _ _ _ _ _ _).store _ _ _ _ _ _ | with_reducible exact (hqw10.store _ _ _ _ _ _).far6 (show w.heap.size + 1 ≠ w.heap.size by omega) _ _ _ _ _ _ | with_reducible exact hqw10.store _ _ _ _ _ _)
              · exact (by repeat (first | with_reducible exact Below.refl _ _ | with_reducible assumption | with_reducible refine Below.drew ?_ | with_reducible refine below_drewN ?_ _ | with_reducible refine Below.alloc ?_ ?_ _ | with_reducible refine Below.setCell ?_ ?_ _ | with_reducible refine below_grown ?_ (by with_reducible assumption) ?_ | omega | (simp <;> omega)))
          case rest =>
            obtain ⟨b0, b1, b2, b3, b4, b5, hrx, hqx, hBx⟩ := hcut
            have gy0 := hrx.c0
            have gy1 := hrx.c1
            have gy2 := hrx.c2
            have gy3 := hrx.c3
            have gy4 := hrx.c4
            have gy5 := hrx.c5
            have gyf := hrx.free
            have gz0 := hqx.c0
            have gz1 := hqx.c1
            have gz2 := hqx.c2
            have gz3 := hqx.c3
            have gz4 := hqx.c4
            have gz5 := hqx.c5
            have gzf := hqx.free
            go_wp2_with fail
            exact bodyPost_ret (v := .tuple #[.agg #[.int .i64 (row X 0), .int .i64 (row X 1), .int .i64 (row X 2), .int .i64 (row X 3), .int .i64 (row X 4), .int .i64 (row X 5)], .agg #[.int .i64 b0, .int .i64 b1, .int .i64 b2, .int .i64 b3, .int .i64 b4, .int .i64 b5]]) (by simp [results, Tryz.results21, go_sem, *]) rfl ⟨_, _, _, _, _, _, _, _, _, _, _, _, rfl, hBx⟩
    · have hnoa := ha
      clear ha
      have x0 := hawa.c0
      have x1 := hawa.c1
      have x2 := hawa.c2
      have x3 := hawa.c3
      have x4 := hawa.c4
      have x5 := hawa.c5
      have xf := hawa.free
      go_upto_if 18 with (go_at_call 36; (with_reducible refine (l2Sheet_no _ _ _ _ _ _ (by assumption) _).mono ?_); rintro e w3 ⟨rfl, hw3⟩; have hrw3 := hrwa.below hw3 (by omega); have hqw3 := hqwa.below hw3 (by omega); have haw3 := hawa.below hw3 (by omega); have hBw3 := hBwa.trans (hw3.mono (by omega)); have hzw3 := hw3.size; have hcuw3 := hcuwa.below' hw3 (Nat.le_refl _))
      go_upto_region 7 with fail
      clear x0 x1 x2 x3 x4 x5 xf
      go_cut [] from 36 to 38 (fun wx => ∃ b0 b1 b2 b3 b4 b5 : Int, HoldsA wx 26 (w.heap.size) (a0) (a1) (a2) (a3) (a4) (a5) ∧ HoldsA wx 26 (w.heap.size + 1) b0 b1 b2 b3 b4 b5 ∧ Below w.heap.size w wx)
      case first =>
        have fx0 := haw3.c0
        have fx1 := haw3.c1
        have fx2 := haw3.c2
        have fx3 := haw3.c3
        have fx4 := haw3.c4
        have fx5 := haw3.c5
        have fxf := haw3.free
        have fy0 := hrw3.c0
        have fy1 := hrw3.c1
        have fy2 := hrw3.c2
        have fy3 := hrw3.c3
        have fy4 := hrw3.c4
        have fy5 := hrw3.c5
        have fyf := hrw3.free
        have fz0 := hqw3.c0
        have fz1 := hqw3.c1
        have fz2 := hqw3.c2
        have fz3 := hqw3.c3
        have fz4 := hqw3.c4
        have fz5 := hqw3.c5
        have fzf := hqw3.free
        have lt1 : w.heap.size < ga := by omega
        have lt2 : w.heap.size + 1 < ga := by omega
        go_region_held3 (fun w' => w'.cell? ⟨ga, 0, none⟩ = some (.int .i64 (a0)) ∧ w'.cell? ⟨ga, 1, none⟩ = some (.int .i64 (a1)) ∧ w'.cell? ⟨ga, 2, none⟩ = some (.int .i64 (a2)) ∧ w'.cell? ⟨ga, 3, none⟩ = some (.int .i64 (a3)) ∧ w'.cell? ⟨ga, 4, none⟩ = some (.int .i64 (a4)) ∧ w'.cell? ⟨ga, 5, none⟩ = some (.int .i64 (a5))) (simp [*, World.cell?_alloc_some, World.cell?_setCell_far, Nat.ne_of_gt, Nat.ne_of_lt]) (first | (go_at_call 48; (with_reducible refine (sheet_c (n := 0 + 70) (cv := (.slice none 0 0)) (len := len) (by repeat (first | with_reducible assumption | with_reducible refine Cur.drew ?_ | with_reducible refine Cur.alloc ?_ _ | with_reducible refine Cur.new ?_ ?_ | with_reducible refine Cur.drewN ?_ _ | omega)) (by omega) hlen).mono ?_); rintro e w9 ⟨b0, b1, b2, b3, b4, b5, rfl, hcub, hgb⟩; (first | have hrb : HoldsA w9 26 (w.heap.size) 0 0 0 0 0 0 := HoldsA.grownM (by repeat (first | with_reducible assumption | (with_reducible refine HoldsA.made' ?_; (simp; done)) | with_reducible refine HoldsA.alloc ?_ _ | with_reducible refine HoldsA.drew ?_ | with_reducible refine HoldsA.drewN ?_ _ | (with_reducible refine HoldsA.far ?_ _ _ (by first | (simp; done) | (simp; omega) | omega)))) hgb (by omega) | have hrb : HoldsA w9 26 (w.heap.size) (a0) (a1) (a2) (a3) (a4) (a5) := HoldsA.grownM (by repeat (first | with_reducible assumption | (with_reducible refine HoldsA.made' ?_; (simp; done)) | with_reducible refine HoldsA.alloc ?_ _ | with_reducible refine HoldsA.drew ?_ | with_reducible refine HoldsA.drewN ?_ _ | (with_reducible refine HoldsA.far ?_ _ _ (by first | (simp; done) | (simp; omega) | omega)))) hgb (by omega)); have hqb : HoldsA w9 26 (w.heap.size + 1) 0 0 0 0 0 0 := HoldsA.grownM (by repeat (first | with_reducible assumption | (with_reducible refine HoldsA.made' ?_; (simp; done)) | with_reducible refine HoldsA.alloc ?_ _ | with_reducible refine HoldsA.drew ?_ | with_reducible refine HoldsA.drewN ?_ _ | (with_reducible refine HoldsA.far ?_ _ _ (by first | (simp; done) | (simp; omega) | omega)))) hgb (by omega); have hab : HoldsA w9 26 (ga) (a0) (a1) (a2) (a3) (a4) (a5) := HoldsA.grownM (by repeat (first | with_reducible assumption | (with_reducible refine HoldsA.made' ?_; (simp; done)) | with_reducible refine HoldsA.alloc ?_ _ | with_reducible refine HoldsA.drew ?_ | with_reducible refine HoldsA.drewN ?_ _ | (with_reducible refine HoldsA.far ?_ _ _ (by first | (simp; done) | (simp; omega) | omega)))) hgb (by omega); have yr0 := hrb.c0; have yr1 := hrb.c1; have yr2 := hrb.c2; have yr3 := hrb.c3; have yr4 := hrb.c4; have yr5 := hrb.c5; have yrf := hrb.free; have yq0 := hqb.c0; have yq1 := hqb.c1; have yq2 := hqb.c2; have yq3 := hqb.c3; have yq4 := hqb.c4; have yq5 := hqb.c5; have yqf := hqb.free; have ya0 := hab.c0; have ya1 := hab.c1; have ya2 := hab.c2; have ya3 := hab.c3; have ya4 := hab.c4; have ya5 := hab.c5; have yaf := hab.free))
        all_goals
          go_wp2_with fail
          go_meet
          refine ⟨b0, b1, b2, b3, b4, b5, ?_, ?_, ?_⟩
          · ((repeat (first | with_reducible refine HoldsA.drew ?_ | with_reducible refine HoldsA.drewN ?_ _)); first | with_reducible exact (hrb.store _ _ _ _ _ _).far6 (show w.heap.size ≠ w.heap.size + 1 by omega) _ _ _ _ _ _ | with_reducible exact (hrb.far6 (show w.heap.size ≠ w.heap.size + 1 by omega) _ _ _ _ _ _).store _ _ _ _ _ _ | with_reducible exact hrb.far6 (show w.heap.size ≠ w.heap.size + 1 by omega) _ _ _ _ _ _)
          · ((repeat (first | with_reducible refine HoldsA.drew ?_ | with_reducible refine HoldsA.drewN ?_ _)); first | with_reducible exact (hqb.far6 (show w.heap.size + 1 ≠ w.heap.size by omega) _ _ _ _ _ _).store _ _ _ _ _ _ | with_reducible exact (hqb.store _ _ _ _ _ _).far6 (show w.heap.size + 1 ≠ w.heap.size by omega) _ _ _ _ _ _ | with_reducible exact hqb.store _ _ _ _ _ _)
          · exact (by repeat (first | with_reducible exact Below.refl _ _ | with_reducible assumption | with_reducible refine Below.drew ?_ | with_reducible refine below_drewN ?_ _ | with_reducible refine Below.alloc ?_ ?_ _ | with_reducible refine Below.setCell ?_ ?_ _ | with_reducible refine below_grown ?_ (by with_reducible assumption) ?_ | omega | (simp <;> omega)))
      case rest =>
        obtain ⟨b0, b1, b2, b3, b4, b5, hrx, hqx, hBx⟩ := hcut
        have gy0 := hrx.c0
        have gy1 := hrx.c1
        have gy2 := hrx.c2
        have gy3 := hrx.c3
        have gy4 := hrx.c4
        have gy5 := hrx.c5
        have gyf := hrx.free
        have gz0 := hqx.c0
        have gz1 := hqx.c1
        have gz2 := hqx.c2
        have gz3 := hqx.c3
        have gz4 := hqx.c4
        have gz5 := hqx.c5
        have gzf := hqx.free
        go_wp2_with fail
        exact bodyPost_ret (v := .tuple #[.agg #[.int .i64 (a0), .int .i64 (a1), .int .i64 (a2), .int .i64 (a3), .int .i64 (a4), .int .i64 (a5)], .agg #[.int .i64 b0, .int .i64 b1, .int .i64 b2, .int .i64 b3, .int .i64 b4, .int .i64 b5]]) (by simp [results, Tryz.results21, go_sem, *]) rfl ⟨_, _, _, _, _, _, _, _, _, _, _, _, rfl, hBx⟩
  · subst hE
    go_enter Tryz.func21, Tryz.ntmps21
    go_upto_region 3 with (go_at_call 30; (with_reducible refine (kernelStamp_draw (by exact Cur.boxed' hcode (by repeat (first | with_reducible exact Below.refl _ _ | with_reducible assumption | with_reducible refine Below.drew ?_ | with_reducible refine below_drewN ?_ _ | with_reducible refine Below.alloc ?_ ?_ _ | with_reducible refine Below.setCell ?_ ?_ _ | with_reducible refine Below.trans ?_ (Below.mono (by assumption) ?_) | omega | (simp <;> omega))) (by simp)) (by omega) hlen).mono ?_); rintro e w1 ⟨a0, a1, a2, a3, a4, a5, rfl, hcua, hga⟩)
    have hrwa : HoldsA (w1.alloc (.cells #[.int .i64 a0, .int .i64 a1, .int .i64 a2, .int .i64 a3, .int .i64 a4, .int .i64 a5] 26)) 26 (w.heap.size) 0 0 0 0 0 0 := HoldsA.alloc (HoldsA.grownM (by repeat (first | with_reducible assumption | (with_reducible refine HoldsA.made' ?_; (simp; done)) | with_reducible refine HoldsA.alloc ?_ _ | with_reducible refine HoldsA.drew ?_ | with_reducible refine HoldsA.drewN ?_ _ | (with_reducible refine HoldsA.far ?_ _ _ (by first | (simp; done) | (simp; omega) | omega)))) hga (by omega)) _
    have hqwa : HoldsA (w1.alloc (.cells #[.int .i64 a0, .int .i64 a1, .int .i64 a2, .int .i64 a3, .int .i64 a4, .int .i64 a5] 26)) 26 (w.heap.size + 1) 0 0 0 0 0 0 := HoldsA.alloc (HoldsA.grownM (by repeat (first | with_reducible assumption | (with_reducible refine HoldsA.made' ?_; (simp; done)) | with_reducible refine HoldsA.alloc ?_ _ | with_reducible refine HoldsA.drew ?_ | with_reducible refine HoldsA.drewN ?_ _ | (with_reducible refine HoldsA.far ?_ _ _ (by first | (simp; done) | (simp; omega) | omega)))) hga (by omega)) _
    have hawa : HoldsA (w1.alloc (.cells #[.int .i64 a0, .int .i64 a1, .int .i64 a2, .int .i64 a3, .int .i64 a4, .int .i64 a5] 26)) 26 (w1.heap.size) a0 a1 a2 a3 a4 a5 := HoldsA.made _ _ _ _ _ _ _ _
    have hlwa : w.heap.size ≤ w1.heap.size := by have := hcua.lt; omega
    have hcuwa := hcua.alloc (.cells #[.int .i64 a0, .int .i64 a1, .int .i64 a2, .int .i64 a3, .int .i64 a4, .int .i64 a5] 26)
    have hBwa : Below w.heap.size w (w1.alloc (.cells #[.int .i64 a0, .int .i64 a1, .int .i64 a2, .int .i64 a3, .int .i64 a4, .int .i64 a5] 26)) := (by repeat (first | with_reducible exact Below.refl _ _ | with_reducible assumption | with_reducible refine Below.drew ?_ | with_reducible refine below_drewN ?_ _ | with_reducible refine Below.alloc ?_ ?_ _ | with_reducible refine Below.setCell ?_ ?_ _ | with_reducible refine below_grown ?_ (by with_reducible assumption) ?_ | omega | (simp <;> omega)))
    have hswa : (w1.alloc (.cells #[.int .i64 a0, .int .i64 a1, .int .i64 a2, .int .i64 a3, .int .i64 a4, .int .i64 a5] 26)).heap.size = w1.heap.size + 1 := by simp
    have hzwa : w.heap.size + 1 + 1 < w1.heap.size := by have := hcua.lt; omega
    clear hcua hga
    generalize hEwa : (w1.alloc (.cells #[.int .i64 a0, .int .i64 a1, .int .i64 a2, .int .i64 a3, .int .i64 a4, .int .i64 a5] 26)) = wa at *
    generalize hGwa : w1.heap.size = ga at *
    clear hEwa hGwa
    clear hlwa hswa
    have hl2 := hrwa.lt
    have hl3 := hqwa.lt
    have hl4 := hawa.lt
    have hl5 := hcuwa.lt
    by_cases ha : Ok6 a0 a1 a2 a3 a4 a5
    · obtain ⟨X, hX, rfl, rfl, rfl, rfl, rfl, rfl⟩ := set_of_rows a0 a1 a2 a3 a4 a5 ha.1 ha.2.1 ha.2.2.1 ha.2.2.2.1 ha.2.2.2.2.1 ha.2.2.2.2.2
      clear ha
      have x0 := hawa.c0
      have x1 := hawa.c1
      have x2 := hawa.c2
      have x3 := hawa.c3
      have x4 := hawa.c4
      have x5 := hawa.c5
      have xf := hawa.free
      go_upto_if 18 with (first | (go_at_call 36; (with_reducible refine (l2Sheet_ok X _).mono ?_); rintro e w3 ⟨rfl, hw3⟩; have hrw3 := hrwa.below hw3 (by omega); have hqw3 := hqwa.below hw3 (by omega); have haw3 := hawa.below hw3 (by omega); have hBw3 := hBwa.trans (hw3.mono (by omega)); have hzw3 := hw3.size; have hcuw3 := hcuwa.below' hw3 (Nat.le_refl _)) | (go_at_call 45; (with_reducible refine (one_c (n := 0 + 70) (cv := (.slice (some ⟨cb, co, none⟩) len cap)) (len := len) hcuw3 3 (by constructor <;> omega) (by omega) hlen).mono ?_); rintro e w5 ⟨b, rfl, hcuw5, hg5⟩; have hrw5 := HoldsA.grownM hrw3 hg5 (by omega); have hqw5 := HoldsA.grownM hqw3 hg5 (by omega); have haw5 := HoldsA.grownM haw3 hg5 (by omega); have hBw5 := below_grown hBw3 hg5 (by omega); have hz5 := hg5.size))
      clear x0 x1 x2 x3 x4 x5 xf
      cases b with
      | true =>
        go_upto_region 7 with fail
        go_cut [] from 36 to 38 (fun wx => ∃ b0 b1 b2 b3 b4 b5 : Int, HoldsA wx 26 (w.heap.size) (row X 0) (row X 1) (row X 2) (row X 3) (row X 4) (row X 5) ∧ HoldsA wx 26 (w.heap.size + 1) b0 b1 b2 b3 b4 b5 ∧ Below w.heap.size w wx)
        case first =>
          have fx0 := haw5.c0
          have fx1 := haw5.c1
          have fx2 := haw5.c2
          have fx3 := haw5.c3
          have fx4 := haw5.c4
          have fx5 := haw5.c5
          have fxf := haw5.free
          have fy0 := hrw5.c0
          have fy1 := hrw5.c1
          have fy2 := hrw5.c2
          have fy3 := hrw5.c3
          have fy4 := hrw5.c4
          have fy5 := hrw5.c5
          have fyf := hrw5.free
          have fz0 := hqw5.c0
          have fz1 := hqw5.c1
          have fz2 := hqw5.c2
          have fz3 := hqw5.c3
          have fz4 := hqw5.c4
          have fz5 := hqw5.c5
          have fzf := hqw5.free
          have lt1 : w.heap.size < ga := by omega
          have lt2 : w.heap.size + 1 < ga := by omega
          go_region_held3 (fun w' => w'.cell? ⟨ga, 0, none⟩ = some (.int .i64 (row X 0)) ∧ w'.cell? ⟨ga, 1, none⟩ = some (.int .i64 (row X 1)) ∧ w'.cell? ⟨ga, 2, none⟩ = some (.int .i64 (row X 2)) ∧ w'.cell? ⟨ga, 3, none⟩ = some (.int .i64 (row X 3)) ∧ w'.cell? ⟨ga, 4, none⟩ = some (.int .i64 (row X 4)) ∧ w'.cell? ⟨ga, 5, none⟩ = some (.int .i64 (row X 5))) (simp [*, World.cell?_alloc_some, World.cell?_setCell_far, Nat.ne_of_gt, Nat.ne_of_lt]) (first | (go_at_call 48; (with_reducible refine (sheet_c (n := 0 + 70 + 1) (cv := (.slice (some ⟨cb, co, none⟩) len cap)) (len := len) (by repeat (first | with_reducible assumption | with_reducible refine Cur.drew ?_ | with_reducible refine Cur.alloc ?_ _ | with_reducible refine Cur.new ?_ ?_ | with_reducible refine Cur.drewN ?_ _ | omega)) (by omega) hlen).mono ?_); rintro e w9 ⟨b0, b1, b2, b3, b4, b5, rfl, hcub, hgb⟩; (first | have hrb : HoldsA w9 26 (w.heap.size) 0 0 0 0 0 0 := HoldsA.grownM (by repeat (first | with_reducible assumption | (with_reducible refine HoldsA.made' ?_; (simp; done)) | with_reducible refine HoldsA.alloc ?_ _ | with_reducible refine HoldsA.drew ?_ | with_reducible refine HoldsA.drewN ?_ _ | (with_reducible refine HoldsA.far ?_ _ _ (by first | (simp; done) | (simp; omega) | omega)))) hgb (by omega) | have hrb : HoldsA w9 26 (w.heap.size) (row X 0) (row X 1) (row X 2) (row X 3) (row X 4) (row X 5) := HoldsA.grownM (by repeat (first | with_reducible assumption | (with_reducible refine HoldsA.made' ?_; (simp; done)) | with_reducible refine HoldsA.alloc ?_ _ | with_reducible refine HoldsA.drew ?_ | with_reducible refine HoldsA.drewN ?_ _ | (with_reducible refine HoldsA.far ?_ _ _ (by first | (simp; done) | (simp; omega) | omega)))) hgb (by omega)); have hqb : HoldsA w9 26 (w.heap.size + 1) 0 0 0 0 0 0 := HoldsA.grownM (by repeat (first | with_reducible assumption | (with_reducible refine HoldsA.made' ?_; (simp; done)) | with_reducible refine HoldsA.alloc ?_ _ | with_reducible refine HoldsA.drew ?_ | with_reducible refine HoldsA.drewN ?_ _ | (with_reducible refine HoldsA.far ?_ _ _ (by first | (simp; done) | (simp; omega) | omega)))) hgb (by omega); have hab : HoldsA w9 26 (ga) (row X 0) (row X 1) (row X 2) (row X 3) (row X 4) (row X 5) := HoldsA.grownM (by repeat (first | with_reducible assumption | (with_reducible refine HoldsA.made' ?_; (simp; done)) | with_reducible refine HoldsA.alloc ?_ _ | with_reducible refine HoldsA.drew ?_ | with_reducible refine HoldsA.drewN ?_ _ | (with_reducible refine HoldsA.far ?_ _ _ (by first | (simp; done) | (simp; omega) | omega)))) hgb (by omega); have yr0 := hrb.c0; have yr1 := hrb.c1; have yr2 := hrb.c2; have yr3 := hrb.c3; have yr4 := hrb.c4; have yr5 := hrb.c5; have yrf := hrb.free; have yq0 := hqb.c0; have yq1 := hqb.c1; have yq2 := hqb.c2; have yq3 := hqb.c3; have yq4 := hqb.c4; have yq5 := hqb.c5; have yqf := hqb.free; have ya0 := hab.c0; have ya1 := hab.c1; have ya2 := hab.c2; have ya3 := hab.c3; have ya4 := hab.c4; have ya5 := hab.c5; have yaf := hab.free))
          all_goals
            go_wp2_with fail
            go_meet
            refine ⟨b0, b1, b2, b3, b4, b5, ?_, ?_, ?_⟩
            · ((repeat (first | with_reducible refine HoldsA.drew ?_ | with_reducible refine HoldsA.drewN ?_ _)); first | with_reducible exact (hrb.store _ _ _ _ _ _).far6 (show w.heap.size ≠ w.heap.size + 1 by omega) _ _ _ _ _ _ | with_reducible exact (hrb.far6 (show w.heap.size ≠ w.heap.size + 1 by omega) _ _ _ _ _ _).store _ _ _ _ _ _ | with_reducible exact hrb.far6 (show w.heap.size ≠ w.heap.size + 1 by omega) _ _ _ _ _ _)
            · ((repeat (first | with_reducible refine HoldsA.drew ?_ | with_reducible refine HoldsA.drewN ?_ _)); first | with_reducible exact (hqb.far6 (show w.heap.size + 1 ≠ w.heap.size by omega) _ _ _ _ _ _).store _ _ _ _ _ _ | with_reducible exact (hqb.store _ _ _ _ _ _).far6 (show w.heap.size + 1 ≠ w.heap.size by omega) _ _ _ _ _ _ | with_reducible exact hqb.store _ _ _ _ _ _)
            · exact (by repeat (first | with_reducible exact Below.refl _ _ | with_reducible assumption | with_reducible refine Below.drew ?_ | with_reducible refine below_drewN ?_ _ | with_reducible refine Below.alloc ?_ ?_ _ | with_reducible refine Below.setCell ?_ ?_ _ | with_reducible refine below_grown ?_ (by with_reducible assumption) ?_ | omega | (simp <;> omega)))
        case rest =>
          obtain ⟨b0, b1, b2, b3, b4, b5, hrx, hqx, hBx⟩ := hcut
          have gy0 := hrx.c0
          have gy1 := hrx.c1
          have gy2 := hrx.c2
          have gy3 := hrx.c3
          have gy4 := hrx.c4
          have gy5 := hrx.c5
          have gyf := hrx.free
          have gz0 := hqx.c0
          have gz1 := hqx.c1
          have gz2 := hqx.c2
          have gz3 := hqx.c3
          have gz4 := hqx.c4
          have gz5 := hqx.c5
          have gzf := hqx.free
          go_wp2_with fail
          exact bodyPost_ret (v := .tuple #[.agg #[.int .i64 (row X 0), .int .i64 (row X 1), .int .i64 (row X 2), .int .i64 (row X 3), .int .i64 (row X 4), .int .i64 (row X 5)], .agg #[.int .i64 b0, .int .i64 b1, .int .i64 b2, .int .i64 b3, .int .i64 b4, .int .i64 b5]]) (by simp [results, Tryz.results21, go_sem, *]) rfl ⟨_, _, _, _, _, _, _, _, _, _, _, _, rfl, hBx⟩
      | false =>
        have x0 := haw5.c0
        have x1 := haw5.c1
        have x2 := haw5.c2
        have x3 := haw5.c3
        have x4 := haw5.c4
        have x5 := haw5.c5
        have xf := haw5.free
        go_upto_region 5 with (go_at_call 37; (with_reducible refine (l4Kernel_new X hX _).mono ?_); rintro e w6 ⟨vo, O, rfl, B, hBw, hOw6, ⟨R, L, hSR, hBS⟩, hw6⟩)
        clear x0 x1 x2 x3 x4 x5 xf
        have hrw6 := hrw5.below hw6 (by omega)
        have hqw6 := hqw5.below hw6 (by omega)
        have haw6 := haw5.below hw6 (by omega)
        have hBw6 := hBw5.trans (hw6.mono (by omega))
        have hzw6 := hw6.size
        have hcuw6 := hcuw5.below' hw6 (Nat.le_refl _)
        have hO36 : O.length ≤ 36 := by have h1 := hBS.len (hSR.tabl.ind (sgl_ind 36)); have h2 := hSR.lens; omega
        obtain ⟨g, capO, rfl, hgB, hgl⟩ := hOw6.form
        have hgC := owns_cur hOw6 hcuw6 g rfl
        clear hSR hBS
        by_cases h0 : O.length = 0
        · generalize hnO : O.length = nO at *
          subst h0
          clear hnO
          go_upto_region 7 with fail
          go_cut [] from 36 to 38 (fun wx => ∃ b0 b1 b2 b3 b4 b5 : Int, HoldsA wx 26 (w.heap.size) (row X 0) (row X 1) (row X 2) (row X 3) (row X 4) (row X 5) ∧ HoldsA wx 26 (w.heap.size + 1) b0 b1 b2 b3 b4 b5 ∧ Below w.heap.size w wx)
          case first =>
            have fx0 := haw6.c0
            have fx1 := haw6.c1
            have fx2 := haw6.c2
            have fx3 := haw6.c3
            have fx4 := haw6.c4
            have fx5 := haw6.c5
            have fxf := haw6.free
            have fy0 := hrw6.c0
            have fy1 := hrw6.c1
            have fy2 := hrw6.c2
            have fy3 := hrw6.c3
            have fy4 := hrw6.c4
            have fy5 := hrw6.c5
            have fyf := hrw6.free
            have fz0 := hqw6.c0
            have fz1 := hqw6.c1
            have fz2 := hqw6.c2
            have fz3 := hqw6.c3
            have fz4 := hqw6.c4
            have fz5 := hqw6.c5
            have fzf := hqw6.free
            have lt1 : w.heap.size < ga := by omega
            have lt2 : w.heap.size + 1 < ga := by omega
            go_region_held3 (fun w' => w'.cell? ⟨ga, 0, none⟩ = some (.int .i64 (row X 0)) ∧ w'.cell? ⟨ga, 1, none⟩ = some (.int .i64 (row X 1)) ∧ w'.cell? ⟨ga, 2, none⟩ = some (.int .i64 (row X 2)) ∧ w'.cell? ⟨ga, 3, none⟩ = some (.int .i64 (row X 3)) ∧ w'.cell? ⟨ga, 4, none⟩ = some (.int .i64 (row X 4)) ∧ w'.cell? ⟨ga, 5, none⟩ = some (.int .i64 (row X 5))) (simp [*, World.cell?_alloc_some, World.cell?_setCell_far, Nat.ne_of_gt, Nat.ne_of_lt]) (first | (go_at_call 48; (with_reducible refine (sheet_c (n := 0 + 70 + 1) (cv := (.slice (some ⟨cb, co, none⟩) len cap)) (len := len) (by repeat (first | with_reducible assumption | with_reducible refine Cur.drew ?_ | with_reducible refine Cur.alloc ?_ _ | with_reducible refine Cur.new ?_ ?_ | with_reducible refine Cur.drewN ?_ _ | omega)) (by omega) hlen).mono ?_); rintro e w9 ⟨b0, b1, b2, b3, b4, b5, rfl, hcub, hgb⟩; (first | have hrb : HoldsA w9 26 (w.heap.size) 0 0 0 0 0 0 := HoldsA.grownM (by repeat (first | with_reducible assumption | (with_reducible refine HoldsA.made' ?_; (simp; done)) | with_reducible refine HoldsA.alloc ?_ _ | with_reducible refine HoldsA.drew ?_ | with_reducible refine HoldsA.drewN ?_ _ | (with_reducible refine HoldsA.far ?_ _ _ (by first | (simp; done) | (simp; omega) | omega)))) hgb (by omega) | have hrb : HoldsA w9 26 (w.heap.size) (row X 0) (row X 1) (row X 2) (row X 3) (row X 4) (row X 5) := HoldsA.grownM (by repeat (first | with_reducible assumption | (with_reducible refine HoldsA.made' ?_; (simp; done)) | with_reducible refine HoldsA.alloc ?_ _ | with_reducible refine HoldsA.drew ?_ | with_reducible refine HoldsA.drewN ?_ _ | (with_reducible refine HoldsA.far ?_ _ _ (by first | (simp; done) | (simp; omega) | omega)))) hgb (by omega)); have hqb : HoldsA w9 26 (w.heap.size + 1) 0 0 0 0 0 0 := HoldsA.grownM (by repeat (first | with_reducible assumption | (with_reducible refine HoldsA.made' ?_; (simp; done)) | with_reducible refine HoldsA.alloc ?_ _ | with_reducible refine HoldsA.drew ?_ | with_reducible refine HoldsA.drewN ?_ _ | (with_reducible refine HoldsA.far ?_ _ _ (by first | (simp; done) | (simp; omega) | omega)))) hgb (by omega); have hab : HoldsA w9 26 (ga) (row X 0) (row X 1) (row X 2) (row X 3) (row X 4) (row X 5) := HoldsA.grownM (by repeat (first | with_reducible assumption | (with_reducible refine HoldsA.made' ?_; (simp; done)) | with_reducible refine HoldsA.alloc ?_ _ | with_reducible refine HoldsA.drew ?_ | with_reducible refine HoldsA.drewN ?_ _ | (with_reducible refine HoldsA.far ?_ _ _ (by first | (simp; done) | (simp; omega) | omega)))) hgb (by omega); have yr0 := hrb.c0; have yr1 := hrb.c1; have yr2 := hrb.c2; have yr3 := hrb.c3; have yr4 := hrb.c4; have yr5 := hrb.c5; have yrf := hrb.free; have yq0 := hqb.c0; have yq1 := hqb.c1; have yq2 := hqb.c2; have yq3 := hqb.c3; have yq4 := hqb.c4; have yq5 := hqb.c5; have yqf := hqb.free; have ya0 := hab.c0; have ya1 := hab.c1; have ya2 := hab.c2; have ya3 := hab.c3; have ya4 := hab.c4; have ya5 := hab.c5; have yaf := hab.free))
            all_goals
              go_wp2_with fail
              go_meet
              refine ⟨b0, b1, b2, b3, b4, b5, ?_, ?_, ?_⟩
              · ((repeat (first | with_reducible refine HoldsA.drew ?_ | with_reducible refine HoldsA.drewN ?_ _)); first | with_reducible exact (hrb.store _ _ _ _ _ _).far6 (show w.heap.size ≠ w.heap.size + 1 by omega) _ _ _ _ _ _ | with_reducible exact (hrb.far6 (show w.heap.size ≠ w.heap.size + 1 by omega) _ _ _ _ _ _).store _ _ _ _ _ _ | with_reducible exact hrb.far6 (show w.heap.size ≠ w.heap.size + 1 by omega) _ _ _ _ _ _)
              · ((repeat (first | with_reducible refine HoldsA.drew ?_ | with_reducible refine HoldsA.drewN ?_ _)); first | with_reducible exact (hqb.far6 (show w.heap.size + 1 ≠ w.heap.size by omega) _ _ _ _ _ _).store _ _ _ _ _ _ | with_reducible exact (hqb.store _ _ _ _ _ _).far6 (show w.heap.size + 1 ≠ w.heap.size by omega) _ _ _ _ _ _ | with_reducible exact hqb.store _ _ _ _ _ _)
              · exact (by repeat (first | with_reducible exact Below.refl _ _ | with_reducible assumption | with_reducible refine Below.drew ?_ | with_reducible refine below_drewN ?_ _ | with_reducible refine Below.alloc ?_ ?_ _ | with_reducible refine Below.setCell ?_ ?_ _ | with_reducible refine below_grown ?_ (by with_reducible assumption) ?_ | omega | (simp <;> omega)))
          case rest =>
            obtain ⟨b0, b1, b2, b3, b4, b5, hrx, hqx, hBx⟩ := hcut
            have gy0 := hrx.c0
            have gy1 := hrx.c1
            have gy2 := hrx.c2
            have gy3 := hrx.c3
            have gy4 := hrx.c4
            have gy5 := hrx.c5
            have gyf := hrx.free
            have gz0 := hqx.c0
            have gz1 := hqx.c1
            have gz2 := hqx.c2
            have gz3 := hqx.c3
            have gz4 := hqx.c4
            have gz5 := hqx.c5
            have gzf := hqx.free
            go_wp2_with fail
            exact bodyPost_ret (v := .tuple #[.agg #[.int .i64 (row X 0), .int .i64 (row X 1), .int .i64 (row X 2), .int .i64 (row X 3), .int .i64 (row X 4), .int .i64 (row X 5)], .agg #[.int .i64 b0, .int .i64 b1, .int .i64 b2, .int .i64 b3, .int .i64 b4, .int .i64 b5]]) (by simp [results, Tryz.results21, go_sem, *]) rfl ⟨_, _, _, _, _, _, _, _, _, _, _, _, rfl, hBx⟩
        · have hpos : 0 < O.length := by omega
          have hposI : (0 : Int) < (O.length : Int) := by omega
          clear h0
          go_upto_region 6 with fail
          obtain ⟨q0, hq0⟩ : ∃ q0, O.getD 0 0 = q0 := ⟨_, rfl⟩
          have HQ0 := Lib.hid hq0
          clear hq0
          obtain ⟨z0, z1, z2, z3, z4, z5⟩ := hOw6.cellsAt 0 hpos; rw [HQ0.out] at z0 z1 z2 z3 z4 z5; (simp only [Nat.zero_mul, Nat.zero_add] at z0 z1 z2 z3 z4 z5)
          obtain ⟨pf, hpf⟩ : ∃ pf : Nat → Nat, ∀ n, O.getD n 0 = pf n := ⟨_, fun _ => rfl⟩
          have HPF := Lib.hid hpf
          clear hpf
          obtain ⟨e0, e1, e2, e3, e4, e5⟩ := hOw6.all pf HPF.out
          go_cut [] from 24 to 35 (fun wx => ∃ b0 b1 b2 b3 b4 b5 : Int, HoldsA wx 26 (w.heap.size) (row X 0) (row X 1) (row X 2) (row X 3) (row X 4) (row X 5) ∧ HoldsA wx 26 (w.heap.size + 1) b0 b1 b2 b3 b4 b5 ∧ Below w.heap.size w wx)
          case first =>
            have fx0 := haw6.c0
            have fx1 := haw6.c1
            have fx2 := haw6.c2
            have fx3 := haw6.c3
            have fx4 := haw6.c4
            have fx5 := haw6.c5
            have fxf := haw6.free
            have fy0 := hrw6.c0
            have fy1 := hrw6.c1
            have fy2 := hrw6.c2
            have fy3 := hrw6.c3
            have fy4 := hrw6.c4
            have fy5 := hrw6.c5
            have fyf := hrw6.free
            have fz0 := hqw6.c0
            have fz1 := hqw6.c1
            have fz2 := hqw6.c2
            have fz3 := hqw6.c3
            have fz4 := hqw6.c4
            have fz5 := hqw6.c5
            have fzf := hqw6.free
            have lt1 : w.heap.size < ga := by omega
            have lt2 : w.heap.size + 1 < ga := by omega
            have lt3 : w.heap.size < g := by omega
            have lt4 : w.heap.size + 1 < g := by omega
            go_region_held3 (fun w' => w'.cell? ⟨ga, 0, none⟩ = some (.int .i64 (row X 0)) ∧ w'.cell? ⟨ga, 1, none⟩ = some (.int .i64 (row X 1)) ∧ w'.cell? ⟨ga, 2, none⟩ = some (.int .i64 (row X 2)) ∧ w'.cell? ⟨ga, 3, none⟩ = some (.int .i64 (row X 3)) ∧ w'.cell? ⟨ga, 4, none⟩ = some (.int .i64 (row X 4)) ∧ w'.cell? ⟨ga, 5, none⟩ = some (.int .i64 (row X 5)) ∧ w'.cell? ⟨g, 0, none⟩ = some (.int .i64 (row q0 0)) ∧ w'.cell? ⟨g, 1, none⟩ = some (.int .i64 (row q0 1)) ∧ w'.cell? ⟨g, 2, none⟩ = some (.int .i64 (row q0 2)) ∧ w'.cell? ⟨g, 3, none⟩ = some (.int .i64 (row q0 3)) ∧ w'.cell? ⟨g, 4, none⟩ = some (.int .i64 (row q0 4)) ∧ w'.cell? ⟨g, 5, none⟩ = some (.int .i64 (row q0 5)) ∧ (∀ n, n < O.length → w'.cell? ⟨g, n * 6, none⟩ = some (.int .i64 (row (pf n) 0))) ∧ (∀ n, n < O.length → w'.cell? ⟨g, n * 6 + 1, none⟩ = some (.int .i64 (row (pf n) 1))) ∧ (∀ n, n < O.length → w'.cell? ⟨g, n * 6 + 2, none⟩ = some (.int .i64 (row (pf n) 2))) ∧ (∀ n, n < O.length → w'.cell? ⟨g, n * 6 + 3, none⟩ = some (.int .i64 (row (pf n) 3))) ∧ (∀ n, n < O.length → w'.cell? ⟨g, n * 6 + 4, none⟩ = some (.int .i64 (row (pf n) 4))) ∧ (∀ n, n < O.length → w'.cell? ⟨g, n * 6 + 5, none⟩ = some (.int .i64 (row (pf n) 5)))) (simp +contextual [*, World.cell?_alloc_some, World.cell?_setCell_far, Nat.ne_of_gt, Nat.ne_of_lt]) (first | (go_at_call 47; (with_reducible refine (pick_c (n := 0 + 70 + 1) (cv := (.slice (some ⟨cb, co, none⟩) len cap)) (len := len) (by repeat (first | with_reducible assumption | with_reducible refine Cur.drew ?_ | with_reducible refine Cur.alloc ?_ _ | with_reducible refine Cur.new ?_ ?_ | with_reducible refine Cur.drewN ?_ _ | omega)) (O.length : Int) (by constructor <;> omega) (by omega) hlen).mono ?_); rintro e w8 ⟨rr, rfl, ⟨r0, r1⟩, hcu8, hg8⟩; obtain ⟨rn, rfl⟩ : ∃ rn : Nat, rr = (rn : Int) := ⟨rr.toNat, by omega⟩; have hrn : rn < O.length := (by omega); have hrw8 : HoldsA w8 26 (w.heap.size) 0 0 0 0 0 0 := HoldsA.grownM (by repeat (first | with_reducible assumption | (with_reducible refine HoldsA.made' ?_; (simp; done)) | with_reducible refine HoldsA.alloc ?_ _ | with_reducible refine HoldsA.drew ?_ | with_reducible refine HoldsA.drewN ?_ _ | (with_reducible refine HoldsA.far ?_ _ _ (by first | (simp; done) | (simp; omega) | omega)))) hg8 (by omega); have hqw8 : HoldsA w8 26 (w.heap.size + 1) 0 0 0 0 0 0 := HoldsA.grownM (by repeat (first | with_reducible assumption | (with_reducible refine HoldsA.made' ?_; (simp; done)) | with_reducible refine HoldsA.alloc ?_ _ | with_reducible refine HoldsA.drew ?_ | with_reducible refine HoldsA.drewN ?_ _ | (with_reducible refine HoldsA.far ?_ _ _ (by first | (simp; done) | (simp; omega) | omega)))) hg8 (by omega); have haw8 : HoldsA w8 26 (ga) (row X 0) (row X 1) (row X 2) (row X 3) (row X 4) (row X 5) := HoldsA.grownM (by repeat (first | with_reducible assumption | (with_reducible refine HoldsA.made' ?_; (simp; done)) | with_reducible refine HoldsA.alloc ?_ _ | with_reducible refine HoldsA.drew ?_ | with_reducible refine HoldsA.drewN ?_ _ | (with_reducible refine HoldsA.far ?_ _ _ (by first | (simp; done) | (simp; omega) | omega)))) hg8 (by omega); have hOw8 : OwnsS w8 B (.slice (some ⟨g, 0, none⟩) O.length capO) O := OwnsS.grownC (by first | exact hOw6 | exact OwnsS.drew hOw6 | exact OwnsS.drewN hOw6 _) hg8 hgC; obtain ⟨e0, e1, e2, e3, e4, e5⟩ := hOw8.all pf HPF.out; obtain ⟨z0, z1, z2, z3, z4, z5⟩ := hOw8.cellsAt 0 hpos; rw [HQ0.out] at z0 z1 z2 z3 z4 z5; (simp only [Nat.zero_mul, Nat.zero_add] at z0 z1 z2 z3 z4 z5); have xa0 := haw8.c0; have xa1 := haw8.c1; have xa2 := haw8.c2; have xa3 := haw8.c3; have xa4 := haw8.c4; have xa5 := haw8.c5; have xaf := haw8.free; have xr0 := hrw8.c0; have xr1 := hrw8.c1; have xr2 := hrw8.c2; have xr3 := hrw8.c3; have xr4 := hrw8.c4; have xr5 := hrw8.c5; have xrf := hrw8.free; have xq0 := hqw8.c0; have xq1 := hqw8.c1; have xq2 := hqw8.c2; have xq3 := hqw8.c3; have xq4 := hqw8.c4; have xq5 := hqw8.c5; have xqf := hqw8.free; have hB8 : Below w.heap.size w w8 := below_grown (by repeat (first | with_reducible exact Below.refl _ _ | with_reducible assumption | with_reducible refine Below.drew ?_ | with_reducible refine below_drewN ?_ _ | with_reducible refine Below.alloc ?_ ?_ _ | with_reducible refine Below.setCell ?_ ?_ _ | with_reducible refine Below.trans ?_ (Below.mono (by assumption) ?_) | omega | (simp <;> omega))) hg8 (by omega); have lg8 := hg8.size; (try simp only [World.size_drew, size_drewN] at lg8)) | (go_at_call 46; (try simp only [List.getElem?_cons_succ, List.getElem?_cons_zero, Option.getD_some]); (with_reducible refine (l2Xor_any (pf rn) q0 _).mono ?_); rintro e w10 ⟨rfl, hb10⟩; have la8 := haw8.lt; have hB10 : Below w.heap.size w w10 := (by repeat (first | with_reducible exact Below.refl _ _ | with_reducible assumption | with_reducible refine Below.drew ?_ | with_reducible refine below_drewN ?_ _ | with_reducible refine Below.alloc ?_ ?_ _ | with_reducible refine Below.setCell ?_ ?_ _ | with_reducible refine Below.trans ?_ (Below.mono (by assumption) ?_) | omega | (simp <;> omega))); have hrw10 : HoldsA w10 26 (w.heap.size) 0 0 0 0 0 0 := hrw8.below hb10 (by omega); have hqw10 : HoldsA w10 26 (w.heap.size + 1) 0 0 0 0 0 0 := hqw8.below hb10 (by omega); have haw10 : HoldsA w10 26 (ga) (row X 0) (row X 1) (row X 2) (row X 3) (row X 4) (row X 5) := haw8.below hb10 (by omega); have hOw10 : OwnsS w10 B (.slice (some ⟨g, 0, none⟩) O.length capO) O := hOw8.below hb10; obtain ⟨k0, k1, k2, k3, k4, k5⟩ := hOw10.all pf HPF.out; obtain ⟨z0, z1, z2, z3, z4, z5⟩ := hOw10.cellsAt 0 hpos; rw [HQ0.out] at z0 z1 z2 z3 z4 z5; (simp only [Nat.zero_mul, Nat.zero_add] at z0 z1 z2 z3 z4 z5); have wa0 := haw10.c0; have wa1 := haw10.c1; have wa2 := haw10.c2; have wa3 := haw10.c3; have wa4 := haw10.c4; have wa5 := haw10.c5; have waf := haw10.free; have wr0 := hrw10.c0; have wr1 := hrw10.c1; have wr2 := hrw10.c2; have wr3 := hrw10.c3; have wr4 := hrw10.c4; have wr5 := hrw10.c5; have wrf := hrw10.free; have wq0 := hqw10.c0; have wq1 := hqw10.c1; have wq2 := hqw10.c2; have wq3 := hqw10.c3; have wq4 := hqw10.c4; have wq5 := hqw10.c5; have wqf := hqw10.free))
            all_goals
              go_wp2_with fail
              go_meet
              refine ⟨row (pf rn ^^^ q0) 0, row (pf rn ^^^ q0) 1, row (pf rn ^^^ q0) 2, row (pf rn ^^^ q0) 3, row (pf rn ^^^ q0) 4, row (pf rn ^^^ q0) 5, ?_, ?_, ?_⟩
              · ((repeat (first | with_reducible refine HoldsA.drew ?_ | with_reducible refine HoldsA.drewN ?_ _)); first | with_reducible exact (hrw10.store _ _ _ _ _ _).far6 (show w.heap.size ≠ w.heap.size + 1 by omega) _ _ _ _ _ _ | with_reducible exact (hrw10.far6 (show w.heap.size ≠ w.heap.size + 1 by omega) _ _ _ _ _ _).store _ _ _ _ _ _ | with_reducible exact hrw10.far6 (show w.heap.size ≠ w.heap.size + 1 by omega) _ _ _ _ _ _)
              · ((repeat (first | with_reducible refine HoldsA.drew ?_ | with_reducible refine HoldsA.drewN ?_ _)); first | with_reducible exact (hqw10.far6 (show w.heap.size + 1 ≠ w.heap.size by omega) _ _ _ _ _ _).store _ _ _ _ _ _ | with_reducible exact (hqw10.store _ _ _ _ _ _).far6 (show w.heap.size + 1 ≠ w.heap.size by omega) _ _ _ _ _ _ | with_reducible exact hqw10.store _ _ _ _ _ _)
              · exact (by repeat (first | with_reducible exact Below.refl _ _ | with_reducible assumption | with_reducible refine Below.drew ?_ | with_reducible refine below_drewN ?_ _ | with_reducible refine Below.alloc ?_ ?_ _ | with_reducible refine Below.setCell ?_ ?_ _ | with_reducible refine below_grown ?_ (by with_reducible assumption) ?_ | omega | (simp <;> omega)))
          case rest =>
            obtain ⟨b0, b1, b2, b3, b4, b5, hrx, hqx, hBx⟩ := hcut
            have gy0 := hrx.c0
            have gy1 := hrx.c1
            have gy2 := hrx.c2
            have gy3 := hrx.c3
            have gy4 := hrx.c4
            have gy5 := hrx.c5
            have gyf := hrx.free
            have gz0 := hqx.c0
            have gz1 := hqx.c1
            have gz2 := hqx.c2
            have gz3 := hqx.c3
            have gz4 := hqx.c4
            have gz5 := hqx.c5
            have gzf := hqx.free
            go_wp2_with fail
            exact bodyPost_ret (v := .tuple #[.agg #[.int .i64 (row X 0), .int .i64 (row X 1), .int .i64 (row X 2), .int .i64 (row X 3), .int .i64 (row X 4), .int .i64 (row X 5)], .agg #[.int .i64 b0, .int .i64 b1, .int .i64 b2, .int .i64 b3, .int .i64 b4, .int .i64 b5]]) (by simp [results, Tryz.results21, go_sem, *]) rfl ⟨_, _, _, _, _, _, _, _, _, _, _, _, rfl, hBx⟩
    · have hnoa := ha
      clear ha
      have x0 := hawa.c0
      have x1 := hawa.c1
      have x2 := hawa.c2
      have x3 := hawa.c3
      have x4 := hawa.c4
      have x5 := hawa.c5
      have xf := hawa.free
      go_upto_if 18 with (go_at_call 36; (with_reducible refine (l2Sheet_no _ _ _ _ _ _ (by assumption) _).mono ?_); rintro e w3 ⟨rfl, hw3⟩; have hrw3 := hrwa.below hw3 (by omega); have hqw3 := hqwa.below hw3 (by omega); have haw3 := hawa.below hw3 (by omega); have hBw3 := hBwa.trans (hw3.mono (by omega)); have hzw3 := hw3.size; have hcuw3 := hcuwa.below' hw3 (Nat.le_refl _))
      go_upto_region 7 with fail
      clear x0 x1 x2 x3 x4 x5 xf
      go_cut [] from 36 to 38 (fun wx => ∃ b0 b1 b2 b3 b4 b5 : Int, HoldsA wx 26 (w.heap.size) (a0) (a1) (a2) (a3) (a4) (a5) ∧ HoldsA wx 26 (w.heap.size + 1) b0 b1 b2 b3 b4 b5 ∧ Below w.heap.size w wx)
      case first =>
        have fx0 := haw3.c0
        have fx1 := haw3.c1
        have fx2 := haw3.c2
        have fx3 := haw3.c3
        have fx4 := haw3.c4
        have fx5 := haw3.c5
        have fxf := haw3.free
        have fy0 := hrw3.c0
        have fy1 := hrw3.c1
        have fy2 := hrw3.c2
        have fy3 := hrw3.c3
        have fy4 := hrw3.c4
        have fy5 := hrw3.c5
        have fyf := hrw3.free
        have fz0 := hqw3.c0
        have fz1 := hqw3.c1
        have fz2 := hqw3.c2
        have fz3 := hqw3.c3
        have fz4 := hqw3.c4
        have fz5 := hqw3.c5
        have fzf := hqw3.free
        have lt1 : w.heap.size < ga := by omega
        have lt2 : w.heap.size + 1 < ga := by omega
        go_region_held3 (fun w' => w'.cell? ⟨ga, 0, none⟩ = some (.int .i64 (a0)) ∧ w'.cell? ⟨ga, 1, none⟩ = some (.int .i64 (a1)) ∧ w'.cell? ⟨ga, 2, none⟩ = some (.int .i64 (a2)) ∧ w'.cell? ⟨ga, 3, none⟩ = some (.int .i64 (a3)) ∧ w'.cell? ⟨ga, 4, none⟩ = some (.int .i64 (a4)) ∧ w'.cell? ⟨ga, 5, none⟩ = some (.int .i64 (a5))) (simp [*, World.cell?_alloc_some, World.cell?_setCell_far, Nat.ne_of_gt, Nat.ne_of_lt]) (first | (go_at_call 48; (with_reducible refine (sheet_c (n := 0 + 70) (cv := (.slice (some ⟨cb, co, none⟩) len cap)) (len := len) (by repeat (first | with_reducible assumption | with_reducible refine Cur.drew ?_ | with_reducible refine Cur.alloc ?_ _ | with_reducible refine Cur.new ?_ ?_ | with_reducible refine Cur.drewN ?_ _ | omega)) (by omega) hlen).mono ?_); rintro e w9 ⟨b0, b1, b2, b3, b4, b5, rfl, hcub, hgb⟩; (first | have hrb : HoldsA w9 26 (w.heap.size) 0 0 0 0 0 0 := HoldsA.grownM (by repeat (first | with_reducible assumption | (with_reducible refine HoldsA.made' ?_; (simp; done)) | with_reducible refine HoldsA.alloc ?_ _ | with_reducible refine HoldsA.drew ?_ | with_reducible refine HoldsA.drewN ?_ _ | (with_reducible refine HoldsA.far ?_ _ _ (by first | (simp; done) | (simp; omega) | omega)))) hgb (by omega) | have hrb : HoldsA w9 26 (w.heap.size) (a0) (a1) (a2) (a3) (a4) (a5) := HoldsA.grownM (by repeat (first | with_reducible assumption | (with_reducible refine HoldsA.made' ?_; (simp; done)) | with_reducible refine HoldsA.alloc ?_ _ | with_reducible refine HoldsA.drew ?_ | with_reducible refine HoldsA.drewN ?_ _ | (with_reducible refine HoldsA.far ?_ _ _ (by first | (simp; done) | (simp; omega) | omega)))) hgb (by omega)); have hqb : HoldsA w9 26 (w.heap.size + 1) 0 0 0 0 0 0 := HoldsA.grownM (by repeat (first | with_reducible assumption | (with_reducible refine HoldsA.made' ?_; (simp; done)) | with_reducible refine HoldsA.alloc ?_ _ | with_reducible refine HoldsA.drew ?_ | with_reducible refine HoldsA.drewN ?_ _ | (with_reducible refine HoldsA.far ?_ _ _ (by first | (simp; done) | (simp; omega) | omega)))) hgb (by omega); have hab : HoldsA w9 26 (ga) (a0) (a1) (a2) (a3) (a4) (a5) := HoldsA.grownM (by repeat (first | with_reducible assumption | (with_reducible refine HoldsA.made' ?_; (simp; done)) | with_reducible refine HoldsA.alloc ?_ _ | with_reducible refine HoldsA.drew ?_ | with_reducible refine HoldsA.drewN ?_ _ | (with_reducible refine HoldsA.far ?_ _ _ (by first | (simp; done) | (simp; omega) | omega)))) hgb (by omega); have yr0 := hrb.c0; have yr1 := hrb.c1; have yr2 := hrb.c2; have yr3 := hrb.c3; have yr4 := hrb.c4; have yr5 := hrb.c5; have yrf := hrb.free; have yq0 := hqb.c0; have yq1 := hqb.c1; have yq2 := hqb.c2; have yq3 := hqb.c3; have yq4 := hqb.c4; have yq5 := hqb.c5; have yqf := hqb.free; have ya0 := hab.c0; have ya1 := hab.c1; have ya2 := hab.c2; have ya3 := hab.c3; have ya4 := hab.c4; have ya5 := hab.c5; have yaf := hab.free))
        all_goals
          go_wp2_with fail
          go_meet
          refine ⟨b0, b1, b2, b3, b4, b5, ?_, ?_, ?_⟩
          · ((repeat (first | with_reducible refine HoldsA.drew ?_ | with_reducible refine HoldsA.drewN ?_ _)); first | with_reducible exact (hrb.store _ _ _ _ _ _).far6 (show w.heap.size ≠ w.heap.size + 1 by omega) _ _ _ _ _ _ | with_reducible exact (hrb.far6 (show w.heap.size ≠ w.heap.size + 1 by omega) _ _ _ _ _ _).store _ _ _ _ _ _ | with_reducible exact hrb.far6 (show w.heap.size ≠ w.heap.size + 1 by omega) _ _ _ _ _ _)
          · ((repeat (first | with_reducible refine HoldsA.drew ?_ | with_reducible refine HoldsA.drewN ?_ _)); first | with_reducible exact (hqb.far6 (show w.heap.size + 1 ≠ w.heap.size by omega) _ _ _ _ _ _).store _ _ _ _ _ _ | with_reducible exact (hqb.store _ _ _ _ _ _).far6 (show w.heap.size + 1 ≠ w.heap.size by omega) _ _ _ _ _ _ | with_reducible exact hqb.store _ _ _ _ _ _)
          · exact (by repeat (first | with_reducible exact Below.refl _ _ | with_reducible assumption | with_reducible refine Below.drew ?_ | with_reducible refine below_drewN ?_ _ | with_reducible refine Below.alloc ?_ ?_ _ | with_reducible refine Below.setCell ?_ ?_ _ | with_reducible refine below_grown ?_ (by with_reducible assumption) ?_ | omega | (simp <;> omega)))
      case rest =>
        obtain ⟨b0, b1, b2, b3, b4, b5, hrx, hqx, hBx⟩ := hcut
        have gy0 := hrx.c0
        have gy1 := hrx.c1
        have gy2 := hrx.c2
        have gy3 := hrx.c3
        have gy4 := hrx.c4
        have gy5 := hrx.c5
        have gyf := hrx.free
        have gz0 := hqx.c0
        have gz1 := hqx.c1
        have gz2 := hqx.c2
        have gz3 := hqx.c3
        have gz4 := hqx.c4
        have gz5 := hqx.c5
        have gzf := hqx.free
        go_wp2_with fail
        exact bodyPost_ret (v := .tuple #[.agg #[.int .i64 (a0), .int .i64 (a1), .int .i64 (a2), .int .i64 (a3), .int .i64 (a4), .int .i64 (a5)], .agg #[.int .i64 b0, .int .i64 b1, .int .i64 b2, .int .i64 b3, .int .i64 b4, .int .i64 b5]]) (by simp [results, Tryz.results21, go_sem, *]) rfl ⟨_, _, _, _, _, _, _, _, _, _, _, _, rfl, hBx⟩
end Go.Proofs.YtgjgefbcfcomcaaGreatDoor
namespace Go.Proofs.YtgjgefbcfcomcaaGreatDoor
open Go.RowKit
set_option linter.unusedSimpArgs false
set_option linter.unusedVariables false

/-- the slice v is no nil slice and holds the n sheets, valid or not, whose numbers are Z -/
def OwnsZ (w : World) (B : Nat) (v : Value) (n : Nat) (Z : List Int) : Prop := w.ownsRow B 26 6 v n (Z.map (Value.int .i64)) ∧ v ≠ .slice none 0 0 ∧ Z.length = n * 6
theorem ownsZ_empty (w : World) (B g : Nat) (hB : B ≤ w.heap.size) (hg : g = w.heap.size) : OwnsZ (w.alloc (.cells #[] 26)) B (.slice (some ⟨g, 0, none⟩) 0 0) 0 [] := by
  subst hg
  exact ⟨World.ownsRow_lit (e := 26) w #[] 0 hB (by unfold maxLen; omega) (by simp), by simp, rfl⟩
theorem OwnsZ.form {w : World} {B n : Nat} {v : Value} {Z : List Int} (h : OwnsZ w B v n Z) : ∃ g cap, v = .slice (some ⟨g, 0, none⟩) n cap ∧ B ≤ g ∧ g < w.heap.size := by
  rcases h.1.2 with ⟨h1, _⟩ | ⟨g, cap, cur, hv, hg, hh, _⟩
  · exact absurd h1 h.2.1
  · exact ⟨g, cap, hv, hg, (Array.getElem?_eq_some_iff.1 hh).1⟩
theorem OwnsZ.alloc {w : World} {B n : Nat} {v : Value} {Z : List Int} (h : OwnsZ w B v n Z) (o : Obj) : OwnsZ (w.alloc o) B v n Z := ⟨h.1.alloc o, h.2⟩
theorem OwnsZ.below {w w1 : World} {B n : Nat} {v : Value} {Z : List Int} (h : OwnsZ w B v n Z) (hb : Below w.heap.size w w1) : OwnsZ w1 B v n Z := ⟨owns_move h.1 fun k _ hk => hb.block k hk, h.2⟩
theorem OwnsZ.grown {w w1 : World} {B C n : Nat} {v : Value} {Z : List Int} (h : OwnsZ w B v n Z) (hg : w.grownBy w1 (some C)) (hC : C < B) : OwnsZ w1 B v n Z :=
  ⟨owns_move h.1 fun k hB hk => hg.block k hk (fun e => by injection e with e; omega), h.2⟩
theorem OwnsZ.reads {w : World} {B n : Nat} {v : Value} {Z : List Int} (h : OwnsZ w B v n Z) : ReadsZ w v n Z := by
  obtain ⟨g, cap, rfl, hg, hl⟩ := h.form
  refine .inr ⟨g, cap, rfl, hl, fun j hj => ?_⟩
  have hj' : j < Z.length := by rw [h.2.2]; exact hj
  have := h.1.cells (g := g) rfl j (.int .i64 (Z.getD j 0)) (by rw [List.getElem?_map, List.getD_eq_getElem?_getD, List.getElem?_eq_getElem hj']; rfl)
  have e : (⟨g, 0, none⟩ : Addr).add j = ⟨g, j, none⟩ := by
    unfold Addr.add
    split <;> simp_all
  rw [e] at this
  exact this
theorem Cur.grown {w w' : World} {C len n : Nat} {cv : Value} {row : Option Nat} (h : Cur w C cv len n) (hg : w.grownBy w' row) (hr : ∀ j, row = some j → C < j) : Cur w' C cv len n := by
  have hl := h.lt
  obtain ⟨a, s, h1, h2, h3⟩ := h
  refine ⟨a, s, (hg.block C hl (fun e => by have := hr C e.symm; omega)).trans h1, h2, h3.step (by omega) (fun k hk => hg.block k (by omega) (fun e => by have := hr k e.symm; omega))⟩
def QsRel (C BB m0 : Nat) (cv : Value) (len : Nat) (w : World) (v i : Value) (wr : World) : Prop :=
  ∃ (k m : Nat) (Z : List Int), k + m = m0 ∧ i = .int .i64 (m : Int) ∧ OwnsZ wr BB v k Z ∧ Cur wr C cv len (1 + 70 * k) ∧ Below w.heap.size w wr ∧ BB ≤ wr.heap.size
set_option maxRecDepth 100000 in
set_option maxHeartbeats 8000000 in
theorem DrawQuietStamps_any (cv : Value) (len : Nat) (hlen : len ≤ 1000000) (w : World) (hcode : CodeB w w.heap.size cv len) : Calls Tryz.prog 24 #[cv] w fun e w' => ∃ vo n Z, e = .returned vo ∧ n ≤ 7 ∧ ReadsZ w' vo n Z ∧ Below w.heap.size w w' := by
  obtain ⟨j0, hj, jz0, jz1, jz2⟩ := info_parts infoSheet
  have hc2 := hcode
  rcases hc2 with ⟨hE, hL⟩ | ⟨cb, co, cap, hE, _, _⟩
  · subst hE
    go_enter Tryz.func24, Tryz.ntmps24
    go_upto_region 4 with (go_at_call 43; (with_reducible refine (am_c_qs (by exact Cur.alloc (Cur.boxed' hcode (Below.refl _ _) rfl) _) (by omega) hlen _ (by simp) _).mono ?_); rintro e w1 ⟨z, rfl, ⟨z0, z1⟩, hcu, hg⟩)
    obtain ⟨m0, rfl⟩ : ∃ m0 : Nat, z = (m0 : Int) := ⟨z.toNat, by omega⟩
    have hm7 : m0 ≤ 7 := by omega
    have hO1 : OwnsZ w1 (w.heap.size + 1) (.slice (some ⟨w.heap.size + 1, 0, none⟩) 0 0) 0 [] := OwnsZ.grown (C := w.heap.size) ((ownsZ_empty _ (w.heap.size + 1) (w.heap.size + 1) (by simp) (by simp)).alloc _) hg (by omega)
    have hB1 : Below w.heap.size w w1 := (by repeat (first | with_reducible exact Below.refl _ _ | with_reducible assumption | with_reducible refine Below.drew ?_ | with_reducible refine below_drewN ?_ _ | with_reducible refine Below.alloc ?_ ?_ _ | with_reducible refine Below.setCell ?_ ?_ _ | with_reducible refine below_grown ?_ (by with_reducible assumption) ?_ | omega | (simp <;> omega)))
    have hs1 : w.heap.size + 1 ≤ w1.heap.size := by have := hcu.lt; omega
    have hcu1 : Cur w1 w.heap.size (.slice none 0 0) len (1 + 70 * 0) := hcu.mono (by omega)
    clear hg hcu z0 z1
    go_wp2_with fail
    go_loopw [4, 5] (QsRel w.heap.size (w.heap.size + 1) m0 (.slice none 0 0) len w) (fun _ i _ => (intOf i).toNat)
    case atStart => exact ⟨0, m0, [], by omega, rfl, hO1, hcu1, hB1, hs1⟩
    case round =>
      clear hO1 hcu1 hB1 hs1
      obtain ⟨k, m, Z, hkm, rfl, hO, hcu, hbw, hBB⟩ := hrel
      by_cases hlt : 0 < m
      · have hlt' : (0 : Int) < (m : Int) := by omega
        go_wp2_with (first | (go_at_call 30; (with_reducible refine (kernelStamp_draw hcu (by omega) hlen).mono ?_); rintro e w1 ⟨a0, a1, a2, a3, a4, a5, rfl, hcu2, hg2⟩; have hOk := OwnsZ.grown hO hg2 (by omega); have hs2 := hg2.size) | (at_builtin; refine wpList_append_own _ rfl _ _ 28 rfl (w.heap.size + 1) 26 j0 (.agg #[.int .i64 0, .int .i64 0, .int .i64 0, .int .i64 0, .int .i64 0, .int .i64 0]) 6 48 Tryz.underlying28 hj jz0 jz1 jz2 rfl (by decide) _ _ _ rfl (hOk.alloc _).1 ⟨w1.heap.size, 0, none⟩ 1 1 [.int .i64 a0, .int .i64 a1, .int .i64 a2, .int .i64 a3, .int .i64 a4, .int .i64 a5] rfl rfl ?c1 ?c2 ?c3 ?c4 ?c5 ?_))
        case c1 =>
          intro j u hj
          match j, hj with
          | 0, hj => simp at hj; subst hj; simp [Addr.add]
          | 1, hj => simp at hj; subst hj; simp [Addr.add]
          | 2, hj => simp at hj; subst hj; simp [Addr.add]
          | 3, hj => simp at hj; subst hj; simp [Addr.add]
          | 4, hj => simp at hj; subst hj; simp [Addr.add]
          | 5, hj => simp at hj; subst hj; simp [Addr.add]
        case c2 =>
          intro u hu
          simp at hu
          rcases hu with rfl | rfl | rfl | rfl | rfl | rfl <;> rfl
        case c3 => unfold maxLen; omega
        case c4 => omega
        case c5 => simp; omega
        intro v' w5 hown' hgrow hnil
        have hN : v' ≠ .slice none 0 0 := fun h => by first | exact hnil h | exact hO.2.1 (hnil.1 h).1
        have hO' : OwnsZ w5 (w.heap.size + 1) v' (k + 1) (Z ++ [a0, a1, a2, a3, a4, a5]) := by
          refine ⟨?_, hN, by rw [List.length_append, hO.2.2]; simp; omega⟩
          rw [List.map_append]
          exact hown'
        have hrow := fun j (hj : _ = some j) => (hO.1.lt j hj).1
        have hcu5 : Cur w5 w.heap.size (.slice none 0 0) len (1 + 70 * k + 70) := Cur.grown (hcu2.alloc _) hgrow (fun j hj => by have := hrow j hj; omega)
        have hB5 : Below w.heap.size w w5 := ((below_grown hbw hg2 (Nat.le_refl _)).alloc (by omega) _).grown hgrow (by simp; omega) (fun j hj => by have := hrow j hj; omega)
        have hs5 : w.heap.size + 1 ≤ w5.heap.size := by have := hgrow.size; simp at this; omega
        clear hown' hgrow hnil hN hrow
        go_wp2
        go_roundw
        case rel => exact ⟨k + 1, m - 1, _, by omega, by go_num, hO', hcu5.mono (by omega), hB5, hs5⟩
        case measure => simp [intOf]; omega
      · have e : m = 0 := by omega
        subst e
        go_wp2
        go_ret
        exact ⟨_, k, Z, rfl, by omega, hO.reads, hbw⟩
  · subst hE
    go_enter Tryz.func24, Tryz.ntmps24
    go_upto_region 4 with (go_at_call 43; (with_reducible refine (am_c_qs (by exact Cur.alloc (Cur.boxed' hcode (Below.refl _ _) rfl) _) (by omega) hlen _ (by simp) _).mono ?_); rintro e w1 ⟨z, rfl, ⟨z0, z1⟩, hcu, hg⟩)
    obtain ⟨m0, rfl⟩ : ∃ m0 : Nat, z = (m0 : Int) := ⟨z.toNat, by omega⟩
    have hm7 : m0 ≤ 7 := by omega
    have hO1 : OwnsZ w1 (w.heap.size + 1) (.slice (some ⟨w.heap.size + 1, 0, none⟩) 0 0) 0 [] := OwnsZ.grown (C := w.heap.size) ((ownsZ_empty _ (w.heap.size + 1) (w.heap.size + 1) (by simp) (by simp)).alloc _) hg (by omega)
    have hB1 : Below w.heap.size w w1 := (by repeat (first | with_reducible exact Below.refl _ _ | with_reducible assumption | with_reducible refine Below.drew ?_ | with_reducible refine below_drewN ?_ _ | with_reducible refine Below.alloc ?_ ?_ _ | with_reducible refine Below.setCell ?_ ?_ _ | with_reducible refine below_grown ?_ (by with_reducible assumption) ?_ | omega | (simp <;> omega)))
    have hs1 : w.heap.size + 1 ≤ w1.heap.size := by have := hcu.lt; omega
    have hcu1 : Cur w1 w.heap.size (.slice (some ⟨cb, co, none⟩) len cap) len (1 + 70 * 0) := hcu.mono (by omega)
    clear hg hcu z0 z1
    go_wp2_with fail
    go_loopw [4, 5] (QsRel w.heap.size (w.heap.size + 1) m0 (.slice (some ⟨cb, co, none⟩) len cap) len w) (fun _ i _ => (intOf i).toNat)
    case atStart => exact ⟨0, m0, [], by omega, rfl, hO1, hcu1, hB1, hs1⟩
    case round =>
      clear hO1 hcu1 hB1 hs1
      obtain ⟨k, m, Z, hkm, rfl, hO, hcu, hbw, hBB⟩ := hrel
      by_cases hlt : 0 < m
      · have hlt' : (0 : Int) < (m : Int) := by omega
        go_wp2_with (first | (go_at_call 30; (with_reducible refine (kernelStamp_draw hcu (by omega) hlen).mono ?_); rintro e w1 ⟨a0, a1, a2, a3, a4, a5, rfl, hcu2, hg2⟩; have hOk := OwnsZ.grown hO hg2 (by omega); have hs2 := hg2.size) | (at_builtin; refine wpList_append_own _ rfl _ _ 28 rfl (w.heap.size + 1) 26 j0 (.agg #[.int .i64 0, .int .i64 0, .int .i64 0, .int .i64 0, .int .i64 0, .int .i64 0]) 6 48 Tryz.underlying28 hj jz0 jz1 jz2 rfl (by decide) _ _ _ rfl (hOk.alloc _).1 ⟨w1.heap.size, 0, none⟩ 1 1 [.int .i64 a0, .int .i64 a1, .int .i64 a2, .int .i64 a3, .int .i64 a4, .int .i64 a5] rfl rfl ?c1 ?c2 ?c3 ?c4 ?c5 ?_))
        case c1 =>
          intro j u hj
          match j, hj with
          | 0, hj => simp at hj; subst hj; simp [Addr.add]
          | 1, hj => simp at hj; subst hj; simp [Addr.add]
          | 2, hj => simp at hj; subst hj; simp [Addr.add]
          | 3, hj => simp at hj; subst hj; simp [Addr.add]
          | 4, hj => simp at hj; subst hj; simp [Addr.add]
          | 5, hj => simp at hj; subst hj; simp [Addr.add]
        case c2 =>
          intro u hu
          simp at hu
          rcases hu with rfl | rfl | rfl | rfl | rfl | rfl <;> rfl
        case c3 => unfold maxLen; omega
        case c4 => omega
        case c5 => simp; omega
        intro v' w5 hown' hgrow hnil
        have hN : v' ≠ .slice none 0 0 := fun h => by first | exact hnil h | exact hO.2.1 (hnil.1 h).1
        have hO' : OwnsZ w5 (w.heap.size + 1) v' (k + 1) (Z ++ [a0, a1, a2, a3, a4, a5]) := by
          refine ⟨?_, hN, by rw [List.length_append, hO.2.2]; simp; omega⟩
          rw [List.map_append]
          exact hown'
        have hrow := fun j (hj : _ = some j) => (hO.1.lt j hj).1
        have hcu5 : Cur w5 w.heap.size (.slice (some ⟨cb, co, none⟩) len cap) len (1 + 70 * k + 70) := Cur.grown (hcu2.alloc _) hgrow (fun j hj => by have := hrow j hj; omega)
        have hB5 : Below w.heap.size w w5 := ((below_grown hbw hg2 (Nat.le_refl _)).alloc (by omega) _).grown hgrow (by simp; omega) (fun j hj => by have := hrow j hj; omega)
        have hs5 : w.heap.size + 1 ≤ w5.heap.size := by have := hgrow.size; simp at this; omega
        clear hown' hgrow hnil hN hrow
        go_wp2
        go_roundw
        case rel => exact ⟨k + 1, m - 1, _, by omega, by go_num, hO', hcu5.mono (by omega), hB5, hs5⟩
        case measure => simp [intOf]; omega
      · have e : m = 0 := by omega
        subst e
        go_wp2
        go_ret
        exact ⟨_, k, Z, rfl, by omega, hO.reads, hbw⟩
end Go.Proofs.YtgjgefbcfcomcaaGreatDoor
