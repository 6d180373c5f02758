/-
  The walk of the law FnKernels: whatever the code, it returns true. Under: the library's own table of the lowest bits lies as its initialiser lays it.
-/
import Derived.Test.YtgjgefbcfcomcaaGreatDoorJG
import Derived.Test.YtgjgefbcfcomcaaGreatDoorJH
import Derived.Deep.CutRange
namespace Go.Proofs.YtgjgefbcfcomcaaGreatDoor
open Go.RowKit
set_option linter.unusedSimpArgs false
set_option linter.unusedVariables false
theorem pow_zero (w : World) : Calls Tryz.prog 19 #[.agg #[.int .i64 0, .int .i64 0, .int .i64 0, .int .i64 0, .int .i64 0, .int .i64 0], .int .i64 0] w fun e w' => e = .returned (.tuple #[.agg #[.int .i64 1, .int .i64 0, .int .i64 0, .int .i64 0, .int .i64 0, .int .i64 0], .bool true]) ∧ Below w.heap.size w w' := by
  have h := implPowerOf_ok 0 0 (by unfold Vs; omega) (by omega) w
  exact h
theorem readsS_all {w : World} {g n cap : Nat} {L : List Nat} (h : ReadsS w (.slice (some ⟨g, 0, none⟩) n cap) L) (j : Nat) (hj : j < L.length) : w.cell? ⟨g, j * 6, none⟩ = some (.int .i64 (row (L.getD j 0) 0)) ∧ w.cell? ⟨g, j * 6 + 1, none⟩ = some (.int .i64 (row (L.getD j 0) 1)) ∧ w.cell? ⟨g, j * 6 + 2, none⟩ = some (.int .i64 (row (L.getD j 0) 2)) ∧ w.cell? ⟨g, j * 6 + 3, none⟩ = some (.int .i64 (row (L.getD j 0) 3)) ∧ w.cell? ⟨g, j * 6 + 4, none⟩ = some (.int .i64 (row (L.getD j 0) 4)) ∧ w.cell? ⟨g, j * 6 + 5, none⟩ = some (.int .i64 (row (L.getD j 0) 5)) := by
  rcases h with ⟨h1, _⟩ | ⟨g', cap', h1, _, h2⟩
  · simp at h1
  · simp only [Value.slice.injEq, Option.some.injEq, Addr.mk.injEq, and_true, true_and] at h1
    obtain ⟨rfl, _, _⟩ := h1
    exact h2 j hj
set_option maxRecDepth 100000 in
theorem wrap_few (m : Nat) (h : m ≤ 36) : wrap64 (m : Int) = (m : Int) ∧ IntKind.i64.wrap (m : Int) = (m : Int) := by
  have w1 : wrap64 (m : Int) = (m : Int) := by unfold wrap64; omega
  exact ⟨w1, (by decide : ∀ m : Nat, m < 37 → IntKind.i64.wrap (m : Int) = (m : Int)) m (by omega)⟩
theorem readsS_lt {w : World} {g n cap : Nat} {L : List Nat} (h : ReadsS w (.slice (some ⟨g, 0, none⟩) n cap) L) (hn : 0 < L.length) : g < w.heap.size := by
  obtain ⟨h0, _⟩ := readsS_all h 0 hn
  exact World.block_lt_of_cell? w _ h0
theorem readsS_mv {w w' : World} {v : Value} {L : List Nat} (h : ReadsS w v L) (hb : Below w.heap.size w w') : ReadsS w' v L := by
  rcases h with h | ⟨g, cap, rfl, h2, h3⟩
  · exact .inl h
  · exact readsS_below (.inr ⟨g, cap, rfl, h2, h3⟩) hb fun g' hg' => by
      have : g = g' := by simpa [Value.ownBlock] using hg'
      omega
set_option maxRecDepth 100000 in
set_option maxHeartbeats 8000000 in
theorem lawFnKernels (cv : Value) (len : Nat) (w : World) (hcode : CodeB w w.heap.size cv len) (hz0 : TabZ w) : Calls Tryz.prog 3 #[cv] w fun e w' => e = .returned (.bool true) ∧ Below w.heap.size w w' := by
  have hzl := hz0.lt
  have HZ := Lib.hid hz0
  clear hz0
  have HC := Lib.hid hcode
  by_cases hbig : (65536 : Int) < (len : Int)
  · go_enter Tryz.func3, Tryz.ntmps3
    go_wp2_with (go_at_call 4; (with_reducible refine (rBig_any cv len _ hcode).mono ?_); rintro e w1 ⟨rfl, h⟩; subst w1; (try simp only [decide_eq_true hbig]))
    go_ret
    exact ⟨rfl, Below.refl _ _⟩
  have hlen : len ≤ 1000000 := by omega
  go_enter Tryz.func3, Tryz.ntmps3
  go_upto_region 4 with (first | (go_at_call 4; (with_reducible refine (rBig_any cv len _ hcode).mono ?_); rintro e w1 ⟨rfl, h⟩; subst w1; (try simp only [decide_eq_false hbig])) | (go_at_call 5; (with_reducible refine (DrawKernelOf_any cv len hlen _ (HC.out.moved (by repeat (first | with_reducible exact Below.refl _ _ | with_reducible assumption | with_reducible refine Below.drew ?_ | with_reducible refine below_drewN ?_ _ | with_reducible refine Below.alloc ?_ ?_ _ | with_reducible refine Below.setCell ?_ ?_ _ | with_reducible refine Below.trans ?_ (Below.mono (by assumption) ?_) | omega | (simp <;> omega))))).mono ?_); rintro e v0 ⟨a0, a1, a2, a3, a4, a5, rfl, hb⟩))
  clear hcode
  have kX1 := hb.alloc hb.size (.cells #[.int .i64 a0, .int .i64 a1, .int .i64 a2, .int .i64 a3, .int .i64 a4, .int .i64 a5] 26)
  have hBXv0 : Below w.heap.size w (v0.alloc (.cells #[.int .i64 a0, .int .i64 a1, .int .i64 a2, .int .i64 a3, .int .i64 a4, .int .i64 a5] 26)) := kX1
  have hSXv0 : HoldsA (v0.alloc (.cells #[.int .i64 a0, .int .i64 a1, .int .i64 a2, .int .i64 a3, .int .i64 a4, .int .i64 a5] 26)) 26 (v0.heap.size) a0 a1 a2 a3 a4 a5 := HoldsA.made _ _ _ _ _ _ _ _
  clear hb kX1
  generalize hE : (v0.alloc (.cells #[.int .i64 a0, .int .i64 a1, .int .i64 a2, .int .i64 a3, .int .i64 a4, .int .i64 a5] 26)) = Xv0 at *
  clear hE
  generalize hE : v0.heap.size = gS at *
  clear hE
  obtain ⟨ok, und, rk, ord, o0, o1, o2, o3, o4, o5, K, hk1, hk2, hku, his, hr1, hr2, hu1, hu2, hd1, hd2, ho1, ho2, huo, hfx, hla⟩ := kern_uni a0 a1 a2 a3 a4 a5
  have HK1 := Lib.hid hk1
  have HK2 := Lib.hid hk2
  have HKU := Lib.hid hku
  have HIS := Lib.hid his
  have HR1 := Lib.hid hr1
  have HR2 := Lib.hid hr2
  have HU1 := Lib.hid hu1
  have HU2 := Lib.hid hu2
  have HD1 := Lib.hid hd1
  have HD2 := Lib.hid hd2
  have HO1 := Lib.hid ho1
  have HO2 := Lib.hid ho2
  have HUO := Lib.hid huo
  have HFX := Lib.hid hfx
  have HLA := Lib.hid hla
  clear hk1 hk2 hku his hr1 hr2 hu1 hu2 hd1 hd2 ho1 ho2 huo hfx hla
  have cS0 := hSXv0.c0
  have cS1 := hSXv0.c1
  have cS2 := hSXv0.c2
  have cS3 := hSXv0.c3
  have cS4 := hSXv0.c4
  have cS5 := hSXv0.c5
  have cSf := hSXv0.free
  go_upto_region 5 with (go_at_call 6; (with_reducible refine (HK1.out _ (HZ.out.below hBXv0 hzl)).mono ?_); rintro e v1 ⟨vo, O, rfl, hrd, hKO, hb⟩)
  clear cS0 cS1 cS2 cS3 cS4 cS5 cSf
  obtain ⟨x4, cp4, rfl⟩ := readsS_form hrd
  have hSv1 : HoldsA v1 26 gS a0 a1 a2 a3 a4 a5 := hSXv0.below hb hSXv0.lt
  have eVv1 : ReadsS v1 (.slice x4 O.length cp4) O := hrd
  have hBv1 : Below w.heap.size w v1 := hBXv0.trans (hb.mono hBXv0.size)
  clear hSXv0 hb hBXv0 hrd
  have cS0 := hSv1.c0
  have cS1 := hSv1.c1
  have cS2 := hSv1.c2
  have cS3 := hSv1.c3
  have cS4 := hSv1.c4
  have cS5 := hSv1.c5
  have cSf := hSv1.free
  go_upto_region 6 with (go_at_call 7; (with_reducible refine (HK2.out _).mono ?_); rintro e v2 ⟨vo, O2, rfl, hrd, hKO2, hb⟩)
  clear cS0 cS1 cS2 cS3 cS4 cS5 cSf
  rw [HKU.out _ _ hKO2 hKO] at hrd
  clear hKO2
  obtain ⟨x6, cp6, rfl⟩ := readsS_form hrd
  have hSv2 : HoldsA v2 26 gS a0 a1 a2 a3 a4 a5 := hSv1.below hb hSv1.lt
  have eVv2 : ReadsS v2 (.slice x4 O.length cp4) O := readsS_mv eVv1 hb
  have eXv2 : ReadsS v2 (.slice x6 O.length cp6) O := hrd
  have hBv2 : Below w.heap.size w v2 := hBv1.trans (hb.mono hBv1.size)
  clear hSv1 eVv1 hb hBv1 hrd
  have hfo := HFX.out O hKO
  obtain ⟨hO36, hfo, hlp⟩ := hfo
  have HFO := Lib.hid hfo
  have HLP := Lib.hid hlp
  clear hfo hlp
  clear HFX HKU HK1 HK2 hKO
  go_cut [85] from 71 to 85 (fun s85 wx => s85 = .bool false ∧ HoldsA wx 26 gS a0 a1 a2 a3 a4 a5 ∧ ReadsS wx (.slice x4 O.length cp4) O ∧ ReadsS wx (.slice x6 O.length cp6) O ∧ Below w.heap.size w wx)
  case first => as_aux_lemma =>
    have cS0 := hSv2.c0
    have cS1 := hSv2.c1
    have cS2 := hSv2.c2
    have cS3 := hSv2.c3
    have cS4 := hSv2.c4
    have cS5 := hSv2.c5
    have cSf := hSv2.free
    go_wp2_with (first | (go_at_call 8; (with_reducible refine (HIS.out _).mono ?_); rintro e w8 ⟨rfl, hb8⟩; have r4 := readsS_mv eVv2 hb8; have r6 := readsS_mv eXv2 hb8) | (go_at_call 9; (with_reducible refine (rSheets_any O _ _ hO36 _ r4 r6).mono ?_); rintro e w9 ⟨rfl, hb9⟩; have hb := hb8.trans (hb9.mono hb8.size)))
    clear cS0 cS1 cS2 cS3 cS4 cS5 cSf
    clear r4 r6 hb8 hb9
    have hSw9 : HoldsA w9 26 gS a0 a1 a2 a3 a4 a5 := hSv2.below hb hSv2.lt
    have eVw9 : ReadsS w9 (.slice x4 O.length cp4) O := readsS_mv eVv2 hb
    have eXw9 : ReadsS w9 (.slice x6 O.length cp6) O := readsS_mv eXv2 hb
    have hBw9 : Below w.heap.size w w9 := hBv2.trans (hb.mono hBv2.size)
    clear hSv2 eVv2 eXv2 hb hBv2
    go_meet
    exact ⟨rfl, hSw9, eVw9, eXw9, hBw9⟩
  case rest =>
    clear hSv2 eVv2 eXv2 hBv2
    obtain ⟨rfl, hSZ3, eVZ3, eXZ3, hBZ3⟩ := hcut
    generalize hE : wc = Z3 at *
    clear hE wc
    go_upto_region 8 with fail
    clear eXZ3 HIS
    have cS0 := hSZ3.c0
    have cS1 := hSZ3.c1
    have cS2 := hSZ3.c2
    have cS3 := hSZ3.c3
    have cS4 := hSZ3.c4
    have cS5 := hSZ3.c5
    have cSf := hSZ3.free
    go_upto_region 9 with (go_at_call 10; (with_reducible refine (HR1.out _ (HZ.out.below hBZ3 hzl)).mono ?_); rintro e v4 ⟨rfl, hb⟩)
    clear cS0 cS1 cS2 cS3 cS4 cS5 cSf
    have hSv4 : HoldsA v4 26 gS a0 a1 a2 a3 a4 a5 := hSZ3.below hb hSZ3.lt
    have eVv4 : ReadsS v4 (.slice x4 O.length cp4) O := readsS_mv eVZ3 hb
    have hBv4 : Below w.heap.size w v4 := hBZ3.trans (hb.mono hBZ3.size)
    clear hSZ3 eVZ3 hb hBZ3
    have cS0 := hSv4.c0
    have cS1 := hSv4.c1
    have cS2 := hSv4.c2
    have cS3 := hSv4.c3
    have cS4 := hSv4.c4
    have cS5 := hSv4.c5
    have cSf := hSv4.free
    go_upto_region 10 with (go_at_call 11; (with_reducible refine (HR2.out _).mono ?_); rintro e v5 ⟨rfl, hb⟩)
    clear cS0 cS1 cS2 cS3 cS4 cS5 cSf
    have hSv5 : HoldsA v5 26 gS a0 a1 a2 a3 a4 a5 := hSv4.below hb hSv4.lt
    have eVv5 : ReadsS v5 (.slice x4 O.length cp4) O := readsS_mv eVv4 hb
    have hBv5 : Below w.heap.size w v5 := hBv4.trans (hb.mono hBv4.size)
    clear hSv4 eVv4 hb hBv4
    go_cut [118] from 96 to 118 (fun s118 wx => s118 = .bool false ∧ HoldsA wx 26 gS a0 a1 a2 a3 a4 a5 ∧ ReadsS wx (.slice x4 O.length cp4) O ∧ Below w.heap.size w wx)
    case first => as_aux_lemma =>
      cases ok with
      | false => (go_wp2_with fail; go_meet; exact ⟨rfl, hSv5, eVv5, hBv5⟩)
      | true =>
        have hsum := (HFO.out rfl).1
        go_wp2_with fail
        go_meet
        exact ⟨rfl, hSv5, eVv5, hBv5⟩
    case rest =>
      clear hSv5 eVv5 hBv5
      obtain ⟨rfl, hSZ6, eVZ6, hBZ6⟩ := hcut
      generalize hE : wc = Z6 at *
      clear hE wc
      go_upto_region 12 with fail
      clear HR1 HR2
      have cS0 := hSZ6.c0
      have cS1 := hSZ6.c1
      have cS2 := hSZ6.c2
      have cS3 := hSZ6.c3
      have cS4 := hSZ6.c4
      have cS5 := hSZ6.c5
      have cSf := hSZ6.free
      go_upto_region 13 with (go_at_call 12; (with_reducible refine (HU1.out _ (HZ.out.below hBZ6 hzl)).mono ?_); rintro e v7 ⟨rfl, hb⟩)
      clear cS0 cS1 cS2 cS3 cS4 cS5 cSf
      have hSv7 : HoldsA v7 26 gS a0 a1 a2 a3 a4 a5 := hSZ6.below hb hSZ6.lt
      have eVv7 : ReadsS v7 (.slice x4 O.length cp4) O := readsS_mv eVZ6 hb
      have hBv7 : Below w.heap.size w v7 := hBZ6.trans (hb.mono hBZ6.size)
      clear hSZ6 eVZ6 hb hBZ6
      have cS0 := hSv7.c0
      have cS1 := hSv7.c1
      have cS2 := hSv7.c2
      have cS3 := hSv7.c3
      have cS4 := hSv7.c4
      have cS5 := hSv7.c5
      have cSf := hSv7.free
      go_upto_region 14 with (go_at_call 13; (with_reducible refine (HU2.out _).mono ?_); rintro e v8 ⟨rfl, hb⟩)
      clear cS0 cS1 cS2 cS3 cS4 cS5 cSf
      have hSv8 : HoldsA v8 26 gS a0 a1 a2 a3 a4 a5 := hSv7.below hb hSv7.lt
      have eVv8 : ReadsS v8 (.slice x4 O.length cp4) O := readsS_mv eVv7 hb
      have hBv8 : Below w.heap.size w v8 := hBv7.trans (hb.mono hBv7.size)
      clear hSv7 eVv7 hb hBv7
      go_cut [151] from 129 to 151 (fun s151 wx => s151 = .bool false ∧ HoldsA wx 26 gS a0 a1 a2 a3 a4 a5 ∧ ReadsS wx (.slice x4 O.length cp4) O ∧ Below w.heap.size w wx)
      case first => as_aux_lemma =>
        cases ok with
        | false => (go_wp2_with fail; go_meet; exact ⟨rfl, hSv8, eVv8, hBv8⟩)
        | true =>
          have hund := (HFO.out rfl).2
          clear HFO HLA HUO HD1 HD2 HO1 HO2 HU1 HU2
          by_cases h0 : O.length = 0
          · have hi : (O.length : Int) = 0 := by omega
            have hu : und = true := by simp [hund, h0]
            clear hund h0
            subst hu
            go_wp2_with fail
            go_meet
            exact ⟨rfl, hSv8, eVv8, hBv8⟩
          · have hi : ¬ (O.length : Int) = 0 := by omega
            have hib : ((O.length : Int) == 0) = false := beq_eq_false_iff_ne.2 hi
            have hu : und = false := by simp [hund, h0]
            clear hund h0
            subst hu
            go_wp2_with fail
            go_meet
            exact ⟨rfl, hSv8, eVv8, hBv8⟩
      case rest =>
        clear hSv8 eVv8 hBv8
        obtain ⟨rfl, hSZ9, eVZ9, hBZ9⟩ := hcut
        generalize hE : wc = Z9 at *
        clear hE wc
        go_upto_region 16 with fail
        clear HU1 HU2 HFO
        have cS0 := hSZ9.c0
        have cS1 := hSZ9.c1
        have cS2 := hSZ9.c2
        have cS3 := hSZ9.c3
        have cS4 := hSZ9.c4
        have cS5 := hSZ9.c5
        have cSf := hSZ9.free
        go_upto_region 17 with (go_at_call 14; (with_reducible refine (HD1.out _ (HZ.out.below hBZ9 hzl)).mono ?_); rintro e v10 ⟨rfl, hb⟩)
        clear cS0 cS1 cS2 cS3 cS4 cS5 cSf
        have kX1 := hb.alloc hb.size (.cells #[.int .i64 o0, .int .i64 o1, .int .i64 o2, .int .i64 o3, .int .i64 o4, .int .i64 o5] 26)
        have hSXv10 : HoldsA (v10.alloc (.cells #[.int .i64 o0, .int .i64 o1, .int .i64 o2, .int .i64 o3, .int .i64 o4, .int .i64 o5] 26)) 26 gS a0 a1 a2 a3 a4 a5 := hSZ9.below kX1 hSZ9.lt
        have eVXv10 : ReadsS (v10.alloc (.cells #[.int .i64 o0, .int .i64 o1, .int .i64 o2, .int .i64 o3, .int .i64 o4, .int .i64 o5] 26)) (.slice x4 O.length cp4) O := readsS_mv eVZ9 kX1
        have hBXv10 : Below w.heap.size w (v10.alloc (.cells #[.int .i64 o0, .int .i64 o1, .int .i64 o2, .int .i64 o3, .int .i64 o4, .int .i64 o5] 26)) := hBZ9.trans (kX1.mono hBZ9.size)
        have hUXv10 : HoldsA (v10.alloc (.cells #[.int .i64 o0, .int .i64 o1, .int .i64 o2, .int .i64 o3, .int .i64 o4, .int .i64 o5] 26)) 26 (v10.heap.size) o0 o1 o2 o3 o4 o5 := HoldsA.made _ _ _ _ _ _ _ _
        clear hSZ9 eVZ9 hb hBZ9 kX1
        generalize hE : (v10.alloc (.cells #[.int .i64 o0, .int .i64 o1, .int .i64 o2, .int .i64 o3, .int .i64 o4, .int .i64 o5] 26)) = Xv10 at *
        clear hE
        generalize hE : v10.heap.size = gU at *
        clear hE
        have cS0 := hSXv10.c0
        have cS1 := hSXv10.c1
        have cS2 := hSXv10.c2
        have cS3 := hSXv10.c3
        have cS4 := hSXv10.c4
        have cS5 := hSXv10.c5
        have cSf := hSXv10.free
        go_upto_region 18 with (go_at_call 15; (with_reducible refine (HD2.out _).mono ?_); rintro e v11 ⟨rfl, hb⟩)
        clear cS0 cS1 cS2 cS3 cS4 cS5 cSf
        have kX1 := hb.alloc hb.size (.cells #[.int .i64 o0, .int .i64 o1, .int .i64 o2, .int .i64 o3, .int .i64 o4, .int .i64 o5] 26)
        have hSXv11 : HoldsA (v11.alloc (.cells #[.int .i64 o0, .int .i64 o1, .int .i64 o2, .int .i64 o3, .int .i64 o4, .int .i64 o5] 26)) 26 gS a0 a1 a2 a3 a4 a5 := hSXv10.below kX1 hSXv10.lt
        have hUXv11 : HoldsA (v11.alloc (.cells #[.int .i64 o0, .int .i64 o1, .int .i64 o2, .int .i64 o3, .int .i64 o4, .int .i64 o5] 26)) 26 gU o0 o1 o2 o3 o4 o5 := hUXv10.below kX1 hUXv10.lt
        have eVXv11 : ReadsS (v11.alloc (.cells #[.int .i64 o0, .int .i64 o1, .int .i64 o2, .int .i64 o3, .int .i64 o4, .int .i64 o5] 26)) (.slice x4 O.length cp4) O := readsS_mv eVXv10 kX1
        have hBXv11 : Below w.heap.size w (v11.alloc (.cells #[.int .i64 o0, .int .i64 o1, .int .i64 o2, .int .i64 o3, .int .i64 o4, .int .i64 o5] 26)) := hBXv10.trans (kX1.mono hBXv10.size)
        have hTXv11 : HoldsA (v11.alloc (.cells #[.int .i64 o0, .int .i64 o1, .int .i64 o2, .int .i64 o3, .int .i64 o4, .int .i64 o5] 26)) 26 (v11.heap.size) o0 o1 o2 o3 o4 o5 := HoldsA.made _ _ _ _ _ _ _ _
        clear hSXv10 hUXv10 eVXv10 hb hBXv10 kX1
        generalize hE : (v11.alloc (.cells #[.int .i64 o0, .int .i64 o1, .int .i64 o2, .int .i64 o3, .int .i64 o4, .int .i64 o5] 26)) = Xv11 at *
        clear hE
        generalize hE : v11.heap.size = gT at *
        clear hE
        go_cut [177] from 162 to 177 (fun s177 wx => s177 = .bool false ∧ HoldsA wx 26 gS a0 a1 a2 a3 a4 a5 ∧ HoldsA wx 26 gU o0 o1 o2 o3 o4 o5 ∧ HoldsA wx 26 gT o0 o1 o2 o3 o4 o5 ∧ ReadsS wx (.slice x4 O.length cp4) O ∧ Below w.heap.size w wx)
        case first => as_aux_lemma =>
          have cU0 := hUXv11.c0
          have cU1 := hUXv11.c1
          have cU2 := hUXv11.c2
          have cU3 := hUXv11.c3
          have cU4 := hUXv11.c4
          have cU5 := hUXv11.c5
          have cUf := hUXv11.free
          have cT0 := hTXv11.c0
          have cT1 := hTXv11.c1
          have cT2 := hTXv11.c2
          have cT3 := hTXv11.c3
          have cT4 := hTXv11.c4
          have cT5 := hTXv11.c5
          have cTf := hTXv11.free
          have huo := HUO.out
          clear HLA HO1 HO2 HD1 HD2 HLP HUO
          cases und with
          | false => cases ok <;> (go_wp2_with fail; go_meet; exact ⟨rfl, hSXv11, hUXv11, hTXv11, eVXv11, hBXv11⟩)
          | true =>
            have ho := huo rfl
            subst ho
            clear huo
            go_wp2_with fail
            go_meet
            exact ⟨rfl, hSXv11, hUXv11, hTXv11, eVXv11, hBXv11⟩
        case rest =>
          clear hSXv11 hUXv11 hTXv11 eVXv11 hBXv11
          obtain ⟨rfl, hSZ12, hUZ12, hTZ12, eVZ12, hBZ12⟩ := hcut
          generalize hE : wc = Z12 at *
          clear hE wc
          go_upto_region 20 with fail
          clear HD1 HD2
          clear hTZ12
          have cS0 := hSZ12.c0
          have cS1 := hSZ12.c1
          have cS2 := hSZ12.c2
          have cS3 := hSZ12.c3
          have cS4 := hSZ12.c4
          have cS5 := hSZ12.c5
          have cSf := hSZ12.free
          go_upto_region 21 with (go_at_call 16; (with_reducible refine (HO1.out _ (HZ.out.below hBZ12 hzl)).mono ?_); rintro e v13 ⟨rfl, hb⟩)
          clear cS0 cS1 cS2 cS3 cS4 cS5 cSf
          have hSv13 : HoldsA v13 26 gS a0 a1 a2 a3 a4 a5 := hSZ12.below hb hSZ12.lt
          have hUv13 : HoldsA v13 26 gU o0 o1 o2 o3 o4 o5 := hUZ12.below hb hUZ12.lt
          have eVv13 : ReadsS v13 (.slice x4 O.length cp4) O := readsS_mv eVZ12 hb
          have hBv13 : Below w.heap.size w v13 := hBZ12.trans (hb.mono hBZ12.size)
          clear hSZ12 hUZ12 eVZ12 hb hBZ12
          have cS0 := hSv13.c0
          have cS1 := hSv13.c1
          have cS2 := hSv13.c2
          have cS3 := hSv13.c3
          have cS4 := hSv13.c4
          have cS5 := hSv13.c5
          have cSf := hSv13.free
          go_upto_region 22 with (go_at_call 17; (with_reducible refine (HO2.out _).mono ?_); rintro e v14 ⟨rfl, hb⟩)
          clear cS0 cS1 cS2 cS3 cS4 cS5 cSf
          have hSv14 : HoldsA v14 26 gS a0 a1 a2 a3 a4 a5 := hSv13.below hb hSv13.lt
          have hUv14 : HoldsA v14 26 gU o0 o1 o2 o3 o4 o5 := hUv13.below hb hUv13.lt
          have eVv14 : ReadsS v14 (.slice x4 O.length cp4) O := readsS_mv eVv13 hb
          have hBv14 : Below w.heap.size w v14 := hBv13.trans (hb.mono hBv13.size)
          clear hSv13 hUv13 eVv13 hb hBv13
          go_cut [208] from 188 to 208 (fun s208 wx => s208 = .bool false ∧ HoldsA wx 26 gS a0 a1 a2 a3 a4 a5 ∧ HoldsA wx 26 gU o0 o1 o2 o3 o4 o5 ∧ ReadsS wx (.slice x4 O.length cp4) O ∧ Below w.heap.size w wx)
          case first => as_aux_lemma =>
            cases und with
            | false => (go_wp2_with fail; go_meet; exact ⟨rfl, hSv14, hUv14, eVv14, hBv14⟩)
            | true =>
              obtain ⟨_, ⟨nn, rfl, n1, n2, n6⟩, _⟩ := HLA.out rfl
              clear HLA HO1 HO2 HLP HUO
              rcases (by omega : nn = 1 ∨ nn = 2 ∨ nn = 3 ∨ nn = 6 ∨ nn = 4 ∨ nn = 5) with rfl | rfl | rfl | rfl | rfl | rfl
              any_goals (exfalso; omega)
              all_goals (clear n1 n2 n6; go_wp2_with fail; go_meet; exact ⟨rfl, hSv14, hUv14, eVv14, hBv14⟩)
          case rest =>
            clear hSv14 hUv14 eVv14 hBv14
            obtain ⟨rfl, hSZ15, hUZ15, eVZ15, hBZ15⟩ := hcut
            generalize hE : wc = Z15 at *
            clear hE wc
            go_upto_region 24 with fail
            clear HO1 HO2
            go_upto_region 25 with (go_at_call 18; (with_reducible refine (DrawPowerOf_any cv len hlen _ (HC.out.moved hBZ15)).mono ?_); rintro e v16 ⟨s0, s1, s2, s3, s4, s5, nn, rfl, hb⟩)
            have kX1 := hb.alloc hb.size (.cells #[.int .i64 s0, .int .i64 s1, .int .i64 s2, .int .i64 s3, .int .i64 s4, .int .i64 s5] 26)
            have hSXv16 : HoldsA (v16.alloc (.cells #[.int .i64 s0, .int .i64 s1, .int .i64 s2, .int .i64 s3, .int .i64 s4, .int .i64 s5] 26)) 26 gS a0 a1 a2 a3 a4 a5 := hSZ15.below kX1 hSZ15.lt
            have hUXv16 : HoldsA (v16.alloc (.cells #[.int .i64 s0, .int .i64 s1, .int .i64 s2, .int .i64 s3, .int .i64 s4, .int .i64 s5] 26)) 26 gU o0 o1 o2 o3 o4 o5 := hUZ15.below kX1 hUZ15.lt
            have eVXv16 : ReadsS (v16.alloc (.cells #[.int .i64 s0, .int .i64 s1, .int .i64 s2, .int .i64 s3, .int .i64 s4, .int .i64 s5] 26)) (.slice x4 O.length cp4) O := readsS_mv eVZ15 kX1
            have hBXv16 : Below w.heap.size w (v16.alloc (.cells #[.int .i64 s0, .int .i64 s1, .int .i64 s2, .int .i64 s3, .int .i64 s4, .int .i64 s5] 26)) := hBZ15.trans (kX1.mono hBZ15.size)
            have hPXv16 : HoldsA (v16.alloc (.cells #[.int .i64 s0, .int .i64 s1, .int .i64 s2, .int .i64 s3, .int .i64 s4, .int .i64 s5] 26)) 26 (v16.heap.size) s0 s1 s2 s3 s4 s5 := HoldsA.made _ _ _ _ _ _ _ _
            clear hSZ15 hUZ15 eVZ15 hb hBZ15 kX1
            generalize hE : (v16.alloc (.cells #[.int .i64 s0, .int .i64 s1, .int .i64 s2, .int .i64 s3, .int .i64 s4, .int .i64 s5] 26)) = Xv16 at *
            clear hE
            generalize hE : v16.heap.size = gP at *
            clear hE
            obtain ⟨r0, r1, r2, r3, r4, r5, five, hp1, hp2⟩ := pow_uni s0 s1 s2 s3 s4 s5 nn
            have HP1 := Lib.hid hp1
            have HP2 := Lib.hid hp2
            clear hp1 hp2
            have cP0 := hPXv16.c0
            have cP1 := hPXv16.c1
            have cP2 := hPXv16.c2
            have cP3 := hPXv16.c3
            have cP4 := hPXv16.c4
            have cP5 := hPXv16.c5
            have cPf := hPXv16.free
            go_upto_region 26 with (go_at_call 19; (with_reducible refine (HP1.out _).mono ?_); rintro e v17 ⟨rfl, hb⟩)
            clear cP0 cP1 cP2 cP3 cP4 cP5 cPf
            have kX1 := hb.alloc hb.size (.cells #[.int .i64 r0, .int .i64 r1, .int .i64 r2, .int .i64 r3, .int .i64 r4, .int .i64 r5] 26)
            have hSXv17 : HoldsA (v17.alloc (.cells #[.int .i64 r0, .int .i64 r1, .int .i64 r2, .int .i64 r3, .int .i64 r4, .int .i64 r5] 26)) 26 gS a0 a1 a2 a3 a4 a5 := hSXv16.below kX1 hSXv16.lt
            have hUXv17 : HoldsA (v17.alloc (.cells #[.int .i64 r0, .int .i64 r1, .int .i64 r2, .int .i64 r3, .int .i64 r4, .int .i64 r5] 26)) 26 gU o0 o1 o2 o3 o4 o5 := hUXv16.below kX1 hUXv16.lt
            have hPXv17 : HoldsA (v17.alloc (.cells #[.int .i64 r0, .int .i64 r1, .int .i64 r2, .int .i64 r3, .int .i64 r4, .int .i64 r5] 26)) 26 gP s0 s1 s2 s3 s4 s5 := hPXv16.below kX1 hPXv16.lt
            have eVXv17 : ReadsS (v17.alloc (.cells #[.int .i64 r0, .int .i64 r1, .int .i64 r2, .int .i64 r3, .int .i64 r4, .int .i64 r5] 26)) (.slice x4 O.length cp4) O := readsS_mv eVXv16 kX1
            have hBXv17 : Below w.heap.size w (v17.alloc (.cells #[.int .i64 r0, .int .i64 r1, .int .i64 r2, .int .i64 r3, .int .i64 r4, .int .i64 r5] 26)) := hBXv16.trans (kX1.mono hBXv16.size)
            have hQXv17 : HoldsA (v17.alloc (.cells #[.int .i64 r0, .int .i64 r1, .int .i64 r2, .int .i64 r3, .int .i64 r4, .int .i64 r5] 26)) 26 (v17.heap.size) r0 r1 r2 r3 r4 r5 := HoldsA.made _ _ _ _ _ _ _ _
            clear hSXv16 hUXv16 hPXv16 eVXv16 hb hBXv16 kX1
            generalize hE : (v17.alloc (.cells #[.int .i64 r0, .int .i64 r1, .int .i64 r2, .int .i64 r3, .int .i64 r4, .int .i64 r5] 26)) = Xv17 at *
            clear hE
            generalize hE : v17.heap.size = gQ at *
            clear hE
            have cP0 := hPXv17.c0
            have cP1 := hPXv17.c1
            have cP2 := hPXv17.c2
            have cP3 := hPXv17.c3
            have cP4 := hPXv17.c4
            have cP5 := hPXv17.c5
            have cPf := hPXv17.free
            go_upto_region 27 with (go_at_call 20; (with_reducible refine (HP2.out _).mono ?_); rintro e v18 ⟨rfl, hb⟩)
            clear cP0 cP1 cP2 cP3 cP4 cP5 cPf
            have kX1 := hb.alloc hb.size (.cells #[.int .i64 r0, .int .i64 r1, .int .i64 r2, .int .i64 r3, .int .i64 r4, .int .i64 r5] 26)
            have hSXv18 : HoldsA (v18.alloc (.cells #[.int .i64 r0, .int .i64 r1, .int .i64 r2, .int .i64 r3, .int .i64 r4, .int .i64 r5] 26)) 26 gS a0 a1 a2 a3 a4 a5 := hSXv17.below kX1 hSXv17.lt
            have hUXv18 : HoldsA (v18.alloc (.cells #[.int .i64 r0, .int .i64 r1, .int .i64 r2, .int .i64 r3, .int .i64 r4, .int .i64 r5] 26)) 26 gU o0 o1 o2 o3 o4 o5 := hUXv17.below kX1 hUXv17.lt
            have hPXv18 : HoldsA (v18.alloc (.cells #[.int .i64 r0, .int .i64 r1, .int .i64 r2, .int .i64 r3, .int .i64 r4, .int .i64 r5] 26)) 26 gP s0 s1 s2 s3 s4 s5 := hPXv17.below kX1 hPXv17.lt
            have hQXv18 : HoldsA (v18.alloc (.cells #[.int .i64 r0, .int .i64 r1, .int .i64 r2, .int .i64 r3, .int .i64 r4, .int .i64 r5] 26)) 26 gQ r0 r1 r2 r3 r4 r5 := hQXv17.below kX1 hQXv17.lt
            have eVXv18 : ReadsS (v18.alloc (.cells #[.int .i64 r0, .int .i64 r1, .int .i64 r2, .int .i64 r3, .int .i64 r4, .int .i64 r5] 26)) (.slice x4 O.length cp4) O := readsS_mv eVXv17 kX1
            have hBXv18 : Below w.heap.size w (v18.alloc (.cells #[.int .i64 r0, .int .i64 r1, .int .i64 r2, .int .i64 r3, .int .i64 r4, .int .i64 r5] 26)) := hBXv17.trans (kX1.mono hBXv17.size)
            have hRXv18 : HoldsA (v18.alloc (.cells #[.int .i64 r0, .int .i64 r1, .int .i64 r2, .int .i64 r3, .int .i64 r4, .int .i64 r5] 26)) 26 (v18.heap.size) r0 r1 r2 r3 r4 r5 := HoldsA.made _ _ _ _ _ _ _ _
            clear hSXv17 hUXv17 hPXv17 hQXv17 eVXv17 hb hBXv17 kX1
            generalize hE : (v18.alloc (.cells #[.int .i64 r0, .int .i64 r1, .int .i64 r2, .int .i64 r3, .int .i64 r4, .int .i64 r5] 26)) = Xv18 at *
            clear hE
            generalize hE : v18.heap.size = gR at *
            clear hE
            have cQ0 := hQXv18.c0
            have cQ1 := hQXv18.c1
            have cQ2 := hQXv18.c2
            have cQ3 := hQXv18.c3
            have cQ4 := hQXv18.c4
            have cQ5 := hQXv18.c5
            have cQf := hQXv18.free
            have cR0 := hRXv18.c0
            have cR1 := hRXv18.c1
            have cR2 := hRXv18.c2
            have cR3 := hRXv18.c3
            have cR4 := hRXv18.c4
            have cR5 := hRXv18.c5
            have cRf := hRXv18.free
            go_upto_region 29 with fail
            clear cQ0 cQ1 cQ2 cQ3 cQ4 cQ5 cQf cR0 cR1 cR2 cR3 cR4 cR5 cRf
            clear HP1 HP2
            clear hPXv18 hQXv18 hRXv18
            go_upto_region 30 with (go_at_call 21; (with_reducible refine (DrawIsQuiet_any cv len hlen _ (HC.out.moved hBXv18)).mono ?_); rintro e v19 ⟨t0, t1, t2, t3, t4, t5, p0, p1, p2, p3, p4, p5, rfl, hb⟩)
            have kX1 := hb.alloc hb.size (.cells #[.int .i64 t0, .int .i64 t1, .int .i64 t2, .int .i64 t3, .int .i64 t4, .int .i64 t5] 26)
            have kX2 := kX1.alloc kX1.size (.cells #[.int .i64 p0, .int .i64 p1, .int .i64 p2, .int .i64 p3, .int .i64 p4, .int .i64 p5] 26)
            have hSXv19 : HoldsA ((v19.alloc (.cells #[.int .i64 t0, .int .i64 t1, .int .i64 t2, .int .i64 t3, .int .i64 t4, .int .i64 t5] 26)).alloc (.cells #[.int .i64 p0, .int .i64 p1, .int .i64 p2, .int .i64 p3, .int .i64 p4, .int .i64 p5] 26)) 26 gS a0 a1 a2 a3 a4 a5 := hSXv18.below kX2 hSXv18.lt
            have hUXv19 : HoldsA ((v19.alloc (.cells #[.int .i64 t0, .int .i64 t1, .int .i64 t2, .int .i64 t3, .int .i64 t4, .int .i64 t5] 26)).alloc (.cells #[.int .i64 p0, .int .i64 p1, .int .i64 p2, .int .i64 p3, .int .i64 p4, .int .i64 p5] 26)) 26 gU o0 o1 o2 o3 o4 o5 := hUXv18.below kX2 hUXv18.lt
            have eVXv19 : ReadsS ((v19.alloc (.cells #[.int .i64 t0, .int .i64 t1, .int .i64 t2, .int .i64 t3, .int .i64 t4, .int .i64 t5] 26)).alloc (.cells #[.int .i64 p0, .int .i64 p1, .int .i64 p2, .int .i64 p3, .int .i64 p4, .int .i64 p5] 26)) (.slice x4 O.length cp4) O := readsS_mv eVXv18 kX2
            have hBXv19 : Below w.heap.size w ((v19.alloc (.cells #[.int .i64 t0, .int .i64 t1, .int .i64 t2, .int .i64 t3, .int .i64 t4, .int .i64 t5] 26)).alloc (.cells #[.int .i64 p0, .int .i64 p1, .int .i64 p2, .int .i64 p3, .int .i64 p4, .int .i64 p5] 26)) := hBXv18.trans (kX2.mono hBXv18.size)
            have hMXv19 : HoldsA ((v19.alloc (.cells #[.int .i64 t0, .int .i64 t1, .int .i64 t2, .int .i64 t3, .int .i64 t4, .int .i64 t5] 26)).alloc (.cells #[.int .i64 p0, .int .i64 p1, .int .i64 p2, .int .i64 p3, .int .i64 p4, .int .i64 p5] 26)) 26 (v19.heap.size) t0 t1 t2 t3 t4 t5 := (HoldsA.made _ _ _ _ _ _ _ _).alloc _
            have hNXv19 : HoldsA ((v19.alloc (.cells #[.int .i64 t0, .int .i64 t1, .int .i64 t2, .int .i64 t3, .int .i64 t4, .int .i64 t5] 26)).alloc (.cells #[.int .i64 p0, .int .i64 p1, .int .i64 p2, .int .i64 p3, .int .i64 p4, .int .i64 p5] 26)) 26 (v19.heap.size + 1) p0 p1 p2 p3 p4 p5 := HoldsA.made' (by simp)
            clear hSXv18 hUXv18 eVXv18 hb hBXv18 kX1 kX2
            generalize hE : ((v19.alloc (.cells #[.int .i64 t0, .int .i64 t1, .int .i64 t2, .int .i64 t3, .int .i64 t4, .int .i64 t5] 26)).alloc (.cells #[.int .i64 p0, .int .i64 p1, .int .i64 p2, .int .i64 p3, .int .i64 p4, .int .i64 p5] 26)) = Xv19 at *
            clear hE
            generalize hE : v19.heap.size = gM at *
            clear hE
            obtain ⟨qq, six, hq1, hq2⟩ := isq_uni t0 t1 t2 t3 t4 t5 p0 p1 p2 p3 p4 p5
            have HQ1 := Lib.hid hq1
            have HQ2 := Lib.hid hq2
            clear hq1 hq2
            have cM0 := hMXv19.c0
            have cM1 := hMXv19.c1
            have cM2 := hMXv19.c2
            have cM3 := hMXv19.c3
            have cM4 := hMXv19.c4
            have cM5 := hMXv19.c5
            have cMf := hMXv19.free
            have cN0 := hNXv19.c0
            have cN1 := hNXv19.c1
            have cN2 := hNXv19.c2
            have cN3 := hNXv19.c3
            have cN4 := hNXv19.c4
            have cN5 := hNXv19.c5
            have cNf := hNXv19.free
            go_upto_region 31 with (go_at_call 22; (with_reducible refine (HQ1.out _).mono ?_); rintro e v20 ⟨rfl, hb⟩)
            clear cM0 cM1 cM2 cM3 cM4 cM5 cMf cN0 cN1 cN2 cN3 cN4 cN5 cNf
            have hSv20 : HoldsA v20 26 gS a0 a1 a2 a3 a4 a5 := hSXv19.below hb hSXv19.lt
            have hUv20 : HoldsA v20 26 gU o0 o1 o2 o3 o4 o5 := hUXv19.below hb hUXv19.lt
            have hMv20 : HoldsA v20 26 gM t0 t1 t2 t3 t4 t5 := hMXv19.below hb hMXv19.lt
            have hNv20 : HoldsA v20 26 (gM + 1) p0 p1 p2 p3 p4 p5 := hNXv19.below hb hNXv19.lt
            have eVv20 : ReadsS v20 (.slice x4 O.length cp4) O := readsS_mv eVXv19 hb
            have hBv20 : Below w.heap.size w v20 := hBXv19.trans (hb.mono hBXv19.size)
            clear hSXv19 hUXv19 hMXv19 hNXv19 eVXv19 hb hBXv19
            have cM0 := hMv20.c0
            have cM1 := hMv20.c1
            have cM2 := hMv20.c2
            have cM3 := hMv20.c3
            have cM4 := hMv20.c4
            have cM5 := hMv20.c5
            have cMf := hMv20.free
            have cN0 := hNv20.c0
            have cN1 := hNv20.c1
            have cN2 := hNv20.c2
            have cN3 := hNv20.c3
            have cN4 := hNv20.c4
            have cN5 := hNv20.c5
            have cNf := hNv20.free
            go_upto_region 32 with (go_at_call 23; (with_reducible refine (HQ2.out _).mono ?_); rintro e v21 ⟨rfl, hb⟩)
            clear cM0 cM1 cM2 cM3 cM4 cM5 cMf cN0 cN1 cN2 cN3 cN4 cN5 cNf
            have hSv21 : HoldsA v21 26 gS a0 a1 a2 a3 a4 a5 := hSv20.below hb hSv20.lt
            have hUv21 : HoldsA v21 26 gU o0 o1 o2 o3 o4 o5 := hUv20.below hb hUv20.lt
            have hMv21 : HoldsA v21 26 gM t0 t1 t2 t3 t4 t5 := hMv20.below hb hMv20.lt
            have hNv21 : HoldsA v21 26 (gM + 1) p0 p1 p2 p3 p4 p5 := hNv20.below hb hNv20.lt
            have eVv21 : ReadsS v21 (.slice x4 O.length cp4) O := readsS_mv eVv20 hb
            have hBv21 : Below w.heap.size w v21 := hBv20.trans (hb.mono hBv20.size)
            clear hSv20 hUv20 hMv20 hNv20 eVv20 hb hBv20
            go_upto_region 34 with fail
            clear HQ1 HQ2
            clear hMv21 hNv21
            go_upto_region 35 with (go_at_call 24; (with_reducible refine (DrawQuietStamps_any cv len hlen _ (HC.out.moved hBv21)).mono ?_); rintro e v22 ⟨vo, nl, Z, rfl, hn7, hrz, hb⟩)
            obtain ⟨x36, cp36, rfl⟩ := readsZ_form hrz
            have hSv22 : HoldsA v22 26 gS a0 a1 a2 a3 a4 a5 := hSv21.below hb hSv21.lt
            have hUv22 : HoldsA v22 26 gU o0 o1 o2 o3 o4 o5 := hUv21.below hb hUv21.lt
            have eVv22 : ReadsS v22 (.slice x4 O.length cp4) O := readsS_mv eVv21 hb
            have eLv22 : ReadsZ v22 (.slice x36 nl cp36) nl Z := hrz
            have hBv22 : Below w.heap.size w v22 := hBv21.trans (hb.mono hBv21.size)
            clear hSv21 hUv21 eVv21 hb hBv21 hrz
            obtain ⟨many, seven, hq2, hq1, hqf⟩ := quiet_uni nl Z
            have HQ1 := Lib.hid hq1
            have HQ2 := Lib.hid hq2
            have HQF := Lib.hid hqf
            clear hq1 hq2 hqf
            go_upto_region 36 with (go_at_call 25; (with_reducible refine (HQ1.out _ _ eLv22 (HZ.out.below hBv22 hzl)).mono ?_); rintro e v23 ⟨rfl, hb⟩)
            have hSv23 : HoldsA v23 26 gS a0 a1 a2 a3 a4 a5 := hSv22.below hb hSv22.lt
            have hUv23 : HoldsA v23 26 gU o0 o1 o2 o3 o4 o5 := hUv22.below hb hUv22.lt
            have eVv23 : ReadsS v23 (.slice x4 O.length cp4) O := readsS_mv eVv22 hb
            have eLv23 : ReadsZ v23 (.slice x36 nl cp36) nl Z := readsZ_mv eLv22 hb
            have hBv23 : Below w.heap.size w v23 := hBv22.trans (hb.mono hBv22.size)
            clear hSv22 hUv22 eVv22 eLv22 hb hBv22
            go_upto_region 37 with (go_at_call 26; (with_reducible refine (HQ2.out _ _ eLv23).mono ?_); rintro e v24 ⟨rfl, hb⟩)
            have hSv24 : HoldsA v24 26 gS a0 a1 a2 a3 a4 a5 := hSv23.below hb hSv23.lt
            have hUv24 : HoldsA v24 26 gU o0 o1 o2 o3 o4 o5 := hUv23.below hb hUv23.lt
            have eVv24 : ReadsS v24 (.slice x4 O.length cp4) O := readsS_mv eVv23 hb
            have eLv24 : ReadsZ v24 (.slice x36 nl cp36) nl Z := readsZ_mv eLv23 hb
            have hBv24 : Below w.heap.size w v24 := hBv23.trans (hb.mono hBv23.size)
            clear hSv23 hUv23 eVv23 eLv23 hb hBv23
            clear HQ1 HQ2
            go_upto_if 279 with fail
            go_cut [41, 42, 43] from 280 to 312 (fun s41 s42 s43 wx => HoldsA wx 26 gS a0 a1 a2 a3 a4 a5 ∧ HoldsA wx 26 gU o0 o1 o2 o3 o4 o5 ∧ ReadsS wx (.slice x4 O.length cp4) O ∧ ReadsZ wx (.slice x36 nl cp36) nl Z ∧ Below w.heap.size w wx)
            case first => as_aux_lemma =>
              cases seven with
              | false => (go_wp2_with fail; go_meet; exact ⟨hSv24, hUv24, eVv24, eLv24, hBv24⟩)
              | true =>
                obtain ⟨hn6, hqf⟩ := HQF.out rfl
                have HQG := Lib.hid hqf
                clear hqf HQF HLA HLP HUO
                go_wp2_with fail
                go_loopw [41] (fun i wr => ∃ k : Nat, k ≤ nl ∧ i = .int .i64 (k : Int) ∧ HoldsA wr 26 gS a0 a1 a2 a3 a4 a5 ∧ HoldsA wr 26 gU o0 o1 o2 o3 o4 o5 ∧ ReadsS wr (.slice x4 O.length cp4) O ∧ ReadsZ wr (.slice x36 nl cp36) nl Z ∧ Below w.heap.size w wr) (fun i _ => nl - (intOf i).toNat)
                case atStart => exact ⟨0, Nat.zero_le _, rfl, hSv24, hUv24, eVv24, eLv24, hBv24⟩
                case round =>
                  clear hSv24 hUv24 eVv24 eLv24 hBv24
                  obtain ⟨k, hk, rfl, hSwr, hUwr, eVwr, eLwr, hBwr⟩ := hrel
                  by_cases hlt : k < nl
                  rotate_left
                  · have e : k = nl := by omega
                    subst e
                    go_wp2_with fail
                    go_meet
                    exact ⟨hSwr, hUwr, eVwr, eLwr, hBwr⟩
                  have hlt' : (k : Int) < (nl : Int) := by omega
                  have hL2 := eLwr
                  rcases hL2 with ⟨h1, h0⟩ | ⟨gL, cap, h1, hgL, hcell⟩
                  · omega
                  injection h1 with h2 _ h3
                  subst h2 h3
                  have c0 := hcell (k * 6) (by omega)
                  have c1 := hcell (k * 6 + 1) (by omega)
                  have c2 := hcell (k * 6 + 2) (by omega)
                  have c3 := hcell (k * 6 + 3) (by omega)
                  have c4 := hcell (k * 6 + 4) (by omega)
                  have c5 := hcell (k * 6 + 5) (by omega)
                  obtain ⟨d, hd36, hrk, hmd, hm1⟩ := HQG.out k hlt
                  clear hcell
                  generalize Z.getD (k * 6) 0 = y0 at *
                  generalize Z.getD (k * 6 + 1) 0 = y1 at *
                  generalize Z.getD (k * 6 + 2) 0 = y2 at *
                  generalize Z.getD (k * 6 + 3) 0 = y3 at *
                  generalize Z.getD (k * 6 + 4) 0 = y4 at *
                  generalize Z.getD (k * 6 + 5) 0 = y5 at *
                  have HRK := Lib.hid hrk
                  clear hrk
                  go_upto_region 44 with (go_at_call 10; (with_reducible refine (HRK.out _ (HZ.out.below hBwr hzl)).mono ?_); rintro e v26 ⟨rfl, hb⟩)
                  have hSv26 : HoldsA v26 26 gS a0 a1 a2 a3 a4 a5 := hSwr.below hb hSwr.lt
                  have hUv26 : HoldsA v26 26 gU o0 o1 o2 o3 o4 o5 := hUwr.below hb hUwr.lt
                  have eVv26 : ReadsS v26 (.slice x4 O.length cp4) O := readsS_mv eVwr hb
                  have eLv26 : ReadsZ v26 (.slice (some ⟨gL, 0, none⟩) nl cp36) nl Z := readsZ_mv eLwr hb
                  have hBv26 : Below w.heap.size w v26 := hBwr.trans (hb.mono hBwr.size)
                  clear hSwr hUwr eVwr eLwr hb hBwr
                  clear c0 c1 c2 c3 c4 c5 HRK
                  have hmdn : ¬ ((d : Int) < many) := by omega
                  have hsb : (36 : Int) - (36 - (d : Int)) = (d : Int) := by omega
                  have hd0 : (0 : Int) ≤ (d : Int) := by omega
                  have hd1 : (d : Int) ≤ 36 := by omega
                  by_cases hn1 : nl = 1
                  · have hmm := hm1 hn1
                    have hni : (nl : Int) = 1 := by omega
                    clear hm1 hn1
                    go_wp2_with fail
                    go_roundw
                    case rel => exact ⟨k + 1, by omega, by go_num, hSv26, hUv26, eVv26, eLv26, hBv26⟩
                    case measure => simp [intOf]; omega
                  · have hni : ¬ (nl : Int) = 1 := by omega
                    have hnb : ((nl : Int) == 1) = false := beq_eq_false_iff_ne.2 hni
                    clear hm1 hn1
                    go_wp2_with fail
                    go_roundw
                    case rel => exact ⟨k + 1, by omega, by go_num, hSv26, hUv26, eVv26, eLv26, hBv26⟩
                    case measure => simp [intOf]; omega
            case rest =>
              clear hSv24 hUv24 eVv24 eLv24 hBv24
              obtain ⟨hSZ25, hUZ25, eVZ25, eLZ25, hBZ25⟩ := hcut
              generalize hE : wc = Z25 at *
              clear hE wc
              clear eLZ25
              go_upto_region 47 with (go_at_call 19; (with_reducible refine (pow_zero _).mono ?_); rintro e v27 ⟨rfl, hb⟩)
              have kX1 := hb.alloc hb.size (.cells #[.int .i64 1, .int .i64 0, .int .i64 0, .int .i64 0, .int .i64 0, .int .i64 0] 26)
              have hSXv27 : HoldsA (v27.alloc (.cells #[.int .i64 1, .int .i64 0, .int .i64 0, .int .i64 0, .int .i64 0, .int .i64 0] 26)) 26 gS a0 a1 a2 a3 a4 a5 := hSZ25.below kX1 hSZ25.lt
              have hUXv27 : HoldsA (v27.alloc (.cells #[.int .i64 1, .int .i64 0, .int .i64 0, .int .i64 0, .int .i64 0, .int .i64 0] 26)) 26 gU o0 o1 o2 o3 o4 o5 := hUZ25.below kX1 hUZ25.lt
              have eVXv27 : ReadsS (v27.alloc (.cells #[.int .i64 1, .int .i64 0, .int .i64 0, .int .i64 0, .int .i64 0, .int .i64 0] 26)) (.slice x4 O.length cp4) O := readsS_mv eVZ25 kX1
              have hBXv27 : Below w.heap.size w (v27.alloc (.cells #[.int .i64 1, .int .i64 0, .int .i64 0, .int .i64 0, .int .i64 0, .int .i64 0] 26)) := hBZ25.trans (kX1.mono hBZ25.size)
              have hNXv27 : HoldsA (v27.alloc (.cells #[.int .i64 1, .int .i64 0, .int .i64 0, .int .i64 0, .int .i64 0, .int .i64 0] 26)) 26 (v27.heap.size) 1 0 0 0 0 0 := HoldsA.made _ _ _ _ _ _ _ _
              clear hSZ25 hUZ25 eVZ25 hb hBZ25 kX1
              generalize hE : (v27.alloc (.cells #[.int .i64 1, .int .i64 0, .int .i64 0, .int .i64 0, .int .i64 0, .int .i64 0] 26)) = Xv27 at *
              clear hE
              generalize hE : v27.heap.size = gN at *
              clear hE
              go_upto_if 318 with fail
              go_cut [46, 47, 48, 49, 50, 51] from 319 to 360 (fun s46 s47 s48 s49 s50 s51 wx => HoldsA wx 26 gS a0 a1 a2 a3 a4 a5 ∧ HoldsA wx 26 gU o0 o1 o2 o3 o4 o5 ∧ HoldsA wx 26 gN 1 0 0 0 0 0 ∧ ReadsS wx (.slice x4 O.length cp4) O ∧ Below w.heap.size w wx)
              case first => as_aux_lemma =>
                cases und with
                | false => (go_wp2_with fail; go_meet; exact ⟨hSXv27, hUXv27, hNXv27, eVXv27, hBXv27⟩)
                | true =>
                  obtain ⟨-, ⟨nn2, hord, n1, n2, n6⟩, hpr, hpw, sz, hsz, hs36, hodd⟩ := HLA.out rfl
                  clear hord n1 n2 n6 HLA HLP HUO
                  have HPR := Lib.hid hpr
                  have HPW := Lib.hid hpw
                  have HSZ := Lib.hid hsz
                  clear hpr hpw hsz
                  go_upto_region 48 with fail
                  have cS0 := hSXv27.c0
                  have cS1 := hSXv27.c1
                  have cS2 := hSXv27.c2
                  have cS3 := hSXv27.c3
                  have cS4 := hSXv27.c4
                  have cS5 := hSXv27.c5
                  have cSf := hSXv27.free
                  have cU0 := hUXv27.c0
                  have cU1 := hUXv27.c1
                  have cU2 := hUXv27.c2
                  have cU3 := hUXv27.c3
                  have cU4 := hUXv27.c4
                  have cU5 := hUXv27.c5
                  have cUf := hUXv27.free
                  go_upto_region 49 with (go_at_call 27; (with_reducible refine (HPR.out _).mono ?_); rintro e v29 ⟨rfl, hb⟩)
                  clear cS0 cS1 cS2 cS3 cS4 cS5 cSf cU0 cU1 cU2 cU3 cU4 cU5 cUf
                  have kX1 := hb.alloc hb.size (.cells #[.int .i64 1, .int .i64 0, .int .i64 0, .int .i64 0, .int .i64 0, .int .i64 0] 26)
                  have hSXv29 : HoldsA (v29.alloc (.cells #[.int .i64 1, .int .i64 0, .int .i64 0, .int .i64 0, .int .i64 0, .int .i64 0] 26)) 26 gS a0 a1 a2 a3 a4 a5 := hSXv27.below kX1 hSXv27.lt
                  have hUXv29 : HoldsA (v29.alloc (.cells #[.int .i64 1, .int .i64 0, .int .i64 0, .int .i64 0, .int .i64 0, .int .i64 0] 26)) 26 gU o0 o1 o2 o3 o4 o5 := hUXv27.below kX1 hUXv27.lt
                  have hNXv29 : HoldsA (v29.alloc (.cells #[.int .i64 1, .int .i64 0, .int .i64 0, .int .i64 0, .int .i64 0, .int .i64 0] 26)) 26 gN 1 0 0 0 0 0 := hNXv27.below kX1 hNXv27.lt
                  have eVXv29 : ReadsS (v29.alloc (.cells #[.int .i64 1, .int .i64 0, .int .i64 0, .int .i64 0, .int .i64 0, .int .i64 0] 26)) (.slice x4 O.length cp4) O := readsS_mv eVXv27 kX1
                  have hBXv29 : Below w.heap.size w (v29.alloc (.cells #[.int .i64 1, .int .i64 0, .int .i64 0, .int .i64 0, .int .i64 0, .int .i64 0] 26)) := hBXv27.trans (kX1.mono hBXv27.size)
                  have hDXv29 : HoldsA (v29.alloc (.cells #[.int .i64 1, .int .i64 0, .int .i64 0, .int .i64 0, .int .i64 0, .int .i64 0] 26)) 26 (v29.heap.size) 1 0 0 0 0 0 := HoldsA.made _ _ _ _ _ _ _ _
                  clear hSXv27 hUXv27 hNXv27 eVXv27 hb hBXv27 kX1
                  generalize hE : (v29.alloc (.cells #[.int .i64 1, .int .i64 0, .int .i64 0, .int .i64 0, .int .i64 0, .int .i64 0] 26)) = Xv29 at *
                  clear hE
                  generalize hE : v29.heap.size = gD at *
                  clear hE
                  have cS0 := hSXv29.c0
                  have cS1 := hSXv29.c1
                  have cS2 := hSXv29.c2
                  have cS3 := hSXv29.c3
                  have cS4 := hSXv29.c4
                  have cS5 := hSXv29.c5
                  have cSf := hSXv29.free
                  go_upto_region 50 with (go_at_call 19; (with_reducible refine (HPW.out _).mono ?_); rintro e v30 ⟨rfl, hb⟩)
                  clear cS0 cS1 cS2 cS3 cS4 cS5 cSf
                  have kX1 := hb.alloc hb.size (.cells #[.int .i64 1, .int .i64 0, .int .i64 0, .int .i64 0, .int .i64 0, .int .i64 0] 26)
                  have hSXv30 : HoldsA (v30.alloc (.cells #[.int .i64 1, .int .i64 0, .int .i64 0, .int .i64 0, .int .i64 0, .int .i64 0] 26)) 26 gS a0 a1 a2 a3 a4 a5 := hSXv29.below kX1 hSXv29.lt
                  have hUXv30 : HoldsA (v30.alloc (.cells #[.int .i64 1, .int .i64 0, .int .i64 0, .int .i64 0, .int .i64 0, .int .i64 0] 26)) 26 gU o0 o1 o2 o3 o4 o5 := hUXv29.below kX1 hUXv29.lt
                  have hNXv30 : HoldsA (v30.alloc (.cells #[.int .i64 1, .int .i64 0, .int .i64 0, .int .i64 0, .int .i64 0, .int .i64 0] 26)) 26 gN 1 0 0 0 0 0 := hNXv29.below kX1 hNXv29.lt
                  have hDXv30 : HoldsA (v30.alloc (.cells #[.int .i64 1, .int .i64 0, .int .i64 0, .int .i64 0, .int .i64 0, .int .i64 0] 26)) 26 gD 1 0 0 0 0 0 := hDXv29.below kX1 hDXv29.lt
                  have eVXv30 : ReadsS (v30.alloc (.cells #[.int .i64 1, .int .i64 0, .int .i64 0, .int .i64 0, .int .i64 0, .int .i64 0] 26)) (.slice x4 O.length cp4) O := readsS_mv eVXv29 kX1
                  have hBXv30 : Below w.heap.size w (v30.alloc (.cells #[.int .i64 1, .int .i64 0, .int .i64 0, .int .i64 0, .int .i64 0, .int .i64 0] 26)) := hBXv29.trans (kX1.mono hBXv29.size)
                  have hEXv30 : HoldsA (v30.alloc (.cells #[.int .i64 1, .int .i64 0, .int .i64 0, .int .i64 0, .int .i64 0, .int .i64 0] 26)) 26 (v30.heap.size) 1 0 0 0 0 0 := HoldsA.made _ _ _ _ _ _ _ _
                  clear hSXv29 hUXv29 hNXv29 hDXv29 eVXv29 hb hBXv29 kX1
                  generalize hE : (v30.alloc (.cells #[.int .i64 1, .int .i64 0, .int .i64 0, .int .i64 0, .int .i64 0, .int .i64 0] 26)) = Xv30 at *
                  clear hE
                  generalize hE : v30.heap.size = gE at *
                  clear hE
                  have cS0 := hSXv30.c0
                  have cS1 := hSXv30.c1
                  have cS2 := hSXv30.c2
                  have cS3 := hSXv30.c3
                  have cS4 := hSXv30.c4
                  have cS5 := hSXv30.c5
                  have cSf := hSXv30.free
                  go_upto_region 51 with (go_at_call 28; (with_reducible refine (HSZ.out _).mono ?_); rintro e v31 ⟨rfl, hb⟩)
                  clear cS0 cS1 cS2 cS3 cS4 cS5 cSf
                  have hSv31 : HoldsA v31 26 gS a0 a1 a2 a3 a4 a5 := hSXv30.below hb hSXv30.lt
                  have hUv31 : HoldsA v31 26 gU o0 o1 o2 o3 o4 o5 := hUXv30.below hb hUXv30.lt
                  have hNv31 : HoldsA v31 26 gN 1 0 0 0 0 0 := hNXv30.below hb hNXv30.lt
                  have hDv31 : HoldsA v31 26 gD 1 0 0 0 0 0 := hDXv30.below hb hDXv30.lt
                  have hEv31 : HoldsA v31 26 gE 1 0 0 0 0 0 := hEXv30.below hb hEXv30.lt
                  have eVv31 : ReadsS v31 (.slice x4 O.length cp4) O := readsS_mv eVXv30 hb
                  have hBv31 : Below w.heap.size w v31 := hBXv30.trans (hb.mono hBXv30.size)
                  clear hSXv30 hUXv30 hNXv30 hDXv30 hEXv30 eVXv30 hb hBXv30
                  have cD0 := hDv31.c0
                  have cD1 := hDv31.c1
                  have cD2 := hDv31.c2
                  have cD3 := hDv31.c3
                  have cD4 := hDv31.c4
                  have cD5 := hDv31.c5
                  have cDf := hDv31.free
                  have cE0 := hEv31.c0
                  have cE1 := hEv31.c1
                  have cE2 := hEv31.c2
                  have cE3 := hEv31.c3
                  have cE4 := hEv31.c4
                  have cE5 := hEv31.c5
                  have cEf := hEv31.free
                  have cN0 := hNv31.c0
                  have cN1 := hNv31.c1
                  have cN2 := hNv31.c2
                  have cN3 := hNv31.c3
                  have cN4 := hNv31.c4
                  have cN5 := hNv31.c5
                  have cNf := hNv31.free
                  go_wp2_with fail
                  go_meet
                  exact ⟨hSv31, hUv31, hNv31, eVv31, hBv31⟩
              case rest =>
                clear hSXv27 hUXv27 hNXv27 eVXv27 hBXv27
                obtain ⟨hSZ28, hUZ28, hNZ28, eVZ28, hBZ28⟩ := hcut
                generalize hE : wc = Z28 at *
                clear hE wc
                clear hUZ28 hNZ28
                go_wp2_with fail
                go_loopw [52] (fun i wr => ∃ k : Nat, k ≤ O.length ∧ i = .int .i64 (k : Int) ∧ HoldsA wr 26 gS a0 a1 a2 a3 a4 a5 ∧ ReadsS wr (.slice x4 O.length cp4) O ∧ Below w.heap.size w wr) (fun i _ => O.length - (intOf i).toNat)
                case atStart => exact ⟨0, Nat.zero_le _, rfl, hSZ28, eVZ28, hBZ28⟩
                case round =>
                  clear hSZ28 eVZ28 hBZ28
                  obtain ⟨k, hk, rfl, hSwr, eVwr, hBwr⟩ := hrel
                  by_cases hlt : k < O.length
                  rotate_left
                  · have e : k = O.length := by omega
                    subst e
                    go_wp2_with fail
                    go_ret
                    exact ⟨rfl, hBwr⟩
                  have hlt' : (k : Int) < (O.length : Int) := by omega
                  have hV2 := eVwr
                  rcases hV2 with ⟨h1, h0⟩ | ⟨gV, cap, h1, hgV, hcell⟩
                  · subst h0
                    exact absurd hlt (Nat.not_lt_zero _)
                  injection h1 with h2 _ h3
                  subst h2 h3
                  obtain ⟨hiq, hne, hle⟩ := HLP.out k hlt
                  have HIQ := Lib.hid hiq
                  have HNE := Lib.hid hne
                  have HLE := Lib.hid hle
                  clear hiq hne hle
                  have hall := readsS_all eVwr
                  have HALL := Lib.hid hall
                  clear hall
                  obtain ⟨c0, c1, c2, c3, c4, c5⟩ := hcell k hlt
                  clear hcell
                  generalize hx : O.getD k 0 = x at *
                  have HXQ := Lib.hid hx
                  clear hx
                  go_upto_region 56 with fail
                  have cS0 := hSwr.c0
                  have cS1 := hSwr.c1
                  have cS2 := hSwr.c2
                  have cS3 := hSwr.c3
                  have cS4 := hSwr.c4
                  have cS5 := hSwr.c5
                  have cSf := hSwr.free
                  go_cut [53, 54] from 367 to 375 (fun s53 s54 wx => s53 = .bool true ∧ s54 = .bool true ∧ Below wr.heap.size wr wx)
                  case first => as_aux_lemma =>
                    have lS := hSwr.lt
                    go_region_held3 (fun w' => w'.cell? ⟨gS, 0, none⟩ = some (.int .i64 a0) ∧ w'.cell? ⟨gS, 1, none⟩ = some (.int .i64 a1) ∧ w'.cell? ⟨gS, 2, none⟩ = some (.int .i64 a2) ∧ w'.cell? ⟨gS, 3, none⟩ = some (.int .i64 a3) ∧ w'.cell? ⟨gS, 4, none⟩ = some (.int .i64 a4) ∧ w'.cell? ⟨gS, 5, none⟩ = some (.int .i64 a5) ∧ w'.cell? ⟨gV, k * 6, none⟩ = some (.int .i64 (row x 0)) ∧ w'.cell? ⟨gV, k * 6 + 1, none⟩ = some (.int .i64 (row x 1)) ∧ w'.cell? ⟨gV, k * 6 + 2, none⟩ = some (.int .i64 (row x 2)) ∧ w'.cell? ⟨gV, k * 6 + 3, none⟩ = some (.int .i64 (row x 3)) ∧ w'.cell? ⟨gV, k * 6 + 4, none⟩ = some (.int .i64 (row x 4)) ∧ w'.cell? ⟨gV, k * 6 + 5, none⟩ = some (.int .i64 (row x 5))) (simp [*, World.cell?_alloc_some, World.cell?_setCell_far, Nat.ne_of_gt, Nat.ne_of_lt]) (first | (go_at_call 22; (try simp only [List.getElem?_cons_succ, List.getElem?_cons_zero, Option.getD_some]); (with_reducible refine (HIQ.out _).mono ?_); rintro e v ⟨rfl, hb⟩; have y0 := (hb.cell (p := ⟨gS, 0, none⟩) lS).trans cS0; have y1 := (hb.cell (p := ⟨gS, 1, none⟩) lS).trans cS1; have y2 := (hb.cell (p := ⟨gS, 2, none⟩) lS).trans cS2; have y3 := (hb.cell (p := ⟨gS, 3, none⟩) lS).trans cS3; have y4 := (hb.cell (p := ⟨gS, 4, none⟩) lS).trans cS4; have y5 := (hb.cell (p := ⟨gS, 5, none⟩) lS).trans cS5; have z0 := (hb.cell (p := ⟨gV, k * 6, none⟩) hgV).trans c0; have z1 := (hb.cell (p := ⟨gV, k * 6 + 1, none⟩) hgV).trans c1; have z2 := (hb.cell (p := ⟨gV, k * 6 + 2, none⟩) hgV).trans c2; have z3 := (hb.cell (p := ⟨gV, k * 6 + 3, none⟩) hgV).trans c3; have z4 := (hb.cell (p := ⟨gV, k * 6 + 4, none⟩) hgV).trans c4; have z5 := (hb.cell (p := ⟨gV, k * 6 + 5, none⟩) hgV).trans c5))
                    all_goals
                      go_wp2_with fail
                      go_meet
                      exact ⟨rfl, rfl, (by repeat (first | with_reducible exact Below.refl _ _ | with_reducible assumption | with_reducible refine Below.drew ?_ | with_reducible refine below_drewN ?_ _ | with_reducible refine Below.alloc ?_ ?_ _ | with_reducible refine Below.setCell ?_ ?_ _ | with_reducible refine Below.trans ?_ (Below.mono (by assumption) ?_) | omega | (simp <;> omega)))⟩
                  case rest =>
                    clear cS0 cS1 cS2 cS3 cS4 cS5 cSf
                    obtain ⟨rfl, rfl, hb⟩ := hcut
                    have z0 := (hb.cell (p := ⟨gV, k * 6, none⟩) hgV).trans c0
                    have z1 := (hb.cell (p := ⟨gV, k * 6 + 1, none⟩) hgV).trans c1
                    have z2 := (hb.cell (p := ⟨gV, k * 6 + 2, none⟩) hgV).trans c2
                    have z3 := (hb.cell (p := ⟨gV, k * 6 + 3, none⟩) hgV).trans c3
                    have z4 := (hb.cell (p := ⟨gV, k * 6 + 4, none⟩) hgV).trans c4
                    have z5 := (hb.cell (p := ⟨gV, k * 6 + 5, none⟩) hgV).trans c5
                    clear c0 c1 c2 c3 c4 c5
                    have hgV2 : gV < wc.heap.size := Nat.lt_of_lt_of_le hgV hb.size
                    clear hgV
                    have hSwc : HoldsA wc 26 gS a0 a1 a2 a3 a4 a5 := hSwr.below hb hSwr.lt
                    have eVwc : ReadsS wc (.slice (some ⟨gV, 0, none⟩) O.length cp4) O := readsS_mv eVwr hb
                    have hBwc : Below w.heap.size w wc := hBwr.trans (hb.mono hBwr.size)
                    clear hSwr eVwr hb hBwr
                    clear HIQ
                    have hgV := hgV2
                    go_upto_region 57 with fail
                    go_cut [389] from 376 to 389 (fun s389 wx => s389 = .bool false ∧ HoldsA wx 26 gS a0 a1 a2 a3 a4 a5 ∧ ReadsS wx (.slice (some ⟨gV, 0, none⟩) O.length cp4) O ∧ Below w.heap.size w wx)
                    case first => as_aux_lemma =>
                      go_wp2_with fail
                      go_meet
                      refine ⟨?_, hSwc, eVwc, hBwc⟩
                      have hne := HNE.out
                      clear HLA HLP HUO HLE HALL
                      refine congrArg Value.bool (Bool.eq_false_iff.2 fun h => hne ?_)
                      simpa only [Bool.and_eq_true, decide_eq_true_eq] using h
                    case rest =>
                      clear hSwc eVwc hBwc
                      obtain ⟨rfl, hSZ32, eVZ32, hBZ32⟩ := hcut
                      generalize hE : wc = Z32 at *
                      clear hE wc
                      have hgV3 : gV < Z32.heap.size := readsS_lt eVZ32 (by omega)
                      clear z0 z1 z2 z3 z4 z5 HNE
                      by_cases h0 : k = 0
                      · subst h0
                        go_wp2_with fail
                        go_roundw
                        case rel => exact ⟨0 + 1, by omega, by go_num, hSZ32, eVZ32, hBZ32⟩
                        case measure => simp [intOf]; omega
                      have h0' : (0 : Int) < (k : Int) := by omega
                      obtain ⟨c0, c1, c2, c3, c4, c5⟩ := readsS_all eVZ32 k hlt
                      obtain ⟨d0, d1, d2, d3, d4, d5⟩ := readsS_all eVZ32 (k - 1) (by omega)
                      rw [HXQ.out] at c0 c1 c2 c3 c4 c5
                      have hle := HLE.out (by omega)
                      clear HLE HALL
                      obtain ⟨m, hm⟩ : ∃ m, k - 1 = m := ⟨_, rfl⟩
                      rw [hm] at d0 d1 d2 d3 d4 d5 hle
                      generalize O.getD m 0 = y at *
                      have HLE := Lib.hid hle
                      clear hle h0
                      have hm0 : m < O.length := by omega
                      have hm1 : (m : Int) < (O.length : Int) := by omega
                      have q1 : (k : Int) - 1 = (m : Int) := by omega
                      have q3 : (0 : Int) ≤ (m : Int) := by omega
                      have q6 : (m : Int) ≤ 36 := by omega
                      obtain ⟨w1, w2⟩ := wrap_few m (by omega)
                      have q4 : ¬ (m : Int) < 0 := Int.not_lt.2 q3
                      clear hm
                      go_upto_region 60 with fail
                      go_cut [55, 56] from 390 to 404 (fun s55 s56 wx => s55 = .bool true ∧ s56 = .bool true ∧ Below Z32.heap.size Z32 wx)
                      case first => as_aux_lemma =>
                        have hgVW : gV < Z32.heap.size := hgV3
                        go_region_held3 (fun w' => w'.cell? ⟨gV, k * 6, none⟩ = some (.int .i64 (row x 0)) ∧ w'.cell? ⟨gV, k * 6 + 1, none⟩ = some (.int .i64 (row x 1)) ∧ w'.cell? ⟨gV, k * 6 + 2, none⟩ = some (.int .i64 (row x 2)) ∧ w'.cell? ⟨gV, k * 6 + 3, none⟩ = some (.int .i64 (row x 3)) ∧ w'.cell? ⟨gV, k * 6 + 4, none⟩ = some (.int .i64 (row x 4)) ∧ w'.cell? ⟨gV, k * 6 + 5, none⟩ = some (.int .i64 (row x 5)) ∧ w'.cell? ⟨gV, m * 6, none⟩ = some (.int .i64 (row y 0)) ∧ w'.cell? ⟨gV, m * 6 + 1, none⟩ = some (.int .i64 (row y 1)) ∧ w'.cell? ⟨gV, m * 6 + 2, none⟩ = some (.int .i64 (row y 2)) ∧ w'.cell? ⟨gV, m * 6 + 3, none⟩ = some (.int .i64 (row y 3)) ∧ w'.cell? ⟨gV, m * 6 + 4, none⟩ = some (.int .i64 (row y 4)) ∧ w'.cell? ⟨gV, m * 6 + 5, none⟩ = some (.int .i64 (row y 5))) (simp [*, World.cell?_alloc_some, World.cell?_setCell_far, Nat.ne_of_gt, Nat.ne_of_lt]) (first | (go_at_call 29; (try simp only [List.getElem?_cons_succ, List.getElem?_cons_zero, Option.getD_some]); (with_reducible refine (HLE.out _).mono ?_); rintro e v ⟨rfl, hb⟩; have y0 := (hb.cell (p := ⟨gV, k * 6, none⟩) hgVW).trans c0; have y1 := (hb.cell (p := ⟨gV, k * 6 + 1, none⟩) hgVW).trans c1; have y2 := (hb.cell (p := ⟨gV, k * 6 + 2, none⟩) hgVW).trans c2; have y3 := (hb.cell (p := ⟨gV, k * 6 + 3, none⟩) hgVW).trans c3; have y4 := (hb.cell (p := ⟨gV, k * 6 + 4, none⟩) hgVW).trans c4; have y5 := (hb.cell (p := ⟨gV, k * 6 + 5, none⟩) hgVW).trans c5; have z0 := (hb.cell (p := ⟨gV, m * 6, none⟩) hgVW).trans d0; have z1 := (hb.cell (p := ⟨gV, m * 6 + 1, none⟩) hgVW).trans d1; have z2 := (hb.cell (p := ⟨gV, m * 6 + 2, none⟩) hgVW).trans d2; have z3 := (hb.cell (p := ⟨gV, m * 6 + 3, none⟩) hgVW).trans d3; have z4 := (hb.cell (p := ⟨gV, m * 6 + 4, none⟩) hgVW).trans d4; have z5 := (hb.cell (p := ⟨gV, m * 6 + 5, none⟩) hgVW).trans d5))
                        all_goals
                          go_wp2_with fail
                          go_meet
                          exact ⟨rfl, rfl, (by repeat (first | with_reducible exact Below.refl _ _ | with_reducible assumption | with_reducible refine Below.drew ?_ | with_reducible refine below_drewN ?_ _ | with_reducible refine Below.alloc ?_ ?_ _ | with_reducible refine Below.setCell ?_ ?_ _ | with_reducible refine Below.trans ?_ (Below.mono (by assumption) ?_) | omega | (simp <;> omega)))⟩
                      case rest =>
                        obtain ⟨rfl, rfl, hb⟩ := hcut
                        clear c0 c1 c2 c3 c4 c5 d0 d1 d2 d3 d4 d5
                        have hSwc : HoldsA wc 26 gS a0 a1 a2 a3 a4 a5 := hSZ32.below hb hSZ32.lt
                        have eVwc : ReadsS wc (.slice (some ⟨gV, 0, none⟩) O.length cp4) O := readsS_mv eVZ32 hb
                        have hBwc : Below w.heap.size w wc := hBZ32.trans (hb.mono hBZ32.size)
                        clear hSZ32 eVZ32 hb hBZ32
                        go_wp2_with fail
                        go_roundw
                        case rel => exact ⟨k + 1, by omega, by go_num, hSwc, eVwc, hBwc⟩
                        case measure => simp [intOf]; omega
end Go.Proofs.YtgjgefbcfcomcaaGreatDoor
