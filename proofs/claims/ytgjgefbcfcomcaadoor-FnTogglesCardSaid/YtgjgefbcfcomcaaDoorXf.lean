/-
  The walk of the law FnToggles: whatever the code, it returns true. Under: the library's own table of the lowest bits lies as its initialiser lays it.
-/
import Derived.Test.YtgjgefbcfcomcaaDoorXc
import Derived.Test.YtgjgefbcfcomcaaDoorJG
import Derived.Deep.CutRange
namespace Go.Proofs.YtgjgefbcfcomcaaDoor
open Go.RowKit
set_option linter.unusedSimpArgs false
set_option linter.unusedVariables false
theorem OwnsS.drew {w : World} {B : Nat} {v : Value} {L : List Nat} (h : OwnsS w B v L) : OwnsS w.drew B v L := h
theorem OwnsS.drewN {w : World} {B : Nat} {v : Value} {L : List Nat} (h : OwnsS w B v L) (n : Nat) : OwnsS (w.drewN n) B v L := h
set_option maxRecDepth 100000 in
set_option maxHeartbeats 8000000 in
theorem lawFnToggles (cv : Value) (len : Nat) (w : World) (hcode : CodeB w w.heap.size cv len) (hz0 : TabZ w) : Calls Tryd.prog 12 #[cv] w fun e w' => e = .returned (.bool true) ∧ Below w.heap.size w w' := by
  have hzl := hz0.lt
  have HZ := Lib.hid hz0
  clear hz0
  have HC := Lib.hid hcode
  by_cases hbig : (65536 : Int) < (len : Int)
  · go_enter Tryd.func12, Tryd.ntmps12
    go_wp2_with (go_at_call 38; (with_reducible refine (rBig_any cv len _ hcode).mono ?_); rintro e w1 ⟨rfl, h⟩; subst w1; (try simp only [decide_eq_true hbig]))
    go_ret
    exact ⟨rfl, Below.refl _ _⟩
  have hlen : len ≤ 1000000 := by omega
  go_enter Tryd.func12, Tryd.ntmps12
  go_upto_region 4 with (first | (go_at_call 38; (with_reducible refine (rBig_any cv len _ hcode).mono ?_); rintro e w1 ⟨rfl, h⟩; subst w1; (try simp only [decide_eq_false hbig])) | (go_at_call 39; (with_reducible refine (DrawLeastPresses_any cv len hlen _ (HC.out.moved (by repeat (first | with_reducible exact Below.refl _ _ | with_reducible assumption | with_reducible refine Below.drew ?_ | with_reducible refine below_drewN ?_ _ | with_reducible refine Below.alloc ?_ ?_ _ | with_reducible refine Below.setCell ?_ ?_ _ | with_reducible refine Below.trans ?_ (Below.mono (by assumption) ?_) | omega | (simp <;> omega))))).mono ?_); rintro e v0 ⟨a0, a1, a2, a3, a4, a5, b0, b1, b2, b3, b4, b5, rfl, hb⟩))
  clear hcode
  have kB0 : Below w.heap.size w v0 := hb
  have kB1 := kB0.alloc kB0.size (.cells #[.int .i64 a0, .int .i64 a1, .int .i64 a2, .int .i64 a3, .int .i64 a4, .int .i64 a5] 27)
  have kB2 := kB1.alloc kB1.size (.cells #[.int .i64 b0, .int .i64 b1, .int .i64 b2, .int .i64 b3, .int .i64 b4, .int .i64 b5] 27)
  have hBXv0 : Below w.heap.size w ((v0.alloc (.cells #[.int .i64 a0, .int .i64 a1, .int .i64 a2, .int .i64 a3, .int .i64 a4, .int .i64 a5] 27)).alloc (.cells #[.int .i64 b0, .int .i64 b1, .int .i64 b2, .int .i64 b3, .int .i64 b4, .int .i64 b5] 27)) := kB2
  have hSXv0 : HoldsA ((v0.alloc (.cells #[.int .i64 a0, .int .i64 a1, .int .i64 a2, .int .i64 a3, .int .i64 a4, .int .i64 a5] 27)).alloc (.cells #[.int .i64 b0, .int .i64 b1, .int .i64 b2, .int .i64 b3, .int .i64 b4, .int .i64 b5] 27)) 27 (v0.heap.size) a0 a1 a2 a3 a4 a5 := (HoldsA.made _ _ _ _ _ _ _ _).alloc _
  have hTXv0 : HoldsA ((v0.alloc (.cells #[.int .i64 a0, .int .i64 a1, .int .i64 a2, .int .i64 a3, .int .i64 a4, .int .i64 a5] 27)).alloc (.cells #[.int .i64 b0, .int .i64 b1, .int .i64 b2, .int .i64 b3, .int .i64 b4, .int .i64 b5] 27)) 27 (v0.heap.size + 1) b0 b1 b2 b3 b4 b5 := HoldsA.made' (by simp)
  clear hb kB0 kB1 kB2
  generalize hE : ((v0.alloc (.cells #[.int .i64 a0, .int .i64 a1, .int .i64 a2, .int .i64 a3, .int .i64 a4, .int .i64 a5] 27)).alloc (.cells #[.int .i64 b0, .int .i64 b1, .int .i64 b2, .int .i64 b3, .int .i64 b4, .int .i64 b5] 27)) = Xv0 at *
  clear hE
  generalize hE : v0.heap.size = gS at *
  clear hE
  obtain ⟨l0, l1, l2, l3, l4, l5, f0, f1, f2, f3, f4, f5, sz, one, can, two, hiL, hsL, hiC, hsC, hiF, hsF, htwo, hok⟩ := toggles_uni a0 a1 a2 a3 a4 a5 b0 b1 b2 b3 b4 b5
  have HTW := Lib.hid htwo
  have HOK := Lib.hid hok
  clear htwo hok
  have HIL := Lib.hid hiL
  have HSL := Lib.hid hsL
  have HIC := Lib.hid hiC
  have HSC := Lib.hid hsC
  have HIF := Lib.hid hiF
  have HSF := Lib.hid hsF
  clear hiL hsL hiC hsC hiF hsF
  have cS0 := hSXv0.c0
  have cS1 := hSXv0.c1
  have cS2 := hSXv0.c2
  have cS3 := hSXv0.c3
  have cS4 := hSXv0.c4
  have cS5 := hSXv0.c5
  have cSf := hSXv0.free
  have cT0 := hTXv0.c0
  have cT1 := hTXv0.c1
  have cT2 := hTXv0.c2
  have cT3 := hTXv0.c3
  have cT4 := hTXv0.c4
  have cT5 := hTXv0.c5
  have cTf := hTXv0.free
  go_upto_region 5 with (go_at_call 33; (with_reducible refine (HIL.out _ (HZ.out.below hBXv0 hzl)).mono ?_); rintro e v1 ⟨rfl, hb⟩)
  clear cS0 cS1 cS2 cS3 cS4 cS5 cSf cT0 cT1 cT2 cT3 cT4 cT5 cTf
  have hSXv1 : HoldsA (v1.alloc (.cells #[.int .i64 l0, .int .i64 l1, .int .i64 l2, .int .i64 l3, .int .i64 l4, .int .i64 l5] 27)) 27 gS a0 a1 a2 a3 a4 a5 := ((hSXv0.below hb hSXv0.lt).alloc _)
  have hTXv1 : HoldsA (v1.alloc (.cells #[.int .i64 l0, .int .i64 l1, .int .i64 l2, .int .i64 l3, .int .i64 l4, .int .i64 l5] 27)) 27 (gS + 1) b0 b1 b2 b3 b4 b5 := ((hTXv0.below hb hTXv0.lt).alloc _)
  have kB0 : Below w.heap.size w v1 := hBXv0.trans (hb.mono hBXv0.size)
  have kB1 := kB0.alloc kB0.size (.cells #[.int .i64 l0, .int .i64 l1, .int .i64 l2, .int .i64 l3, .int .i64 l4, .int .i64 l5] 27)
  have hBXv1 : Below w.heap.size w (v1.alloc (.cells #[.int .i64 l0, .int .i64 l1, .int .i64 l2, .int .i64 l3, .int .i64 l4, .int .i64 l5] 27)) := kB1
  have hLXv1 : HoldsA (v1.alloc (.cells #[.int .i64 l0, .int .i64 l1, .int .i64 l2, .int .i64 l3, .int .i64 l4, .int .i64 l5] 27)) 27 (v1.heap.size) l0 l1 l2 l3 l4 l5 := HoldsA.made _ _ _ _ _ _ _ _
  clear hSXv0 hTXv0 hb hBXv0 kB0 kB1
  generalize hE : (v1.alloc (.cells #[.int .i64 l0, .int .i64 l1, .int .i64 l2, .int .i64 l3, .int .i64 l4, .int .i64 l5] 27)) = Xv1 at *
  clear hE
  generalize hE : v1.heap.size = gL at *
  clear hE
  have cS0 := hSXv1.c0
  have cS1 := hSXv1.c1
  have cS2 := hSXv1.c2
  have cS3 := hSXv1.c3
  have cS4 := hSXv1.c4
  have cS5 := hSXv1.c5
  have cSf := hSXv1.free
  have cT0 := hTXv1.c0
  have cT1 := hTXv1.c1
  have cT2 := hTXv1.c2
  have cT3 := hTXv1.c3
  have cT4 := hTXv1.c4
  have cT5 := hTXv1.c5
  have cTf := hTXv1.free
  go_upto_region 6 with (go_at_call 32; (with_reducible refine (HSL.out _).mono ?_); rintro e v2 ⟨rfl, hb⟩)
  clear cS0 cS1 cS2 cS3 cS4 cS5 cSf cT0 cT1 cT2 cT3 cT4 cT5 cTf
  have hSXv2 : HoldsA (v2.alloc (.cells #[.int .i64 l0, .int .i64 l1, .int .i64 l2, .int .i64 l3, .int .i64 l4, .int .i64 l5] 27)) 27 gS a0 a1 a2 a3 a4 a5 := ((hSXv1.below hb hSXv1.lt).alloc _)
  have hTXv2 : HoldsA (v2.alloc (.cells #[.int .i64 l0, .int .i64 l1, .int .i64 l2, .int .i64 l3, .int .i64 l4, .int .i64 l5] 27)) 27 (gS + 1) b0 b1 b2 b3 b4 b5 := ((hTXv1.below hb hTXv1.lt).alloc _)
  have hLXv2 : HoldsA (v2.alloc (.cells #[.int .i64 l0, .int .i64 l1, .int .i64 l2, .int .i64 l3, .int .i64 l4, .int .i64 l5] 27)) 27 gL l0 l1 l2 l3 l4 l5 := ((hLXv1.below hb hLXv1.lt).alloc _)
  have kB0 : Below w.heap.size w v2 := hBXv1.trans (hb.mono hBXv1.size)
  have kB1 := kB0.alloc kB0.size (.cells #[.int .i64 l0, .int .i64 l1, .int .i64 l2, .int .i64 l3, .int .i64 l4, .int .i64 l5] 27)
  have hBXv2 : Below w.heap.size w (v2.alloc (.cells #[.int .i64 l0, .int .i64 l1, .int .i64 l2, .int .i64 l3, .int .i64 l4, .int .i64 l5] 27)) := kB1
  have hMXv2 : HoldsA (v2.alloc (.cells #[.int .i64 l0, .int .i64 l1, .int .i64 l2, .int .i64 l3, .int .i64 l4, .int .i64 l5] 27)) 27 (v2.heap.size) l0 l1 l2 l3 l4 l5 := HoldsA.made _ _ _ _ _ _ _ _
  clear hSXv1 hTXv1 hLXv1 hb hBXv1 kB0 kB1
  generalize hE : (v2.alloc (.cells #[.int .i64 l0, .int .i64 l1, .int .i64 l2, .int .i64 l3, .int .i64 l4, .int .i64 l5] 27)) = Xv2 at *
  clear hE
  generalize hE : v2.heap.size = gM at *
  clear hE
  have cL0 := hLXv2.c0
  have cL1 := hLXv2.c1
  have cL2 := hLXv2.c2
  have cL3 := hLXv2.c3
  have cL4 := hLXv2.c4
  have cL5 := hLXv2.c5
  have cLf := hLXv2.free
  have cM0 := hMXv2.c0
  have cM1 := hMXv2.c1
  have cM2 := hMXv2.c2
  have cM3 := hMXv2.c3
  have cM4 := hMXv2.c4
  have cM5 := hMXv2.c5
  have cMf := hMXv2.free
  go_upto_region 8 with fail
  clear cL0 cL1 cL2 cL3 cL4 cL5 cLf cM0 cM1 cM2 cM3 cM4 cM5 cMf
  clear hMXv2
  have cS0 := hSXv2.c0
  have cS1 := hSXv2.c1
  have cS2 := hSXv2.c2
  have cS3 := hSXv2.c3
  have cS4 := hSXv2.c4
  have cS5 := hSXv2.c5
  have cSf := hSXv2.free
  have cT0 := hTXv2.c0
  have cT1 := hTXv2.c1
  have cT2 := hTXv2.c2
  have cT3 := hTXv2.c3
  have cT4 := hTXv2.c4
  have cT5 := hTXv2.c5
  have cTf := hTXv2.free
  go_upto_region 9 with (go_at_call 15; (with_reducible refine (HIC.out _ (HZ.out.below hBXv2 hzl)).mono ?_); rintro e v3 ⟨rfl, hb⟩)
  clear cS0 cS1 cS2 cS3 cS4 cS5 cSf cT0 cT1 cT2 cT3 cT4 cT5 cTf
  have hSv3 : HoldsA v3 27 gS a0 a1 a2 a3 a4 a5 := (hSXv2.below hb hSXv2.lt)
  have hTv3 : HoldsA v3 27 (gS + 1) b0 b1 b2 b3 b4 b5 := (hTXv2.below hb hTXv2.lt)
  have hLv3 : HoldsA v3 27 gL l0 l1 l2 l3 l4 l5 := (hLXv2.below hb hLXv2.lt)
  have kB0 : Below w.heap.size w v3 := hBXv2.trans (hb.mono hBXv2.size)
  have hBv3 : Below w.heap.size w v3 := kB0
  clear hSXv2 hTXv2 hLXv2 hb hBXv2 kB0
  have cS0 := hSv3.c0
  have cS1 := hSv3.c1
  have cS2 := hSv3.c2
  have cS3 := hSv3.c3
  have cS4 := hSv3.c4
  have cS5 := hSv3.c5
  have cSf := hSv3.free
  have cT0 := hTv3.c0
  have cT1 := hTv3.c1
  have cT2 := hTv3.c2
  have cT3 := hTv3.c3
  have cT4 := hTv3.c4
  have cT5 := hTv3.c5
  have cTf := hTv3.free
  go_upto_region 10 with (go_at_call 13; (with_reducible refine (HSC.out _).mono ?_); rintro e v4 ⟨rfl, hb⟩)
  clear cS0 cS1 cS2 cS3 cS4 cS5 cSf cT0 cT1 cT2 cT3 cT4 cT5 cTf
  have hSv4 : HoldsA v4 27 gS a0 a1 a2 a3 a4 a5 := (hSv3.below hb hSv3.lt)
  have hTv4 : HoldsA v4 27 (gS + 1) b0 b1 b2 b3 b4 b5 := (hTv3.below hb hTv3.lt)
  have hLv4 : HoldsA v4 27 gL l0 l1 l2 l3 l4 l5 := (hLv3.below hb hLv3.lt)
  have kB0 : Below w.heap.size w v4 := hBv3.trans (hb.mono hBv3.size)
  have hBv4 : Below w.heap.size w v4 := kB0
  clear hSv3 hTv3 hLv3 hb hBv3 kB0
  go_cut [100] from 85 to 100 (fun s100 wx => s100 = .bool false ∧ HoldsA wx 27 gS a0 a1 a2 a3 a4 a5 ∧ HoldsA wx 27 (gS + 1) b0 b1 b2 b3 b4 b5 ∧ HoldsA wx 27 gL l0 l1 l2 l3 l4 l5 ∧ Below w.heap.size w wx)
  case first =>
    (cases one <;> cases can) <;> (go_wp2_with fail; go_meet; exact ⟨rfl, hSv4, hTv4, hLv4, hBv4⟩)
  case rest =>
    clear hSv4 hTv4 hLv4 hBv4
    obtain ⟨rfl, hSZ5, hTZ5, hLZ5, hBZ5⟩ := hcut
    generalize hE : wc = Z5 at *
    clear hE wc
    go_upto_region 12 with fail
    have cS0 := hSZ5.c0
    have cS1 := hSZ5.c1
    have cS2 := hSZ5.c2
    have cS3 := hSZ5.c3
    have cS4 := hSZ5.c4
    have cS5 := hSZ5.c5
    have cSf := hSZ5.free
    have cT0 := hTZ5.c0
    have cT1 := hTZ5.c1
    have cT2 := hTZ5.c2
    have cT3 := hTZ5.c3
    have cT4 := hTZ5.c4
    have cT5 := hTZ5.c5
    have cTf := hTZ5.free
    go_upto_region 13 with (go_at_call 31; (with_reducible refine (HIF.out _ (HZ.out.below hBZ5 hzl)).mono ?_); rintro e v6 ⟨rfl, hb⟩)
    clear cS0 cS1 cS2 cS3 cS4 cS5 cSf cT0 cT1 cT2 cT3 cT4 cT5 cTf
    have hSXv6 : HoldsA (v6.alloc (.cells #[.int .i64 f0, .int .i64 f1, .int .i64 f2, .int .i64 f3, .int .i64 f4, .int .i64 f5] 27)) 27 gS a0 a1 a2 a3 a4 a5 := ((hSZ5.below hb hSZ5.lt).alloc _)
    have hTXv6 : HoldsA (v6.alloc (.cells #[.int .i64 f0, .int .i64 f1, .int .i64 f2, .int .i64 f3, .int .i64 f4, .int .i64 f5] 27)) 27 (gS + 1) b0 b1 b2 b3 b4 b5 := ((hTZ5.below hb hTZ5.lt).alloc _)
    have hLXv6 : HoldsA (v6.alloc (.cells #[.int .i64 f0, .int .i64 f1, .int .i64 f2, .int .i64 f3, .int .i64 f4, .int .i64 f5] 27)) 27 gL l0 l1 l2 l3 l4 l5 := ((hLZ5.below hb hLZ5.lt).alloc _)
    have kB0 : Below w.heap.size w v6 := hBZ5.trans (hb.mono hBZ5.size)
    have kB1 := kB0.alloc kB0.size (.cells #[.int .i64 f0, .int .i64 f1, .int .i64 f2, .int .i64 f3, .int .i64 f4, .int .i64 f5] 27)
    have hBXv6 : Below w.heap.size w (v6.alloc (.cells #[.int .i64 f0, .int .i64 f1, .int .i64 f2, .int .i64 f3, .int .i64 f4, .int .i64 f5] 27)) := kB1
    have hFXv6 : HoldsA (v6.alloc (.cells #[.int .i64 f0, .int .i64 f1, .int .i64 f2, .int .i64 f3, .int .i64 f4, .int .i64 f5] 27)) 27 (v6.heap.size) f0 f1 f2 f3 f4 f5 := HoldsA.made _ _ _ _ _ _ _ _
    clear hSZ5 hTZ5 hLZ5 hb hBZ5 kB0 kB1
    generalize hE : (v6.alloc (.cells #[.int .i64 f0, .int .i64 f1, .int .i64 f2, .int .i64 f3, .int .i64 f4, .int .i64 f5] 27)) = Xv6 at *
    clear hE
    generalize hE : v6.heap.size = gF at *
    clear hE
    have cS0 := hSXv6.c0
    have cS1 := hSXv6.c1
    have cS2 := hSXv6.c2
    have cS3 := hSXv6.c3
    have cS4 := hSXv6.c4
    have cS5 := hSXv6.c5
    have cSf := hSXv6.free
    have cT0 := hTXv6.c0
    have cT1 := hTXv6.c1
    have cT2 := hTXv6.c2
    have cT3 := hTXv6.c3
    have cT4 := hTXv6.c4
    have cT5 := hTXv6.c5
    have cTf := hTXv6.free
    go_upto_region 14 with (go_at_call 30; (with_reducible refine (HSF.out _).mono ?_); rintro e v7 ⟨rfl, hb⟩)
    clear cS0 cS1 cS2 cS3 cS4 cS5 cSf cT0 cT1 cT2 cT3 cT4 cT5 cTf
    have hSXv7 : HoldsA (v7.alloc (.cells #[.int .i64 f0, .int .i64 f1, .int .i64 f2, .int .i64 f3, .int .i64 f4, .int .i64 f5] 27)) 27 gS a0 a1 a2 a3 a4 a5 := ((hSXv6.below hb hSXv6.lt).alloc _)
    have hTXv7 : HoldsA (v7.alloc (.cells #[.int .i64 f0, .int .i64 f1, .int .i64 f2, .int .i64 f3, .int .i64 f4, .int .i64 f5] 27)) 27 (gS + 1) b0 b1 b2 b3 b4 b5 := ((hTXv6.below hb hTXv6.lt).alloc _)
    have hLXv7 : HoldsA (v7.alloc (.cells #[.int .i64 f0, .int .i64 f1, .int .i64 f2, .int .i64 f3, .int .i64 f4, .int .i64 f5] 27)) 27 gL l0 l1 l2 l3 l4 l5 := ((hLXv6.below hb hLXv6.lt).alloc _)
    have hFXv7 : HoldsA (v7.alloc (.cells #[.int .i64 f0, .int .i64 f1, .int .i64 f2, .int .i64 f3, .int .i64 f4, .int .i64 f5] 27)) 27 gF f0 f1 f2 f3 f4 f5 := ((hFXv6.below hb hFXv6.lt).alloc _)
    have kB0 : Below w.heap.size w v7 := hBXv6.trans (hb.mono hBXv6.size)
    have kB1 := kB0.alloc kB0.size (.cells #[.int .i64 f0, .int .i64 f1, .int .i64 f2, .int .i64 f3, .int .i64 f4, .int .i64 f5] 27)
    have hBXv7 : Below w.heap.size w (v7.alloc (.cells #[.int .i64 f0, .int .i64 f1, .int .i64 f2, .int .i64 f3, .int .i64 f4, .int .i64 f5] 27)) := kB1
    have hGXv7 : HoldsA (v7.alloc (.cells #[.int .i64 f0, .int .i64 f1, .int .i64 f2, .int .i64 f3, .int .i64 f4, .int .i64 f5] 27)) 27 (v7.heap.size) f0 f1 f2 f3 f4 f5 := HoldsA.made _ _ _ _ _ _ _ _
    clear hSXv6 hTXv6 hLXv6 hFXv6 hb hBXv6 kB0 kB1
    generalize hE : (v7.alloc (.cells #[.int .i64 f0, .int .i64 f1, .int .i64 f2, .int .i64 f3, .int .i64 f4, .int .i64 f5] 27)) = Xv7 at *
    clear hE
    generalize hE : v7.heap.size = gG at *
    clear hE
    go_cut [134] from 115 to 134 (fun s134 wx => s134 = .bool false ∧ HoldsA wx 27 gS a0 a1 a2 a3 a4 a5 ∧ HoldsA wx 27 (gS + 1) b0 b1 b2 b3 b4 b5 ∧ HoldsA wx 27 gL l0 l1 l2 l3 l4 l5 ∧ HoldsA wx 27 gF f0 f1 f2 f3 f4 f5 ∧ HoldsA wx 27 gG f0 f1 f2 f3 f4 f5 ∧ Below w.heap.size w wx)
    case first =>
      have cF0 := hFXv7.c0
      have cF1 := hFXv7.c1
      have cF2 := hFXv7.c2
      have cF3 := hFXv7.c3
      have cF4 := hFXv7.c4
      have cF5 := hFXv7.c5
      have cFf := hFXv7.free
      have cG0 := hGXv7.c0
      have cG1 := hGXv7.c1
      have cG2 := hGXv7.c2
      have cG3 := hGXv7.c3
      have cG4 := hGXv7.c4
      have cG5 := hGXv7.c5
      have cGf := hGXv7.free
      cases two with
      | false => (cases one <;> cases can) <;> (go_wp2_with fail; go_meet; exact ⟨rfl, hSXv7, hTXv7, hLXv7, hFXv7, hGXv7, hBXv7⟩)
      | true =>
        have ho := (HTW.out rfl).1
        (cases one <;> cases can) <;> first | (exact absurd ho (by decide)) | (go_wp2_with fail; go_meet; exact ⟨rfl, hSXv7, hTXv7, hLXv7, hFXv7, hGXv7, hBXv7⟩)
    case rest =>
      clear hSXv7 hTXv7 hLXv7 hFXv7 hGXv7 hBXv7
      obtain ⟨rfl, hSZ8, hTZ8, hLZ8, hFZ8, hGZ8, hBZ8⟩ := hcut
      generalize hE : wc = Z8 at *
      clear hE wc
      go_upto_region 16 with fail
      clear hGZ8
      go_upto_region 17 with (go_at_call 40; (with_reducible refine (DrawPrintOf_any cv len hlen _ (HC.out.moved hBZ8)).mono ?_); rintro e v9 ⟨s0, s1, s2, s3, s4, s5, p0, p1, p2, p3, p4, p5, rfl, hb⟩)
      have hSXv9 : HoldsA ((v9.alloc (.cells #[.int .i64 s0, .int .i64 s1, .int .i64 s2, .int .i64 s3, .int .i64 s4, .int .i64 s5] 27)).alloc (.cells #[.int .i64 p0, .int .i64 p1, .int .i64 p2, .int .i64 p3, .int .i64 p4, .int .i64 p5] 27)) 27 gS a0 a1 a2 a3 a4 a5 := (((hSZ8.below hb hSZ8.lt).alloc _).alloc _)
      have hTXv9 : HoldsA ((v9.alloc (.cells #[.int .i64 s0, .int .i64 s1, .int .i64 s2, .int .i64 s3, .int .i64 s4, .int .i64 s5] 27)).alloc (.cells #[.int .i64 p0, .int .i64 p1, .int .i64 p2, .int .i64 p3, .int .i64 p4, .int .i64 p5] 27)) 27 (gS + 1) b0 b1 b2 b3 b4 b5 := (((hTZ8.below hb hTZ8.lt).alloc _).alloc _)
      have hLXv9 : HoldsA ((v9.alloc (.cells #[.int .i64 s0, .int .i64 s1, .int .i64 s2, .int .i64 s3, .int .i64 s4, .int .i64 s5] 27)).alloc (.cells #[.int .i64 p0, .int .i64 p1, .int .i64 p2, .int .i64 p3, .int .i64 p4, .int .i64 p5] 27)) 27 gL l0 l1 l2 l3 l4 l5 := (((hLZ8.below hb hLZ8.lt).alloc _).alloc _)
      have hFXv9 : HoldsA ((v9.alloc (.cells #[.int .i64 s0, .int .i64 s1, .int .i64 s2, .int .i64 s3, .int .i64 s4, .int .i64 s5] 27)).alloc (.cells #[.int .i64 p0, .int .i64 p1, .int .i64 p2, .int .i64 p3, .int .i64 p4, .int .i64 p5] 27)) 27 gF f0 f1 f2 f3 f4 f5 := (((hFZ8.below hb hFZ8.lt).alloc _).alloc _)
      have kB0 : Below w.heap.size w v9 := hBZ8.trans (hb.mono hBZ8.size)
      have kB1 := kB0.alloc kB0.size (.cells #[.int .i64 s0, .int .i64 s1, .int .i64 s2, .int .i64 s3, .int .i64 s4, .int .i64 s5] 27)
      have kB2 := kB1.alloc kB1.size (.cells #[.int .i64 p0, .int .i64 p1, .int .i64 p2, .int .i64 p3, .int .i64 p4, .int .i64 p5] 27)
      have hBXv9 : Below w.heap.size w ((v9.alloc (.cells #[.int .i64 s0, .int .i64 s1, .int .i64 s2, .int .i64 s3, .int .i64 s4, .int .i64 s5] 27)).alloc (.cells #[.int .i64 p0, .int .i64 p1, .int .i64 p2, .int .i64 p3, .int .i64 p4, .int .i64 p5] 27)) := kB2
      have hPXv9 : HoldsA ((v9.alloc (.cells #[.int .i64 s0, .int .i64 s1, .int .i64 s2, .int .i64 s3, .int .i64 s4, .int .i64 s5] 27)).alloc (.cells #[.int .i64 p0, .int .i64 p1, .int .i64 p2, .int .i64 p3, .int .i64 p4, .int .i64 p5] 27)) 27 (v9.heap.size) s0 s1 s2 s3 s4 s5 := (HoldsA.made _ _ _ _ _ _ _ _).alloc _
      have hQXv9 : HoldsA ((v9.alloc (.cells #[.int .i64 s0, .int .i64 s1, .int .i64 s2, .int .i64 s3, .int .i64 s4, .int .i64 s5] 27)).alloc (.cells #[.int .i64 p0, .int .i64 p1, .int .i64 p2, .int .i64 p3, .int .i64 p4, .int .i64 p5] 27)) 27 (v9.heap.size + 1) p0 p1 p2 p3 p4 p5 := HoldsA.made' (by simp)
      clear hSZ8 hTZ8 hLZ8 hFZ8 hb hBZ8 kB0 kB1 kB2
      generalize hE : ((v9.alloc (.cells #[.int .i64 s0, .int .i64 s1, .int .i64 s2, .int .i64 s3, .int .i64 s4, .int .i64 s5] 27)).alloc (.cells #[.int .i64 p0, .int .i64 p1, .int .i64 p2, .int .i64 p3, .int .i64 p4, .int .i64 p5] 27)) = Xv9 at *
      clear hE
      generalize hE : v9.heap.size = gP at *
      clear hE
      obtain ⟨r0, r1, r2, r3, r4, r5, three, hip, hsp, hth⟩ := print_uni s0 s1 s2 s3 s4 s5 p0 p1 p2 p3 p4 p5
      have HIP := Lib.hid hip
      have HSP := Lib.hid hsp
      have HTH := Lib.hid hth
      clear hip hsp hth
      have cP0 := hPXv9.c0
      have cP1 := hPXv9.c1
      have cP2 := hPXv9.c2
      have cP3 := hPXv9.c3
      have cP4 := hPXv9.c4
      have cP5 := hPXv9.c5
      have cPf := hPXv9.free
      have cQ0 := hQXv9.c0
      have cQ1 := hQXv9.c1
      have cQ2 := hQXv9.c2
      have cQ3 := hQXv9.c3
      have cQ4 := hQXv9.c4
      have cQ5 := hQXv9.c5
      have cQf := hQXv9.free
      go_upto_region 18 with (go_at_call 41; (with_reducible refine (HIP.out _).mono ?_); rintro e v10 ⟨rfl, hb⟩)
      clear cP0 cP1 cP2 cP3 cP4 cP5 cPf cQ0 cQ1 cQ2 cQ3 cQ4 cQ5 cQf
      have hSXv10 : HoldsA (v10.alloc (.cells #[.int .i64 r0, .int .i64 r1, .int .i64 r2, .int .i64 r3, .int .i64 r4, .int .i64 r5] 27)) 27 gS a0 a1 a2 a3 a4 a5 := ((hSXv9.below hb hSXv9.lt).alloc _)
      have hTXv10 : HoldsA (v10.alloc (.cells #[.int .i64 r0, .int .i64 r1, .int .i64 r2, .int .i64 r3, .int .i64 r4, .int .i64 r5] 27)) 27 (gS + 1) b0 b1 b2 b3 b4 b5 := ((hTXv9.below hb hTXv9.lt).alloc _)
      have hLXv10 : HoldsA (v10.alloc (.cells #[.int .i64 r0, .int .i64 r1, .int .i64 r2, .int .i64 r3, .int .i64 r4, .int .i64 r5] 27)) 27 gL l0 l1 l2 l3 l4 l5 := ((hLXv9.below hb hLXv9.lt).alloc _)
      have hFXv10 : HoldsA (v10.alloc (.cells #[.int .i64 r0, .int .i64 r1, .int .i64 r2, .int .i64 r3, .int .i64 r4, .int .i64 r5] 27)) 27 gF f0 f1 f2 f3 f4 f5 := ((hFXv9.below hb hFXv9.lt).alloc _)
      have hPXv10 : HoldsA (v10.alloc (.cells #[.int .i64 r0, .int .i64 r1, .int .i64 r2, .int .i64 r3, .int .i64 r4, .int .i64 r5] 27)) 27 gP s0 s1 s2 s3 s4 s5 := ((hPXv9.below hb hPXv9.lt).alloc _)
      have hQXv10 : HoldsA (v10.alloc (.cells #[.int .i64 r0, .int .i64 r1, .int .i64 r2, .int .i64 r3, .int .i64 r4, .int .i64 r5] 27)) 27 (gP + 1) p0 p1 p2 p3 p4 p5 := ((hQXv9.below hb hQXv9.lt).alloc _)
      have kB0 : Below w.heap.size w v10 := hBXv9.trans (hb.mono hBXv9.size)
      have kB1 := kB0.alloc kB0.size (.cells #[.int .i64 r0, .int .i64 r1, .int .i64 r2, .int .i64 r3, .int .i64 r4, .int .i64 r5] 27)
      have hBXv10 : Below w.heap.size w (v10.alloc (.cells #[.int .i64 r0, .int .i64 r1, .int .i64 r2, .int .i64 r3, .int .i64 r4, .int .i64 r5] 27)) := kB1
      have hRXv10 : HoldsA (v10.alloc (.cells #[.int .i64 r0, .int .i64 r1, .int .i64 r2, .int .i64 r3, .int .i64 r4, .int .i64 r5] 27)) 27 (v10.heap.size) r0 r1 r2 r3 r4 r5 := HoldsA.made _ _ _ _ _ _ _ _
      clear hSXv9 hTXv9 hLXv9 hFXv9 hPXv9 hQXv9 hb hBXv9 kB0 kB1
      generalize hE : (v10.alloc (.cells #[.int .i64 r0, .int .i64 r1, .int .i64 r2, .int .i64 r3, .int .i64 r4, .int .i64 r5] 27)) = Xv10 at *
      clear hE
      generalize hE : v10.heap.size = gR at *
      clear hE
      have cP0 := hPXv10.c0
      have cP1 := hPXv10.c1
      have cP2 := hPXv10.c2
      have cP3 := hPXv10.c3
      have cP4 := hPXv10.c4
      have cP5 := hPXv10.c5
      have cPf := hPXv10.free
      have cQ0 := hQXv10.c0
      have cQ1 := hQXv10.c1
      have cQ2 := hQXv10.c2
      have cQ3 := hQXv10.c3
      have cQ4 := hQXv10.c4
      have cQ5 := hQXv10.c5
      have cQf := hQXv10.free
      go_upto_region 19 with (go_at_call 42; (with_reducible refine (HSP.out _).mono ?_); rintro e v11 ⟨rfl, hb⟩)
      clear cP0 cP1 cP2 cP3 cP4 cP5 cPf cQ0 cQ1 cQ2 cQ3 cQ4 cQ5 cQf
      have hSXv11 : HoldsA (v11.alloc (.cells #[.int .i64 r0, .int .i64 r1, .int .i64 r2, .int .i64 r3, .int .i64 r4, .int .i64 r5] 27)) 27 gS a0 a1 a2 a3 a4 a5 := ((hSXv10.below hb hSXv10.lt).alloc _)
      have hTXv11 : HoldsA (v11.alloc (.cells #[.int .i64 r0, .int .i64 r1, .int .i64 r2, .int .i64 r3, .int .i64 r4, .int .i64 r5] 27)) 27 (gS + 1) b0 b1 b2 b3 b4 b5 := ((hTXv10.below hb hTXv10.lt).alloc _)
      have hLXv11 : HoldsA (v11.alloc (.cells #[.int .i64 r0, .int .i64 r1, .int .i64 r2, .int .i64 r3, .int .i64 r4, .int .i64 r5] 27)) 27 gL l0 l1 l2 l3 l4 l5 := ((hLXv10.below hb hLXv10.lt).alloc _)
      have hFXv11 : HoldsA (v11.alloc (.cells #[.int .i64 r0, .int .i64 r1, .int .i64 r2, .int .i64 r3, .int .i64 r4, .int .i64 r5] 27)) 27 gF f0 f1 f2 f3 f4 f5 := ((hFXv10.below hb hFXv10.lt).alloc _)
      have hPXv11 : HoldsA (v11.alloc (.cells #[.int .i64 r0, .int .i64 r1, .int .i64 r2, .int .i64 r3, .int .i64 r4, .int .i64 r5] 27)) 27 gP s0 s1 s2 s3 s4 s5 := ((hPXv10.below hb hPXv10.lt).alloc _)
      have hQXv11 : HoldsA (v11.alloc (.cells #[.int .i64 r0, .int .i64 r1, .int .i64 r2, .int .i64 r3, .int .i64 r4, .int .i64 r5] 27)) 27 (gP + 1) p0 p1 p2 p3 p4 p5 := ((hQXv10.below hb hQXv10.lt).alloc _)
      have hRXv11 : HoldsA (v11.alloc (.cells #[.int .i64 r0, .int .i64 r1, .int .i64 r2, .int .i64 r3, .int .i64 r4, .int .i64 r5] 27)) 27 gR r0 r1 r2 r3 r4 r5 := ((hRXv10.below hb hRXv10.lt).alloc _)
      have kB0 : Below w.heap.size w v11 := hBXv10.trans (hb.mono hBXv10.size)
      have kB1 := kB0.alloc kB0.size (.cells #[.int .i64 r0, .int .i64 r1, .int .i64 r2, .int .i64 r3, .int .i64 r4, .int .i64 r5] 27)
      have hBXv11 : Below w.heap.size w (v11.alloc (.cells #[.int .i64 r0, .int .i64 r1, .int .i64 r2, .int .i64 r3, .int .i64 r4, .int .i64 r5] 27)) := kB1
      have hUXv11 : HoldsA (v11.alloc (.cells #[.int .i64 r0, .int .i64 r1, .int .i64 r2, .int .i64 r3, .int .i64 r4, .int .i64 r5] 27)) 27 (v11.heap.size) r0 r1 r2 r3 r4 r5 := HoldsA.made _ _ _ _ _ _ _ _
      clear hSXv10 hTXv10 hLXv10 hFXv10 hPXv10 hQXv10 hRXv10 hb hBXv10 kB0 kB1
      generalize hE : (v11.alloc (.cells #[.int .i64 r0, .int .i64 r1, .int .i64 r2, .int .i64 r3, .int .i64 r4, .int .i64 r5] 27)) = Xv11 at *
      clear hE
      generalize hE : v11.heap.size = gU at *
      clear hE
      have cR0 := hRXv11.c0
      have cR1 := hRXv11.c1
      have cR2 := hRXv11.c2
      have cR3 := hRXv11.c3
      have cR4 := hRXv11.c4
      have cR5 := hRXv11.c5
      have cRf := hRXv11.free
      have cU0 := hUXv11.c0
      have cU1 := hUXv11.c1
      have cU2 := hUXv11.c2
      have cU3 := hUXv11.c3
      have cU4 := hUXv11.c4
      have cU5 := hUXv11.c5
      have cUf := hUXv11.free
      go_upto_if 160 with fail
      clear cR0 cR1 cR2 cR3 cR4 cR5 cRf cU0 cU1 cU2 cU3 cU4 cU5 cUf
      go_cut [25, 26, 27, 28] from 161 to 187 (fun s25 s26 s27 s28 wx => HoldsA wx 27 gS a0 a1 a2 a3 a4 a5 ∧ HoldsA wx 27 (gS + 1) b0 b1 b2 b3 b4 b5 ∧ HoldsA wx 27 gL l0 l1 l2 l3 l4 l5 ∧ HoldsA wx 27 gF f0 f1 f2 f3 f4 f5 ∧ Below w.heap.size w wx)
      case first =>
        cases three with
        | false => (go_wp2_with fail; go_meet; exact ⟨hSXv11, hTXv11, hLXv11, hFXv11, hBXv11⟩)
        | true =>
          obtain ⟨hpr, hca⟩ := HTH.out rfl
          have HPR := Lib.hid hpr
          have HCA := Lib.hid hca
          clear hpr hca
          go_upto_region 22 with fail
          have cQ0 := hQXv11.c0
          have cQ1 := hQXv11.c1
          have cQ2 := hQXv11.c2
          have cQ3 := hQXv11.c3
          have cQ4 := hQXv11.c4
          have cQ5 := hQXv11.c5
          have cQf := hQXv11.free
          have cP0 := hPXv11.c0
          have cP1 := hPXv11.c1
          have cP2 := hPXv11.c2
          have cP3 := hPXv11.c3
          have cP4 := hPXv11.c4
          have cP5 := hPXv11.c5
          have cPf := hPXv11.free
          go_upto_region 23 with (go_at_call 41; (with_reducible refine (HPR.out _).mono ?_); rintro e v13 ⟨rfl, hb⟩)
          clear cQ0 cQ1 cQ2 cQ3 cQ4 cQ5 cQf cP0 cP1 cP2 cP3 cP4 cP5 cPf
          have hSXv13 : HoldsA (v13.alloc (.cells #[.int .i64 r0, .int .i64 r1, .int .i64 r2, .int .i64 r3, .int .i64 r4, .int .i64 r5] 27)) 27 gS a0 a1 a2 a3 a4 a5 := ((hSXv11.below hb hSXv11.lt).alloc _)
          have hTXv13 : HoldsA (v13.alloc (.cells #[.int .i64 r0, .int .i64 r1, .int .i64 r2, .int .i64 r3, .int .i64 r4, .int .i64 r5] 27)) 27 (gS + 1) b0 b1 b2 b3 b4 b5 := ((hTXv11.below hb hTXv11.lt).alloc _)
          have hLXv13 : HoldsA (v13.alloc (.cells #[.int .i64 r0, .int .i64 r1, .int .i64 r2, .int .i64 r3, .int .i64 r4, .int .i64 r5] 27)) 27 gL l0 l1 l2 l3 l4 l5 := ((hLXv11.below hb hLXv11.lt).alloc _)
          have hFXv13 : HoldsA (v13.alloc (.cells #[.int .i64 r0, .int .i64 r1, .int .i64 r2, .int .i64 r3, .int .i64 r4, .int .i64 r5] 27)) 27 gF f0 f1 f2 f3 f4 f5 := ((hFXv11.below hb hFXv11.lt).alloc _)
          have hPXv13 : HoldsA (v13.alloc (.cells #[.int .i64 r0, .int .i64 r1, .int .i64 r2, .int .i64 r3, .int .i64 r4, .int .i64 r5] 27)) 27 gP s0 s1 s2 s3 s4 s5 := ((hPXv11.below hb hPXv11.lt).alloc _)
          have hQXv13 : HoldsA (v13.alloc (.cells #[.int .i64 r0, .int .i64 r1, .int .i64 r2, .int .i64 r3, .int .i64 r4, .int .i64 r5] 27)) 27 (gP + 1) p0 p1 p2 p3 p4 p5 := ((hQXv11.below hb hQXv11.lt).alloc _)
          have hRXv13 : HoldsA (v13.alloc (.cells #[.int .i64 r0, .int .i64 r1, .int .i64 r2, .int .i64 r3, .int .i64 r4, .int .i64 r5] 27)) 27 gR r0 r1 r2 r3 r4 r5 := ((hRXv11.below hb hRXv11.lt).alloc _)
          have hUXv13 : HoldsA (v13.alloc (.cells #[.int .i64 r0, .int .i64 r1, .int .i64 r2, .int .i64 r3, .int .i64 r4, .int .i64 r5] 27)) 27 gU r0 r1 r2 r3 r4 r5 := ((hUXv11.below hb hUXv11.lt).alloc _)
          have kB0 : Below w.heap.size w v13 := hBXv11.trans (hb.mono hBXv11.size)
          have kB1 := kB0.alloc kB0.size (.cells #[.int .i64 r0, .int .i64 r1, .int .i64 r2, .int .i64 r3, .int .i64 r4, .int .i64 r5] 27)
          have hBXv13 : Below w.heap.size w (v13.alloc (.cells #[.int .i64 r0, .int .i64 r1, .int .i64 r2, .int .i64 r3, .int .i64 r4, .int .i64 r5] 27)) := kB1
          have hVXv13 : HoldsA (v13.alloc (.cells #[.int .i64 r0, .int .i64 r1, .int .i64 r2, .int .i64 r3, .int .i64 r4, .int .i64 r5] 27)) 27 (v13.heap.size) r0 r1 r2 r3 r4 r5 := HoldsA.made _ _ _ _ _ _ _ _
          clear hSXv11 hTXv11 hLXv11 hFXv11 hPXv11 hQXv11 hRXv11 hUXv11 hb hBXv11 kB0 kB1
          generalize hE : (v13.alloc (.cells #[.int .i64 r0, .int .i64 r1, .int .i64 r2, .int .i64 r3, .int .i64 r4, .int .i64 r5] 27)) = Xv13 at *
          clear hE
          generalize hE : v13.heap.size = gV at *
          clear hE
          have cP0 := hPXv13.c0
          have cP1 := hPXv13.c1
          have cP2 := hPXv13.c2
          have cP3 := hPXv13.c3
          have cP4 := hPXv13.c4
          have cP5 := hPXv13.c5
          have cPf := hPXv13.free
          have cR0 := hRXv13.c0
          have cR1 := hRXv13.c1
          have cR2 := hRXv13.c2
          have cR3 := hRXv13.c3
          have cR4 := hRXv13.c4
          have cR5 := hRXv13.c5
          have cRf := hRXv13.free
          go_upto_region 24 with (go_at_call 15; (with_reducible refine (HCA.out _ (HZ.out.below hBXv13 hzl)).mono ?_); rintro e v14 ⟨rfl, hb⟩)
          clear cP0 cP1 cP2 cP3 cP4 cP5 cPf cR0 cR1 cR2 cR3 cR4 cR5 cRf
          have hSv14 : HoldsA v14 27 gS a0 a1 a2 a3 a4 a5 := (hSXv13.below hb hSXv13.lt)
          have hTv14 : HoldsA v14 27 (gS + 1) b0 b1 b2 b3 b4 b5 := (hTXv13.below hb hTXv13.lt)
          have hLv14 : HoldsA v14 27 gL l0 l1 l2 l3 l4 l5 := (hLXv13.below hb hLXv13.lt)
          have hFv14 : HoldsA v14 27 gF f0 f1 f2 f3 f4 f5 := (hFXv13.below hb hFXv13.lt)
          have hPv14 : HoldsA v14 27 gP s0 s1 s2 s3 s4 s5 := (hPXv13.below hb hPXv13.lt)
          have hQv14 : HoldsA v14 27 (gP + 1) p0 p1 p2 p3 p4 p5 := (hQXv13.below hb hQXv13.lt)
          have hRv14 : HoldsA v14 27 gR r0 r1 r2 r3 r4 r5 := (hRXv13.below hb hRXv13.lt)
          have hUv14 : HoldsA v14 27 gU r0 r1 r2 r3 r4 r5 := (hUXv13.below hb hUXv13.lt)
          have hVv14 : HoldsA v14 27 gV r0 r1 r2 r3 r4 r5 := (hVXv13.below hb hVXv13.lt)
          have kB0 : Below w.heap.size w v14 := hBXv13.trans (hb.mono hBXv13.size)
          have hBv14 : Below w.heap.size w v14 := kB0
          clear hSXv13 hTXv13 hLXv13 hFXv13 hPXv13 hQXv13 hRXv13 hUXv13 hVXv13 hb hBXv13 kB0
          have cV0 := hVv14.c0
          have cV1 := hVv14.c1
          have cV2 := hVv14.c2
          have cV3 := hVv14.c3
          have cV4 := hVv14.c4
          have cV5 := hVv14.c5
          have cVf := hVv14.free
          have cR0 := hRv14.c0
          have cR1 := hRv14.c1
          have cR2 := hRv14.c2
          have cR3 := hRv14.c3
          have cR4 := hRv14.c4
          have cR5 := hRv14.c5
          have cRf := hRv14.free
          (go_wp2_with fail; go_meet; exact ⟨hSv14, hTv14, hLv14, hFv14, hBv14⟩)
      case rest =>
        clear hSXv11 hTXv11 hLXv11 hFXv11 hBXv11
        obtain ⟨hSZ12, hTZ12, hLZ12, hFZ12, hBZ12⟩ := hcut
        generalize hE : wc = Z12 at *
        clear hE wc
        go_upto_if 188 with fail
        go_cut [29, 30, 31, 32, 33, 34] from 189 to 229 (fun s29 s30 s31 s32 s33 s34 wx => HoldsA wx 27 gS a0 a1 a2 a3 a4 a5 ∧ HoldsA wx 27 (gS + 1) b0 b1 b2 b3 b4 b5 ∧ HoldsA wx 27 gL l0 l1 l2 l3 l4 l5 ∧ HoldsA wx 27 gF f0 f1 f2 f3 f4 f5 ∧ Below w.heap.size w wx)
        case first =>
          cases two with
          | false => (go_wp2_with fail; go_meet; exact ⟨hSZ12, hTZ12, hLZ12, hFZ12, hBZ12⟩)
          | true =>
            obtain ⟨ho, hpf, hsf, most, hsl, hle⟩ := HTW.out rfl
            have HPF := Lib.hid hpf
            have HSF := Lib.hid hsf
            have HSL := Lib.hid hsl
            clear ho hpf hsf hsl
            go_upto_region 27 with fail
            have cS0 := hSZ12.c0
            have cS1 := hSZ12.c1
            have cS2 := hSZ12.c2
            have cS3 := hSZ12.c3
            have cS4 := hSZ12.c4
            have cS5 := hSZ12.c5
            have cSf := hSZ12.free
            have cF0 := hFZ12.c0
            have cF1 := hFZ12.c1
            have cF2 := hFZ12.c2
            have cF3 := hFZ12.c3
            have cF4 := hFZ12.c4
            have cF5 := hFZ12.c5
            have cFf := hFZ12.free
            go_upto_region 28 with (go_at_call 41; (with_reducible refine (HPF.out _).mono ?_); rintro e v16 ⟨rfl, hb⟩)
            clear cS0 cS1 cS2 cS3 cS4 cS5 cSf cF0 cF1 cF2 cF3 cF4 cF5 cFf
            have hSXv16 : HoldsA (v16.alloc (.cells #[.int .i64 b0, .int .i64 b1, .int .i64 b2, .int .i64 b3, .int .i64 b4, .int .i64 b5] 27)) 27 gS a0 a1 a2 a3 a4 a5 := ((hSZ12.below hb hSZ12.lt).alloc _)
            have hTXv16 : HoldsA (v16.alloc (.cells #[.int .i64 b0, .int .i64 b1, .int .i64 b2, .int .i64 b3, .int .i64 b4, .int .i64 b5] 27)) 27 (gS + 1) b0 b1 b2 b3 b4 b5 := ((hTZ12.below hb hTZ12.lt).alloc _)
            have hLXv16 : HoldsA (v16.alloc (.cells #[.int .i64 b0, .int .i64 b1, .int .i64 b2, .int .i64 b3, .int .i64 b4, .int .i64 b5] 27)) 27 gL l0 l1 l2 l3 l4 l5 := ((hLZ12.below hb hLZ12.lt).alloc _)
            have hFXv16 : HoldsA (v16.alloc (.cells #[.int .i64 b0, .int .i64 b1, .int .i64 b2, .int .i64 b3, .int .i64 b4, .int .i64 b5] 27)) 27 gF f0 f1 f2 f3 f4 f5 := ((hFZ12.below hb hFZ12.lt).alloc _)
            have kB0 : Below w.heap.size w v16 := hBZ12.trans (hb.mono hBZ12.size)
            have kB1 := kB0.alloc kB0.size (.cells #[.int .i64 b0, .int .i64 b1, .int .i64 b2, .int .i64 b3, .int .i64 b4, .int .i64 b5] 27)
            have hBXv16 : Below w.heap.size w (v16.alloc (.cells #[.int .i64 b0, .int .i64 b1, .int .i64 b2, .int .i64 b3, .int .i64 b4, .int .i64 b5] 27)) := kB1
            have hAXv16 : HoldsA (v16.alloc (.cells #[.int .i64 b0, .int .i64 b1, .int .i64 b2, .int .i64 b3, .int .i64 b4, .int .i64 b5] 27)) 27 (v16.heap.size) b0 b1 b2 b3 b4 b5 := HoldsA.made _ _ _ _ _ _ _ _
            clear hSZ12 hTZ12 hLZ12 hFZ12 hb hBZ12 kB0 kB1
            generalize hE : (v16.alloc (.cells #[.int .i64 b0, .int .i64 b1, .int .i64 b2, .int .i64 b3, .int .i64 b4, .int .i64 b5] 27)) = Xv16 at *
            clear hE
            generalize hE : v16.heap.size = gA at *
            clear hE
            have cF0 := hFXv16.c0
            have cF1 := hFXv16.c1
            have cF2 := hFXv16.c2
            have cF3 := hFXv16.c3
            have cF4 := hFXv16.c4
            have cF5 := hFXv16.c5
            have cFf := hFXv16.free
            go_upto_region 29 with (go_at_call 43; (with_reducible refine (HSF.out _).mono ?_); rintro e v17 ⟨rfl, hb⟩)
            clear cF0 cF1 cF2 cF3 cF4 cF5 cFf
            have hSv17 : HoldsA v17 27 gS a0 a1 a2 a3 a4 a5 := (hSXv16.below hb hSXv16.lt)
            have hTv17 : HoldsA v17 27 (gS + 1) b0 b1 b2 b3 b4 b5 := (hTXv16.below hb hTXv16.lt)
            have hLv17 : HoldsA v17 27 gL l0 l1 l2 l3 l4 l5 := (hLXv16.below hb hLXv16.lt)
            have hFv17 : HoldsA v17 27 gF f0 f1 f2 f3 f4 f5 := (hFXv16.below hb hFXv16.lt)
            have hAv17 : HoldsA v17 27 gA b0 b1 b2 b3 b4 b5 := (hAXv16.below hb hAXv16.lt)
            have kB0 : Below w.heap.size w v17 := hBXv16.trans (hb.mono hBXv16.size)
            have hBv17 : Below w.heap.size w v17 := kB0
            clear hSXv16 hTXv16 hLXv16 hFXv16 hAXv16 hb hBXv16 kB0
            have cL0 := hLv17.c0
            have cL1 := hLv17.c1
            have cL2 := hLv17.c2
            have cL3 := hLv17.c3
            have cL4 := hLv17.c4
            have cL5 := hLv17.c5
            have cLf := hLv17.free
            go_upto_region 30 with (go_at_call 43; (with_reducible refine (HSL.out _).mono ?_); rintro e v18 ⟨rfl, hb⟩)
            clear cL0 cL1 cL2 cL3 cL4 cL5 cLf
            have hSv18 : HoldsA v18 27 gS a0 a1 a2 a3 a4 a5 := (hSv17.below hb hSv17.lt)
            have hTv18 : HoldsA v18 27 (gS + 1) b0 b1 b2 b3 b4 b5 := (hTv17.below hb hTv17.lt)
            have hLv18 : HoldsA v18 27 gL l0 l1 l2 l3 l4 l5 := (hLv17.below hb hLv17.lt)
            have hFv18 : HoldsA v18 27 gF f0 f1 f2 f3 f4 f5 := (hFv17.below hb hFv17.lt)
            have hAv18 : HoldsA v18 27 gA b0 b1 b2 b3 b4 b5 := (hAv17.below hb hAv17.lt)
            have kB0 : Below w.heap.size w v18 := hBv17.trans (hb.mono hBv17.size)
            have hBv18 : Below w.heap.size w v18 := kB0
            clear hSv17 hTv17 hLv17 hFv17 hAv17 hb hBv17 kB0
            have cA0 := hAv18.c0
            have cA1 := hAv18.c1
            have cA2 := hAv18.c2
            have cA3 := hAv18.c3
            have cA4 := hAv18.c4
            have cA5 := hAv18.c5
            have cAf := hAv18.free
            have cT0 := hTv18.c0
            have cT1 := hTv18.c1
            have cT2 := hTv18.c2
            have cT3 := hTv18.c3
            have cT4 := hTv18.c4
            have cT5 := hTv18.c5
            have cTf := hTv18.free
            have hle2 : ¬ most < sz := by omega
            (go_wp2_with fail; go_meet; exact ⟨hSv18, hTv18, hLv18, hFv18, hBv18⟩)
        case rest =>
          clear hSZ12 hTZ12 hLZ12 hFZ12 hBZ12
          obtain ⟨hSZ15, hTZ15, hLZ15, hFZ15, hBZ15⟩ := hcut
          generalize hE : wc = Z15 at *
          clear hE wc
          by_cases hoc : (one && can) = true
          rotate_left
          · (cases one <;> cases can) <;> first | (exact absurd rfl hoc) | (go_wp2_with fail; go_ret; exact ⟨rfl, hBZ15⟩)
          have h1 : one = true := by cases one <;> simp at hoc ⊢
          have h2 : can = true := by cases can <;> simp at hoc ⊢
          subst h1 h2
          clear hoc
          obtain ⟨hpl, hke⟩ := HOK.out rfl
          have HPL := Lib.hid hpl
          have HKE := Lib.hid hke
          clear hpl hke HOK HTW HIF HSF HIC HSC HIL HSL
          go_upto_region 34 with fail
          have cS0 := hSZ15.c0
          have cS1 := hSZ15.c1
          have cS2 := hSZ15.c2
          have cS3 := hSZ15.c3
          have cS4 := hSZ15.c4
          have cS5 := hSZ15.c5
          have cSf := hSZ15.free
          have cL0 := hLZ15.c0
          have cL1 := hLZ15.c1
          have cL2 := hLZ15.c2
          have cL3 := hLZ15.c3
          have cL4 := hLZ15.c4
          have cL5 := hLZ15.c5
          have cLf := hLZ15.free
          go_upto_region 35 with (go_at_call 41; (with_reducible refine (HPL.out _).mono ?_); rintro e v19 ⟨rfl, hb⟩)
          clear cS0 cS1 cS2 cS3 cS4 cS5 cSf cL0 cL1 cL2 cL3 cL4 cL5 cLf
          have hSXv19 : HoldsA (v19.alloc (.cells #[.int .i64 b0, .int .i64 b1, .int .i64 b2, .int .i64 b3, .int .i64 b4, .int .i64 b5] 27)) 27 gS a0 a1 a2 a3 a4 a5 := ((hSZ15.below hb hSZ15.lt).alloc _)
          have hTXv19 : HoldsA (v19.alloc (.cells #[.int .i64 b0, .int .i64 b1, .int .i64 b2, .int .i64 b3, .int .i64 b4, .int .i64 b5] 27)) 27 (gS + 1) b0 b1 b2 b3 b4 b5 := ((hTZ15.below hb hTZ15.lt).alloc _)
          have hLXv19 : HoldsA (v19.alloc (.cells #[.int .i64 b0, .int .i64 b1, .int .i64 b2, .int .i64 b3, .int .i64 b4, .int .i64 b5] 27)) 27 gL l0 l1 l2 l3 l4 l5 := ((hLZ15.below hb hLZ15.lt).alloc _)
          have hFXv19 : HoldsA (v19.alloc (.cells #[.int .i64 b0, .int .i64 b1, .int .i64 b2, .int .i64 b3, .int .i64 b4, .int .i64 b5] 27)) 27 gF f0 f1 f2 f3 f4 f5 := ((hFZ15.below hb hFZ15.lt).alloc _)
          have kB0 : Below w.heap.size w v19 := hBZ15.trans (hb.mono hBZ15.size)
          have kB1 := kB0.alloc kB0.size (.cells #[.int .i64 b0, .int .i64 b1, .int .i64 b2, .int .i64 b3, .int .i64 b4, .int .i64 b5] 27)
          have hBXv19 : Below w.heap.size w (v19.alloc (.cells #[.int .i64 b0, .int .i64 b1, .int .i64 b2, .int .i64 b3, .int .i64 b4, .int .i64 b5] 27)) := kB1
          have hDXv19 : HoldsA (v19.alloc (.cells #[.int .i64 b0, .int .i64 b1, .int .i64 b2, .int .i64 b3, .int .i64 b4, .int .i64 b5] 27)) 27 (v19.heap.size) b0 b1 b2 b3 b4 b5 := HoldsA.made _ _ _ _ _ _ _ _
          clear hSZ15 hTZ15 hLZ15 hFZ15 hb hBZ15 kB0 kB1
          generalize hE : (v19.alloc (.cells #[.int .i64 b0, .int .i64 b1, .int .i64 b2, .int .i64 b3, .int .i64 b4, .int .i64 b5] 27)) = Xv19 at *
          clear hE
          generalize hE : v19.heap.size = gD at *
          clear hE
          have cS0 := hSXv19.c0
          have cS1 := hSXv19.c1
          have cS2 := hSXv19.c2
          have cS3 := hSXv19.c3
          have cS4 := hSXv19.c4
          have cS5 := hSXv19.c5
          have cSf := hSXv19.free
          go_upto_region 36 with (go_at_call 35; (with_reducible refine (HKE.out _ (HZ.out.below hBXv19 hzl)).mono ?_); rintro e v20 ⟨vo, O, rfl, hO, hO36, hlp, hb⟩)
          clear cS0 cS1 cS2 cS3 cS4 cS5 cSf
          have hSv20 : HoldsA v20 27 gS a0 a1 a2 a3 a4 a5 := (hSXv19.below hb hSXv19.lt)
          have hTv20 : HoldsA v20 27 (gS + 1) b0 b1 b2 b3 b4 b5 := (hTXv19.below hb hTXv19.lt)
          have hLv20 : HoldsA v20 27 gL l0 l1 l2 l3 l4 l5 := (hLXv19.below hb hLXv19.lt)
          have hFv20 : HoldsA v20 27 gF f0 f1 f2 f3 f4 f5 := (hFXv19.below hb hFXv19.lt)
          have hDv20 : HoldsA v20 27 gD b0 b1 b2 b3 b4 b5 := (hDXv19.below hb hDXv19.lt)
          have kB0 : Below w.heap.size w v20 := hBXv19.trans (hb.mono hBXv19.size)
          have hBv20 : Below w.heap.size w v20 := kB0
          clear hSXv19 hTXv19 hLXv19 hFXv19 hDXv19 hb hBXv19 kB0
          obtain ⟨gO, capO, rfl, hg1, hg2⟩ := hO.form
          clear hg1 hg2
          generalize Xv19.heap.size = BB at *
          have hOv20 := hO
          clear hO
          have HLP := Lib.hid hlp
          clear hlp
          have cD0 := hDv20.c0
          have cD1 := hDv20.c1
          have cD2 := hDv20.c2
          have cD3 := hDv20.c3
          have cD4 := hDv20.c4
          have cD5 := hDv20.c5
          have cDf := hDv20.free
          have cT0 := hTv20.c0
          have cT1 := hTv20.c1
          have cT2 := hTv20.c2
          have cT3 := hTv20.c3
          have cT4 := hTv20.c4
          have cT5 := hTv20.c5
          have cTf := hTv20.free
          go_wp2_with fail
          clear cD0 cD1 cD2 cD3 cD4 cD5 cDf cT0 cT1 cT2 cT3 cT4 cT5 cTf
          clear hFv20 hDv20
          go_loopw [39] (fun i wr => ∃ k : Nat, k ≤ O.length ∧ i = .int .i64 (k : Int) ∧ HoldsA wr 27 gS a0 a1 a2 a3 a4 a5 ∧ HoldsA wr 27 (gS + 1) b0 b1 b2 b3 b4 b5 ∧ HoldsA wr 27 gL l0 l1 l2 l3 l4 l5 ∧ OwnsS wr BB (.slice (some ⟨gO, 0, none⟩) O.length capO) O ∧ Below w.heap.size w wr) (fun i _ => O.length - (intOf i).toNat)
          case atStart => exact ⟨0, Nat.zero_le _, rfl, hSv20, hTv20, hLv20, hOv20, hBv20⟩
          case round =>
            clear hSv20 hTv20 hLv20 hOv20 hBv20
            obtain ⟨k, hk, rfl, hSwr, hTwr, hLwr, hOwr, hBwr⟩ := hrel
            by_cases hlt : k < O.length
            rotate_left
            · have e : k = O.length := by omega
              subst e
              go_wp2_with fail
              go_ret
              exact ⟨rfl, hBwr⟩
            have hlt' : (k : Int) < (O.length : Int) := by omega
            obtain ⟨e0, e1, e2, e3, e4, e5⟩ := hOwr.cellsAt k hlt
            obtain ⟨o0, o1, o2, o3, o4, o5, hdi, hpo, hle⟩ := HLP.out (O.getD k 0) (by rw [List.getD_eq_getElem?_getD, List.getElem?_eq_getElem hlt]; exact List.getElem_mem hlt)
            have HDI := Lib.hid hdi
            have HPO := Lib.hid hpo
            have HLE := Lib.hid hle
            clear hdi hpo hle
            have HLT := hlt
            generalize hx : O.getD k 0 = x at *
            have HXQ := Lib.hid hx
            clear hx
            have lS := hSwr.lt
            have lT := hTwr.lt
            have lL := hLwr.lt
            have lO : gO < wr.heap.size := by obtain ⟨g', c', e', h', h''⟩ := hOwr.form; injection e' with e'; injection e' with e'; injection e' with e'; omega
            have key : ∀ WF : World, Below wr.heap.size wr WF → (HoldsA WF 27 gS a0 a1 a2 a3 a4 a5 ∧ HoldsA WF 27 (gS + 1) b0 b1 b2 b3 b4 b5 ∧ HoldsA WF 27 gL l0 l1 l2 l3 l4 l5 ∧ OwnsS WF BB (.slice (some ⟨gO, 0, none⟩) O.length capO) O ∧ Below w.heap.size w WF) := fun WF hbF => ⟨hSwr.below hbF lS, hTwr.below hbF lT, hLwr.below hbF lL, hOwr.below hbF, hBwr.trans (hbF.mono hBwr.size)⟩
            have KEY := Lib.hid key
            clear key
            go_upto_region 41 with fail
            have cL0 := hLwr.c0
            have cL1 := hLwr.c1
            have cL2 := hLwr.c2
            have cL3 := hLwr.c3
            have cL4 := hLwr.c4
            have cL5 := hLwr.c5
            have cLf := hLwr.free
            go_cut [40, 41] from 260 to 268 (fun s40 s41 wx => s41 = .bool true ∧ ∃ gE : Nat, s40 = .pointer (some ⟨gE, 0, none⟩) ∧ HoldsA wx 27 gE o0 o1 o2 o3 o4 o5 ∧ HoldsA wx 27 gS a0 a1 a2 a3 a4 a5 ∧ HoldsA wx 27 (gS + 1) b0 b1 b2 b3 b4 b5 ∧ HoldsA wx 27 gL l0 l1 l2 l3 l4 l5 ∧ OwnsS wx BB (.slice (some ⟨gO, 0, none⟩) O.length capO) O ∧ Below w.heap.size w wx)
            case first =>
              go_region_held3 (fun w' => w'.cell? ⟨gL, 0, none⟩ = some (.int .i64 l0) ∧ w'.cell? ⟨gL, 1, none⟩ = some (.int .i64 l1) ∧ w'.cell? ⟨gL, 2, none⟩ = some (.int .i64 l2) ∧ w'.cell? ⟨gL, 3, none⟩ = some (.int .i64 l3) ∧ w'.cell? ⟨gL, 4, none⟩ = some (.int .i64 l4) ∧ w'.cell? ⟨gL, 5, none⟩ = some (.int .i64 l5) ∧ w'.cell? ⟨gO, k * 6, none⟩ = some (.int .i64 (row x 0)) ∧ w'.cell? ⟨gO, k * 6 + 1, none⟩ = some (.int .i64 (row x 1)) ∧ w'.cell? ⟨gO, k * 6 + 2, none⟩ = some (.int .i64 (row x 2)) ∧ w'.cell? ⟨gO, k * 6 + 3, none⟩ = some (.int .i64 (row x 3)) ∧ w'.cell? ⟨gO, k * 6 + 4, none⟩ = some (.int .i64 (row x 4)) ∧ w'.cell? ⟨gO, k * 6 + 5, none⟩ = some (.int .i64 (row x 5))) (simp [*, World.cell?_alloc_some, World.cell?_setCell_far, Nat.ne_of_gt, Nat.ne_of_lt]) (first | (go_at_call 44; (try simp only [List.getElem?_cons_succ, List.getElem?_cons_zero, Option.getD_some]); (with_reducible refine (HDI.out _).mono ?_); rintro e v ⟨rfl, hb⟩; have kL : HoldsA v 27 gL l0 l1 l2 l3 l4 l5 := HoldsA.below (by repeat (first | with_reducible assumption | (with_reducible refine HoldsA.made' ?_; (simp; done)) | with_reducible refine HoldsA.alloc ?_ _ | with_reducible refine HoldsA.drew ?_ | with_reducible refine HoldsA.drewN ?_ _)) hb (by first | (simp; done) | (simp; omega) | omega); have kO : OwnsS v BB (.slice (some ⟨gO, 0, none⟩) O.length capO) O := OwnsS.below (by repeat (first | with_reducible assumption | with_reducible refine OwnsS.alloc ?_ _ | with_reducible refine OwnsS.drew ?_ | with_reducible refine OwnsS.drewN ?_ _)) hb; obtain ⟨d0, d1, d2, d3, d4, d5⟩ := kO.cellsAt k HLT; rw [HXQ.out] at d0 d1 d2 d3 d4 d5; have hbs := hb.size; (try simp only [World.size_alloc, World.size_drew, size_drewN] at hbs); have lLv : gL < v.heap.size := (by omega); have lOv : gO < v.heap.size := (by omega); (try (have kE : HoldsA v 27 wr.heap.size 0 0 0 0 0 0 := HoldsA.below (by repeat (first | with_reducible assumption | (with_reducible refine HoldsA.made' ?_; (simp; done)) | with_reducible refine HoldsA.alloc ?_ _ | with_reducible refine HoldsA.drew ?_ | with_reducible refine HoldsA.drewN ?_ _)) hb (by first | (simp; done) | (simp; omega) | omega); have z0 := kE.c0; have z1 := kE.c1; have z2 := kE.c2; have z3 := kE.c3; have z4 := kE.c4; have z5 := kE.c5; have zf := kE.free)); have y0 := kL.c0; have y1 := kL.c1; have y2 := kL.c2; have y3 := kL.c3; have y4 := kL.c4; have y5 := kL.c5))
              all_goals
                go_wp2_with fail
                go_meet
                exact ⟨rfl, _, rfl, (by first | with_reducible exact HoldsA.made' (by simp) | with_reducible exact kE.store _ _ _ _ _ _), KEY.out _ (by repeat (first | with_reducible exact Below.refl _ _ | with_reducible assumption | with_reducible refine Below.drew ?_ | with_reducible refine below_drewN ?_ _ | with_reducible refine Below.alloc ?_ ?_ _ | with_reducible refine Below.setCell ?_ ?_ _ | with_reducible refine Below.trans ?_ (Below.mono (by assumption) ?_) | omega | (simp <;> omega)))⟩
            case rest =>
              clear cL0 cL1 cL2 cL3 cL4 cL5 cLf
              clear hSwr hTwr hLwr hOwr hBwr lS lT lL lO KEY e0 e1 e2 e3 e4 e5
              obtain ⟨rfl, gE, rfl, hEZ, hSZ, hTZ, hLZ, hOZ, hBZ⟩ := hcut
              generalize hE : wc = Z at *
              clear hE wc
              have cS0 := hSZ.c0
              have cS1 := hSZ.c1
              have cS2 := hSZ.c2
              have cS3 := hSZ.c3
              have cS4 := hSZ.c4
              have cS5 := hSZ.c5
              have cSf := hSZ.free
              have cE0 := hEZ.c0
              have cE1 := hEZ.c1
              have cE2 := hEZ.c2
              have cE3 := hEZ.c3
              have cE4 := hEZ.c4
              have cE5 := hEZ.c5
              have cEf := hEZ.free
              go_upto_region 43 with (go_at_call 41; (with_reducible refine (HPO.out _).mono ?_); rintro e v21 ⟨rfl, hb⟩)
              clear cS0 cS1 cS2 cS3 cS4 cS5 cSf cE0 cE1 cE2 cE3 cE4 cE5 cEf
              have hSXv21 : HoldsA (v21.alloc (.cells #[.int .i64 b0, .int .i64 b1, .int .i64 b2, .int .i64 b3, .int .i64 b4, .int .i64 b5] 27)) 27 gS a0 a1 a2 a3 a4 a5 := ((hSZ.below hb hSZ.lt).alloc _)
              have hTXv21 : HoldsA (v21.alloc (.cells #[.int .i64 b0, .int .i64 b1, .int .i64 b2, .int .i64 b3, .int .i64 b4, .int .i64 b5] 27)) 27 (gS + 1) b0 b1 b2 b3 b4 b5 := ((hTZ.below hb hTZ.lt).alloc _)
              have hLXv21 : HoldsA (v21.alloc (.cells #[.int .i64 b0, .int .i64 b1, .int .i64 b2, .int .i64 b3, .int .i64 b4, .int .i64 b5] 27)) 27 gL l0 l1 l2 l3 l4 l5 := ((hLZ.below hb hLZ.lt).alloc _)
              have hEXv21 : HoldsA (v21.alloc (.cells #[.int .i64 b0, .int .i64 b1, .int .i64 b2, .int .i64 b3, .int .i64 b4, .int .i64 b5] 27)) 27 gE o0 o1 o2 o3 o4 o5 := ((hEZ.below hb hEZ.lt).alloc _)
              have hOXv21 : OwnsS (v21.alloc (.cells #[.int .i64 b0, .int .i64 b1, .int .i64 b2, .int .i64 b3, .int .i64 b4, .int .i64 b5] 27)) BB (.slice (some ⟨gO, 0, none⟩) O.length capO) O := ((hOZ.below hb).alloc _)
              have kB0 : Below w.heap.size w v21 := hBZ.trans (hb.mono hBZ.size)
              have kB1 := kB0.alloc kB0.size (.cells #[.int .i64 b0, .int .i64 b1, .int .i64 b2, .int .i64 b3, .int .i64 b4, .int .i64 b5] 27)
              have hBXv21 : Below w.heap.size w (v21.alloc (.cells #[.int .i64 b0, .int .i64 b1, .int .i64 b2, .int .i64 b3, .int .i64 b4, .int .i64 b5] 27)) := kB1
              have hYXv21 : HoldsA (v21.alloc (.cells #[.int .i64 b0, .int .i64 b1, .int .i64 b2, .int .i64 b3, .int .i64 b4, .int .i64 b5] 27)) 27 (v21.heap.size) b0 b1 b2 b3 b4 b5 := HoldsA.made _ _ _ _ _ _ _ _
              clear hSZ hTZ hLZ hEZ hb hBZ hOZ kB0 kB1
              generalize hE : (v21.alloc (.cells #[.int .i64 b0, .int .i64 b1, .int .i64 b2, .int .i64 b3, .int .i64 b4, .int .i64 b5] 27)) = Xv21 at *
              clear hE
              generalize hE : v21.heap.size = gY at *
              clear hE
              have cE0 := hEXv21.c0
              have cE1 := hEXv21.c1
              have cE2 := hEXv21.c2
              have cE3 := hEXv21.c3
              have cE4 := hEXv21.c4
              have cE5 := hEXv21.c5
              have cEf := hEXv21.free
              have cL0 := hLXv21.c0
              have cL1 := hLXv21.c1
              have cL2 := hLXv21.c2
              have cL3 := hLXv21.c3
              have cL4 := hLXv21.c4
              have cL5 := hLXv21.c5
              have cLf := hLXv21.free
              go_upto_region 44 with (go_at_call 45; (with_reducible refine (HLE.out _).mono ?_); rintro e v22 ⟨rfl, hb⟩)
              clear cE0 cE1 cE2 cE3 cE4 cE5 cEf cL0 cL1 cL2 cL3 cL4 cL5 cLf
              have hSv22 : HoldsA v22 27 gS a0 a1 a2 a3 a4 a5 := (hSXv21.below hb hSXv21.lt)
              have hTv22 : HoldsA v22 27 (gS + 1) b0 b1 b2 b3 b4 b5 := (hTXv21.below hb hTXv21.lt)
              have hLv22 : HoldsA v22 27 gL l0 l1 l2 l3 l4 l5 := (hLXv21.below hb hLXv21.lt)
              have hEv22 : HoldsA v22 27 gE o0 o1 o2 o3 o4 o5 := (hEXv21.below hb hEXv21.lt)
              have hYv22 : HoldsA v22 27 gY b0 b1 b2 b3 b4 b5 := (hYXv21.below hb hYXv21.lt)
              have hOv22 : OwnsS v22 BB (.slice (some ⟨gO, 0, none⟩) O.length capO) O := (hOXv21.below hb)
              have kB0 : Below w.heap.size w v22 := hBXv21.trans (hb.mono hBXv21.size)
              have hBv22 : Below w.heap.size w v22 := kB0
              clear hSXv21 hTXv21 hLXv21 hEXv21 hYXv21 hb hBXv21 hOXv21 kB0
              have cY0 := hYv22.c0
              have cY1 := hYv22.c1
              have cY2 := hYv22.c2
              have cY3 := hYv22.c3
              have cY4 := hYv22.c4
              have cY5 := hYv22.c5
              have cYf := hYv22.free
              have cT0 := hTv22.c0
              have cT1 := hTv22.c1
              have cT2 := hTv22.c2
              have cT3 := hTv22.c3
              have cT4 := hTv22.c4
              have cT5 := hTv22.c5
              have cTf := hTv22.free
              go_wp2_with fail
              go_roundw
              case rel => exact ⟨k + 1, by omega, by go_num, hSv22, hTv22, hLv22, hOv22, hBv22⟩
              case measure => simp [intOf]; omega
end Go.Proofs.YtgjgefbcfcomcaaDoor
