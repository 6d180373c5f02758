/-
  The walk of the law FnMotions: whatever the code, it returns true. Under: the code is a byte slice that can be read.
-/
import Derived.Test.YtidaoalnngmoaaaYb
import Derived.Test.YtidaoalnngmoaaaYc
import Derived.Deep.CutRange
namespace Go.Proofs.Ytidaoalnngmoaaa
open Go.RowKit
set_option linter.unusedSimpArgs false
set_option linter.unusedVariables false

set_option maxRecDepth 100000 in
set_option maxHeartbeats 6400000 in
theorem lawFnMotions (cv : Value) (len : Nat) (w : World) (hcode : CodeB w w.heap.size cv len) (hcap : ∀ a m c, cv = .slice a m c → m ≤ c) : Calls Try.prog 16 #[cv] w fun e w' => e = .returned (.bool true) ∧ Below w.heap.size w w' := by
  have HC := Lib.hid hcode
  by_cases hbig' : 65536 < len
  · have hbig : (65536 : Int) < (len : Int) := by omega
    go_enter Try.func16, Try.ntmps16
    go_wp2_with (go_at_call 51; (with_reducible refine (vBig_any cv len _ hcode).mono ?_); rintro e w1 ⟨rfl, h⟩; subst w1; (try simp only [decide_eq_true hbig]))
    go_ret
    exact ⟨rfl, Below.refl _ _⟩
  have hbig : ¬ (65536 : Int) < (len : Int) := by omega
  have hlen : len ≤ 1000000 := by omega
  clear hbig'
  go_enter Try.func16, Try.ntmps16
  go_upto_region 4 with (first | (go_at_call 51; (with_reducible refine (vBig_any cv len _ hcode).mono ?_); rintro e w1 ⟨rfl, h⟩; subst w1; (try simp only [decide_eq_false hbig])) | (go_at_call 52; (with_reducible refine (DrawMoveSheet_any cv len hlen _ (HC.out.moved (by repeat (first | with_reducible exact Below.refl _ _ | with_reducible assumption | with_reducible refine Below.drew ?_ | with_reducible refine below_drewN ?_ _ | with_reducible refine Below.alloc ?_ ?_ _ | with_reducible refine Below.setCell ?_ ?_ _ | with_reducible refine Below.trans ?_ (Below.mono (by assumption) ?_) | omega | (simp <;> omega))))).mono ?_); rintro e v0 ⟨a0, a1, a2, a3, a4, a5, m0, m1, m2, rfl, hb⟩))
  clear hcode
  have kX1 := hb.alloc hb.size (.cells #[.int .i64 a0, .int .i64 a1, .int .i64 a2, .int .i64 a3, .int .i64 a4, .int .i64 a5] 33)
  have kX2 := kX1.alloc kX1.size (.cells #[.int .i64 m0, .int .i64 m1, .int .i64 m2] 39)
  have hBXv0 : Below w.heap.size w ((v0.alloc (.cells #[.int .i64 a0, .int .i64 a1, .int .i64 a2, .int .i64 a3, .int .i64 a4, .int .i64 a5] 33)).alloc (.cells #[.int .i64 m0, .int .i64 m1, .int .i64 m2] 39)) := kX2
  have hSXv0 : HoldsA ((v0.alloc (.cells #[.int .i64 a0, .int .i64 a1, .int .i64 a2, .int .i64 a3, .int .i64 a4, .int .i64 a5] 33)).alloc (.cells #[.int .i64 m0, .int .i64 m1, .int .i64 m2] 39)) 33 (v0.heap.size) a0 a1 a2 a3 a4 a5 := (HoldsA.made' (by simp)).alloc _
  have hMXv0 : Holds3 ((v0.alloc (.cells #[.int .i64 a0, .int .i64 a1, .int .i64 a2, .int .i64 a3, .int .i64 a4, .int .i64 a5] 33)).alloc (.cells #[.int .i64 m0, .int .i64 m1, .int .i64 m2] 39)) 39 (v0.heap.size + 1) m0 m1 m2 := Holds3.made' (by simp)
  clear hb kX1 kX2
  generalize hE : ((v0.alloc (.cells #[.int .i64 a0, .int .i64 a1, .int .i64 a2, .int .i64 a3, .int .i64 a4, .int .i64 a5] 33)).alloc (.cells #[.int .i64 m0, .int .i64 m1, .int .i64 m2] 39)) = Xv0 at *
  clear hE
  generalize hE : v0.heap.size = gS at *
  clear hE
  obtain ⟨r0, r1, r2, r3, r4, r5, b0, b1, b2, ok, there, hm1, hm2, hk1, hk2, hmo⟩ := move_uni a0 a1 a2 a3 a4 a5 m0 m1 m2
  have HM1 := Lib.hid hm1
  have HM2 := Lib.hid hm2
  have HK1 := Lib.hid hk1
  have HK2 := Lib.hid hk2
  have HMO := Lib.hid hmo
  clear hm1 hm2 hk1 hk2 hmo
  have cS0 := hSXv0.c0
  have cS1 := hSXv0.c1
  have cS2 := hSXv0.c2
  have cS3 := hSXv0.c3
  have cS4 := hSXv0.c4
  have cS5 := hSXv0.c5
  have cSf := hSXv0.free
  have cM0 := hMXv0.c0
  have cM1 := hMXv0.c1
  have cM2 := hMXv0.c2
  have cMf := hMXv0.free
  go_upto_region 5 with (go_at_call 35; (with_reducible refine (HM1.out _).mono ?_); rintro e v1 ⟨rfl, hb⟩)
  clear cS0 cS1 cS2 cS3 cS4 cS5 cSf cM0 cM1 cM2 cMf
  have kX1 := hb.alloc hb.size (.cells #[.int .i64 r0, .int .i64 r1, .int .i64 r2, .int .i64 r3, .int .i64 r4, .int .i64 r5] 33)
  have hSXv1 : HoldsA (v1.alloc (.cells #[.int .i64 r0, .int .i64 r1, .int .i64 r2, .int .i64 r3, .int .i64 r4, .int .i64 r5] 33)) 33 gS a0 a1 a2 a3 a4 a5 := hSXv0.below kX1 hSXv0.lt
  have hMXv1 : Holds3 (v1.alloc (.cells #[.int .i64 r0, .int .i64 r1, .int .i64 r2, .int .i64 r3, .int .i64 r4, .int .i64 r5] 33)) 39 (gS + 1) m0 m1 m2 := hMXv0.below kX1 hMXv0.lt
  have hBXv1 : Below w.heap.size w (v1.alloc (.cells #[.int .i64 r0, .int .i64 r1, .int .i64 r2, .int .i64 r3, .int .i64 r4, .int .i64 r5] 33)) := hBXv0.trans (kX1.mono hBXv0.size)
  have hDXv1 : HoldsA (v1.alloc (.cells #[.int .i64 r0, .int .i64 r1, .int .i64 r2, .int .i64 r3, .int .i64 r4, .int .i64 r5] 33)) 33 (v1.heap.size) r0 r1 r2 r3 r4 r5 := HoldsA.made' (by simp)
  clear hSXv0 hMXv0 hb hBXv0 kX1
  generalize hE : (v1.alloc (.cells #[.int .i64 r0, .int .i64 r1, .int .i64 r2, .int .i64 r3, .int .i64 r4, .int .i64 r5] 33)) = Xv1 at *
  clear hE
  generalize hE : v1.heap.size = gD at *
  clear hE
  have cS0 := hSXv1.c0
  have cS1 := hSXv1.c1
  have cS2 := hSXv1.c2
  have cS3 := hSXv1.c3
  have cS4 := hSXv1.c4
  have cS5 := hSXv1.c5
  have cSf := hSXv1.free
  have cM0 := hMXv1.c0
  have cM1 := hMXv1.c1
  have cM2 := hMXv1.c2
  have cMf := hMXv1.free
  go_upto_region 6 with (go_at_call 34; (with_reducible refine (HM2.out _).mono ?_); rintro e v2 ⟨rfl, hb⟩)
  clear cS0 cS1 cS2 cS3 cS4 cS5 cSf cM0 cM1 cM2 cMf
  have kX1 := hb.alloc hb.size (.cells #[.int .i64 r0, .int .i64 r1, .int .i64 r2, .int .i64 r3, .int .i64 r4, .int .i64 r5] 33)
  have hSXv2 : HoldsA (v2.alloc (.cells #[.int .i64 r0, .int .i64 r1, .int .i64 r2, .int .i64 r3, .int .i64 r4, .int .i64 r5] 33)) 33 gS a0 a1 a2 a3 a4 a5 := hSXv1.below kX1 hSXv1.lt
  have hMXv2 : Holds3 (v2.alloc (.cells #[.int .i64 r0, .int .i64 r1, .int .i64 r2, .int .i64 r3, .int .i64 r4, .int .i64 r5] 33)) 39 (gS + 1) m0 m1 m2 := hMXv1.below kX1 hMXv1.lt
  have hDXv2 : HoldsA (v2.alloc (.cells #[.int .i64 r0, .int .i64 r1, .int .i64 r2, .int .i64 r3, .int .i64 r4, .int .i64 r5] 33)) 33 gD r0 r1 r2 r3 r4 r5 := hDXv1.below kX1 hDXv1.lt
  have hBXv2 : Below w.heap.size w (v2.alloc (.cells #[.int .i64 r0, .int .i64 r1, .int .i64 r2, .int .i64 r3, .int .i64 r4, .int .i64 r5] 33)) := hBXv1.trans (kX1.mono hBXv1.size)
  have hEXv2 : HoldsA (v2.alloc (.cells #[.int .i64 r0, .int .i64 r1, .int .i64 r2, .int .i64 r3, .int .i64 r4, .int .i64 r5] 33)) 33 (v2.heap.size) r0 r1 r2 r3 r4 r5 := HoldsA.made' (by simp)
  clear hSXv1 hMXv1 hDXv1 hb hBXv1 kX1
  generalize hE : (v2.alloc (.cells #[.int .i64 r0, .int .i64 r1, .int .i64 r2, .int .i64 r3, .int .i64 r4, .int .i64 r5] 33)) = Xv2 at *
  clear hE
  generalize hE : v2.heap.size = gE at *
  clear hE
  go_upto_region 7 with (first | (go_at_call 54; (with_reducible refine (vCut_any cv len _ (HC.out.moved hBXv2) hcap 1 (by decide) hlen).mono ?_); rintro e va ⟨cv1, l1, rfl, hl1, hcd, hb1⟩) | (go_at_call 53; (with_reducible refine (DrawMotionBehind_any cv1 l1 (by omega) _ hcd).mono ?_); rintro e v3 ⟨p0, p1, p2, q0, q1, q2, rfl, hb2⟩))
  have hb := hb1.trans (hb2.mono hb1.size)
  clear hb1 hb2 hcd hl1
  have kX1 := hb.alloc hb.size (.cells #[.int .i64 p0, .int .i64 p1, .int .i64 p2] 39)
  have kX2 := kX1.alloc kX1.size (.cells #[.int .i64 q0, .int .i64 q1, .int .i64 q2] 39)
  have hSXv3 : HoldsA ((v3.alloc (.cells #[.int .i64 p0, .int .i64 p1, .int .i64 p2] 39)).alloc (.cells #[.int .i64 q0, .int .i64 q1, .int .i64 q2] 39)) 33 gS a0 a1 a2 a3 a4 a5 := hSXv2.below kX2 hSXv2.lt
  have hMXv3 : Holds3 ((v3.alloc (.cells #[.int .i64 p0, .int .i64 p1, .int .i64 p2] 39)).alloc (.cells #[.int .i64 q0, .int .i64 q1, .int .i64 q2] 39)) 39 (gS + 1) m0 m1 m2 := hMXv2.below kX2 hMXv2.lt
  have hDXv3 : HoldsA ((v3.alloc (.cells #[.int .i64 p0, .int .i64 p1, .int .i64 p2] 39)).alloc (.cells #[.int .i64 q0, .int .i64 q1, .int .i64 q2] 39)) 33 gD r0 r1 r2 r3 r4 r5 := hDXv2.below kX2 hDXv2.lt
  have hEXv3 : HoldsA ((v3.alloc (.cells #[.int .i64 p0, .int .i64 p1, .int .i64 p2] 39)).alloc (.cells #[.int .i64 q0, .int .i64 q1, .int .i64 q2] 39)) 33 gE r0 r1 r2 r3 r4 r5 := hEXv2.below kX2 hEXv2.lt
  have hBXv3 : Below w.heap.size w ((v3.alloc (.cells #[.int .i64 p0, .int .i64 p1, .int .i64 p2] 39)).alloc (.cells #[.int .i64 q0, .int .i64 q1, .int .i64 q2] 39)) := hBXv2.trans (kX2.mono hBXv2.size)
  have hPXv3 : Holds3 ((v3.alloc (.cells #[.int .i64 p0, .int .i64 p1, .int .i64 p2] 39)).alloc (.cells #[.int .i64 q0, .int .i64 q1, .int .i64 q2] 39)) 39 (v3.heap.size) p0 p1 p2 := (Holds3.made' (by simp)).alloc _
  have hQXv3 : Holds3 ((v3.alloc (.cells #[.int .i64 p0, .int .i64 p1, .int .i64 p2] 39)).alloc (.cells #[.int .i64 q0, .int .i64 q1, .int .i64 q2] 39)) 39 (v3.heap.size + 1) q0 q1 q2 := Holds3.made' (by simp)
  clear hSXv2 hMXv2 hDXv2 hEXv2 hb hBXv2 kX1 kX2
  generalize hE : ((v3.alloc (.cells #[.int .i64 p0, .int .i64 p1, .int .i64 p2] 39)).alloc (.cells #[.int .i64 q0, .int .i64 q1, .int .i64 q2] 39)) = Xv3 at *
  clear hE
  generalize hE : v3.heap.size = gP at *
  clear hE
  obtain ⟨c0, c1, c2, fine, hf1, hf2, hfi⟩ := behind_uni p0 p1 p2 q0 q1 q2
  have HF1 := Lib.hid hf1
  have HF2 := Lib.hid hf2
  have HFI := Lib.hid hfi
  clear hf1 hf2 hfi
  have cP0 := hPXv3.c0
  have cP1 := hPXv3.c1
  have cP2 := hPXv3.c2
  have cPf := hPXv3.free
  have cQ0 := hQXv3.c0
  have cQ1 := hQXv3.c1
  have cQ2 := hQXv3.c2
  have cQf := hQXv3.free
  go_upto_region 8 with (go_at_call 30; (with_reducible refine (HF1.out _).mono ?_); rintro e v4 ⟨rfl, hb⟩)
  clear cP0 cP1 cP2 cPf cQ0 cQ1 cQ2 cQf
  have kX1 := hb.alloc hb.size (.cells #[.int .i64 c0, .int .i64 c1, .int .i64 c2] 39)
  have hSXv4 : HoldsA (v4.alloc (.cells #[.int .i64 c0, .int .i64 c1, .int .i64 c2] 39)) 33 gS a0 a1 a2 a3 a4 a5 := hSXv3.below kX1 hSXv3.lt
  have hMXv4 : Holds3 (v4.alloc (.cells #[.int .i64 c0, .int .i64 c1, .int .i64 c2] 39)) 39 (gS + 1) m0 m1 m2 := hMXv3.below kX1 hMXv3.lt
  have hDXv4 : HoldsA (v4.alloc (.cells #[.int .i64 c0, .int .i64 c1, .int .i64 c2] 39)) 33 gD r0 r1 r2 r3 r4 r5 := hDXv3.below kX1 hDXv3.lt
  have hEXv4 : HoldsA (v4.alloc (.cells #[.int .i64 c0, .int .i64 c1, .int .i64 c2] 39)) 33 gE r0 r1 r2 r3 r4 r5 := hEXv3.below kX1 hEXv3.lt
  have hPXv4 : Holds3 (v4.alloc (.cells #[.int .i64 c0, .int .i64 c1, .int .i64 c2] 39)) 39 gP p0 p1 p2 := hPXv3.below kX1 hPXv3.lt
  have hQXv4 : Holds3 (v4.alloc (.cells #[.int .i64 c0, .int .i64 c1, .int .i64 c2] 39)) 39 (gP + 1) q0 q1 q2 := hQXv3.below kX1 hQXv3.lt
  have hBXv4 : Below w.heap.size w (v4.alloc (.cells #[.int .i64 c0, .int .i64 c1, .int .i64 c2] 39)) := hBXv3.trans (kX1.mono hBXv3.size)
  have hCXv4 : Holds3 (v4.alloc (.cells #[.int .i64 c0, .int .i64 c1, .int .i64 c2] 39)) 39 (v4.heap.size) c0 c1 c2 := Holds3.made' (by simp)
  clear hSXv3 hMXv3 hDXv3 hEXv3 hPXv3 hQXv3 hb hBXv3 kX1
  generalize hE : (v4.alloc (.cells #[.int .i64 c0, .int .i64 c1, .int .i64 c2] 39)) = Xv4 at *
  clear hE
  generalize hE : v4.heap.size = gC at *
  clear hE
  have cP0 := hPXv4.c0
  have cP1 := hPXv4.c1
  have cP2 := hPXv4.c2
  have cPf := hPXv4.free
  have cQ0 := hQXv4.c0
  have cQ1 := hQXv4.c1
  have cQ2 := hQXv4.c2
  have cQf := hQXv4.free
  go_upto_region 9 with (go_at_call 28; (with_reducible refine (HF2.out _).mono ?_); rintro e v5 ⟨rfl, hb⟩)
  clear cP0 cP1 cP2 cPf cQ0 cQ1 cQ2 cQf
  have kX1 := hb.alloc hb.size (.cells #[.int .i64 c0, .int .i64 c1, .int .i64 c2] 39)
  have hSXv5 : HoldsA (v5.alloc (.cells #[.int .i64 c0, .int .i64 c1, .int .i64 c2] 39)) 33 gS a0 a1 a2 a3 a4 a5 := hSXv4.below kX1 hSXv4.lt
  have hMXv5 : Holds3 (v5.alloc (.cells #[.int .i64 c0, .int .i64 c1, .int .i64 c2] 39)) 39 (gS + 1) m0 m1 m2 := hMXv4.below kX1 hMXv4.lt
  have hDXv5 : HoldsA (v5.alloc (.cells #[.int .i64 c0, .int .i64 c1, .int .i64 c2] 39)) 33 gD r0 r1 r2 r3 r4 r5 := hDXv4.below kX1 hDXv4.lt
  have hEXv5 : HoldsA (v5.alloc (.cells #[.int .i64 c0, .int .i64 c1, .int .i64 c2] 39)) 33 gE r0 r1 r2 r3 r4 r5 := hEXv4.below kX1 hEXv4.lt
  have hPXv5 : Holds3 (v5.alloc (.cells #[.int .i64 c0, .int .i64 c1, .int .i64 c2] 39)) 39 gP p0 p1 p2 := hPXv4.below kX1 hPXv4.lt
  have hQXv5 : Holds3 (v5.alloc (.cells #[.int .i64 c0, .int .i64 c1, .int .i64 c2] 39)) 39 (gP + 1) q0 q1 q2 := hQXv4.below kX1 hQXv4.lt
  have hCXv5 : Holds3 (v5.alloc (.cells #[.int .i64 c0, .int .i64 c1, .int .i64 c2] 39)) 39 gC c0 c1 c2 := hCXv4.below kX1 hCXv4.lt
  have hBXv5 : Below w.heap.size w (v5.alloc (.cells #[.int .i64 c0, .int .i64 c1, .int .i64 c2] 39)) := hBXv4.trans (kX1.mono hBXv4.size)
  have hFXv5 : Holds3 (v5.alloc (.cells #[.int .i64 c0, .int .i64 c1, .int .i64 c2] 39)) 39 (v5.heap.size) c0 c1 c2 := Holds3.made' (by simp)
  clear hSXv4 hMXv4 hDXv4 hEXv4 hPXv4 hQXv4 hCXv4 hb hBXv4 kX1
  generalize hE : (v5.alloc (.cells #[.int .i64 c0, .int .i64 c1, .int .i64 c2] 39)) = Xv5 at *
  clear hE
  generalize hE : v5.heap.size = gF at *
  clear hE
  have cM0 := hMXv5.c0
  have cM1 := hMXv5.c1
  have cM2 := hMXv5.c2
  have cMf := hMXv5.free
  go_upto_region 10 with (go_at_call 33; (with_reducible refine (HK1.out _).mono ?_); rintro e v6 ⟨rfl, hb⟩)
  clear cM0 cM1 cM2 cMf
  have kX1 := hb.alloc hb.size (.cells #[.int .i64 b0, .int .i64 b1, .int .i64 b2] 39)
  have hSXv6 : HoldsA (v6.alloc (.cells #[.int .i64 b0, .int .i64 b1, .int .i64 b2] 39)) 33 gS a0 a1 a2 a3 a4 a5 := hSXv5.below kX1 hSXv5.lt
  have hMXv6 : Holds3 (v6.alloc (.cells #[.int .i64 b0, .int .i64 b1, .int .i64 b2] 39)) 39 (gS + 1) m0 m1 m2 := hMXv5.below kX1 hMXv5.lt
  have hDXv6 : HoldsA (v6.alloc (.cells #[.int .i64 b0, .int .i64 b1, .int .i64 b2] 39)) 33 gD r0 r1 r2 r3 r4 r5 := hDXv5.below kX1 hDXv5.lt
  have hEXv6 : HoldsA (v6.alloc (.cells #[.int .i64 b0, .int .i64 b1, .int .i64 b2] 39)) 33 gE r0 r1 r2 r3 r4 r5 := hEXv5.below kX1 hEXv5.lt
  have hPXv6 : Holds3 (v6.alloc (.cells #[.int .i64 b0, .int .i64 b1, .int .i64 b2] 39)) 39 gP p0 p1 p2 := hPXv5.below kX1 hPXv5.lt
  have hQXv6 : Holds3 (v6.alloc (.cells #[.int .i64 b0, .int .i64 b1, .int .i64 b2] 39)) 39 (gP + 1) q0 q1 q2 := hQXv5.below kX1 hQXv5.lt
  have hCXv6 : Holds3 (v6.alloc (.cells #[.int .i64 b0, .int .i64 b1, .int .i64 b2] 39)) 39 gC c0 c1 c2 := hCXv5.below kX1 hCXv5.lt
  have hFXv6 : Holds3 (v6.alloc (.cells #[.int .i64 b0, .int .i64 b1, .int .i64 b2] 39)) 39 gF c0 c1 c2 := hFXv5.below kX1 hFXv5.lt
  have hBXv6 : Below w.heap.size w (v6.alloc (.cells #[.int .i64 b0, .int .i64 b1, .int .i64 b2] 39)) := hBXv5.trans (kX1.mono hBXv5.size)
  have hOXv6 : Holds3 (v6.alloc (.cells #[.int .i64 b0, .int .i64 b1, .int .i64 b2] 39)) 39 (v6.heap.size) b0 b1 b2 := Holds3.made' (by simp)
  clear hSXv5 hMXv5 hDXv5 hEXv5 hPXv5 hQXv5 hCXv5 hFXv5 hb hBXv5 kX1
  generalize hE : (v6.alloc (.cells #[.int .i64 b0, .int .i64 b1, .int .i64 b2] 39)) = Xv6 at *
  clear hE
  generalize hE : v6.heap.size = gO at *
  clear hE
  have cM0 := hMXv6.c0
  have cM1 := hMXv6.c1
  have cM2 := hMXv6.c2
  have cMf := hMXv6.free
  go_upto_region 11 with (go_at_call 32; (with_reducible refine (HK2.out _).mono ?_); rintro e v7 ⟨rfl, hb⟩)
  clear cM0 cM1 cM2 cMf
  have kX1 := hb.alloc hb.size (.cells #[.int .i64 b0, .int .i64 b1, .int .i64 b2] 39)
  have hSXv7 : HoldsA (v7.alloc (.cells #[.int .i64 b0, .int .i64 b1, .int .i64 b2] 39)) 33 gS a0 a1 a2 a3 a4 a5 := hSXv6.below kX1 hSXv6.lt
  have hMXv7 : Holds3 (v7.alloc (.cells #[.int .i64 b0, .int .i64 b1, .int .i64 b2] 39)) 39 (gS + 1) m0 m1 m2 := hMXv6.below kX1 hMXv6.lt
  have hDXv7 : HoldsA (v7.alloc (.cells #[.int .i64 b0, .int .i64 b1, .int .i64 b2] 39)) 33 gD r0 r1 r2 r3 r4 r5 := hDXv6.below kX1 hDXv6.lt
  have hEXv7 : HoldsA (v7.alloc (.cells #[.int .i64 b0, .int .i64 b1, .int .i64 b2] 39)) 33 gE r0 r1 r2 r3 r4 r5 := hEXv6.below kX1 hEXv6.lt
  have hPXv7 : Holds3 (v7.alloc (.cells #[.int .i64 b0, .int .i64 b1, .int .i64 b2] 39)) 39 gP p0 p1 p2 := hPXv6.below kX1 hPXv6.lt
  have hQXv7 : Holds3 (v7.alloc (.cells #[.int .i64 b0, .int .i64 b1, .int .i64 b2] 39)) 39 (gP + 1) q0 q1 q2 := hQXv6.below kX1 hQXv6.lt
  have hCXv7 : Holds3 (v7.alloc (.cells #[.int .i64 b0, .int .i64 b1, .int .i64 b2] 39)) 39 gC c0 c1 c2 := hCXv6.below kX1 hCXv6.lt
  have hFXv7 : Holds3 (v7.alloc (.cells #[.int .i64 b0, .int .i64 b1, .int .i64 b2] 39)) 39 gF c0 c1 c2 := hFXv6.below kX1 hFXv6.lt
  have hOXv7 : Holds3 (v7.alloc (.cells #[.int .i64 b0, .int .i64 b1, .int .i64 b2] 39)) 39 gO b0 b1 b2 := hOXv6.below kX1 hOXv6.lt
  have hBXv7 : Below w.heap.size w (v7.alloc (.cells #[.int .i64 b0, .int .i64 b1, .int .i64 b2] 39)) := hBXv6.trans (kX1.mono hBXv6.size)
  have hGXv7 : Holds3 (v7.alloc (.cells #[.int .i64 b0, .int .i64 b1, .int .i64 b2] 39)) 39 (v7.heap.size) b0 b1 b2 := Holds3.made' (by simp)
  clear hSXv6 hMXv6 hDXv6 hEXv6 hPXv6 hQXv6 hCXv6 hFXv6 hOXv6 hb hBXv6 kX1
  generalize hE : (v7.alloc (.cells #[.int .i64 b0, .int .i64 b1, .int .i64 b2] 39)) = Xv7 at *
  clear hE
  generalize hE : v7.heap.size = gG at *
  clear hE
  clear HM1 HM2 HF1 HF2 HK1 HK2
  clear hMXv7
  go_upto_region 12 with (first | (go_at_call 54; (with_reducible refine (vCut_any cv len _ (HC.out.moved hBXv7) hcap 2 (by decide) hlen).mono ?_); rintro e va ⟨cv1, l1, rfl, hl1, hcd, hb1⟩) | (go_at_call 55; (with_reducible refine (DrawTurnBehind_any cv1 l1 (by omega) _ hcd).mono ?_); rintro e v8 ⟨k, n, rfl, hb2⟩))
  have hb := hb1.trans (hb2.mono hb1.size)
  clear hb1 hb2 hcd hl1
  have hSv8 : HoldsA v8 33 gS a0 a1 a2 a3 a4 a5 := hSXv7.below hb hSXv7.lt
  have hDv8 : HoldsA v8 33 gD r0 r1 r2 r3 r4 r5 := hDXv7.below hb hDXv7.lt
  have hEv8 : HoldsA v8 33 gE r0 r1 r2 r3 r4 r5 := hEXv7.below hb hEXv7.lt
  have hPv8 : Holds3 v8 39 gP p0 p1 p2 := hPXv7.below hb hPXv7.lt
  have hQv8 : Holds3 v8 39 (gP + 1) q0 q1 q2 := hQXv7.below hb hQXv7.lt
  have hCv8 : Holds3 v8 39 gC c0 c1 c2 := hCXv7.below hb hCXv7.lt
  have hFv8 : Holds3 v8 39 gF c0 c1 c2 := hFXv7.below hb hFXv7.lt
  have hOv8 : Holds3 v8 39 gO b0 b1 b2 := hOXv7.below hb hOXv7.lt
  have hGv8 : Holds3 v8 39 gG b0 b1 b2 := hGXv7.below hb hGXv7.lt
  have hBv8 : Below w.heap.size w v8 := hBXv7.trans (hb.mono hBXv7.size)
  clear hSXv7 hDXv7 hEXv7 hPXv7 hQXv7 hCXv7 hFXv7 hOXv7 hGXv7 hb hBXv7
  obtain ⟨tu, ho, one, two, ht1, ht2, hh1, hh2, htw, hon⟩ := turns_uni k n
  have HT1 := Lib.hid ht1
  have HT2 := Lib.hid ht2
  have HH1 := Lib.hid hh1
  have HH2 := Lib.hid hh2
  have HTW := Lib.hid htw
  have HON := Lib.hid hon
  clear ht1 ht2 hh1 hh2 htw hon
  go_upto_region 13 with (go_at_call 21; (with_reducible refine (HT1.out _).mono ?_); rintro e v9 ⟨rfl, hb⟩)
  have hSv9 : HoldsA v9 33 gS a0 a1 a2 a3 a4 a5 := hSv8.below hb hSv8.lt
  have hDv9 : HoldsA v9 33 gD r0 r1 r2 r3 r4 r5 := hDv8.below hb hDv8.lt
  have hEv9 : HoldsA v9 33 gE r0 r1 r2 r3 r4 r5 := hEv8.below hb hEv8.lt
  have hPv9 : Holds3 v9 39 gP p0 p1 p2 := hPv8.below hb hPv8.lt
  have hQv9 : Holds3 v9 39 (gP + 1) q0 q1 q2 := hQv8.below hb hQv8.lt
  have hCv9 : Holds3 v9 39 gC c0 c1 c2 := hCv8.below hb hCv8.lt
  have hFv9 : Holds3 v9 39 gF c0 c1 c2 := hFv8.below hb hFv8.lt
  have hOv9 : Holds3 v9 39 gO b0 b1 b2 := hOv8.below hb hOv8.lt
  have hGv9 : Holds3 v9 39 gG b0 b1 b2 := hGv8.below hb hGv8.lt
  have hBv9 : Below w.heap.size w v9 := hBv8.trans (hb.mono hBv8.size)
  clear hSv8 hDv8 hEv8 hPv8 hQv8 hCv8 hFv8 hOv8 hGv8 hb hBv8
  go_upto_region 14 with (go_at_call 20; (with_reducible refine (HT2.out _).mono ?_); rintro e v10 ⟨rfl, hb⟩)
  have hSv10 : HoldsA v10 33 gS a0 a1 a2 a3 a4 a5 := hSv9.below hb hSv9.lt
  have hDv10 : HoldsA v10 33 gD r0 r1 r2 r3 r4 r5 := hDv9.below hb hDv9.lt
  have hEv10 : HoldsA v10 33 gE r0 r1 r2 r3 r4 r5 := hEv9.below hb hEv9.lt
  have hPv10 : Holds3 v10 39 gP p0 p1 p2 := hPv9.below hb hPv9.lt
  have hQv10 : Holds3 v10 39 (gP + 1) q0 q1 q2 := hQv9.below hb hQv9.lt
  have hCv10 : Holds3 v10 39 gC c0 c1 c2 := hCv9.below hb hCv9.lt
  have hFv10 : Holds3 v10 39 gF c0 c1 c2 := hFv9.below hb hFv9.lt
  have hOv10 : Holds3 v10 39 gO b0 b1 b2 := hOv9.below hb hOv9.lt
  have hGv10 : Holds3 v10 39 gG b0 b1 b2 := hGv9.below hb hGv9.lt
  have hBv10 : Below w.heap.size w v10 := hBv9.trans (hb.mono hBv9.size)
  clear hSv9 hDv9 hEv9 hPv9 hQv9 hCv9 hFv9 hOv9 hGv9 hb hBv9
  go_upto_region 15 with (go_at_call 23; (with_reducible refine (HH1.out _).mono ?_); rintro e v11 ⟨rfl, hb⟩)
  have hSv11 : HoldsA v11 33 gS a0 a1 a2 a3 a4 a5 := hSv10.below hb hSv10.lt
  have hDv11 : HoldsA v11 33 gD r0 r1 r2 r3 r4 r5 := hDv10.below hb hDv10.lt
  have hEv11 : HoldsA v11 33 gE r0 r1 r2 r3 r4 r5 := hEv10.below hb hEv10.lt
  have hPv11 : Holds3 v11 39 gP p0 p1 p2 := hPv10.below hb hPv10.lt
  have hQv11 : Holds3 v11 39 (gP + 1) q0 q1 q2 := hQv10.below hb hQv10.lt
  have hCv11 : Holds3 v11 39 gC c0 c1 c2 := hCv10.below hb hCv10.lt
  have hFv11 : Holds3 v11 39 gF c0 c1 c2 := hFv10.below hb hFv10.lt
  have hOv11 : Holds3 v11 39 gO b0 b1 b2 := hOv10.below hb hOv10.lt
  have hGv11 : Holds3 v11 39 gG b0 b1 b2 := hGv10.below hb hGv10.lt
  have hBv11 : Below w.heap.size w v11 := hBv10.trans (hb.mono hBv10.size)
  clear hSv10 hDv10 hEv10 hPv10 hQv10 hCv10 hFv10 hOv10 hGv10 hb hBv10
  go_upto_region 16 with (go_at_call 22; (with_reducible refine (HH2.out _).mono ?_); rintro e v12 ⟨rfl, hb⟩)
  have hSv12 : HoldsA v12 33 gS a0 a1 a2 a3 a4 a5 := hSv11.below hb hSv11.lt
  have hDv12 : HoldsA v12 33 gD r0 r1 r2 r3 r4 r5 := hDv11.below hb hDv11.lt
  have hEv12 : HoldsA v12 33 gE r0 r1 r2 r3 r4 r5 := hEv11.below hb hEv11.lt
  have hPv12 : Holds3 v12 39 gP p0 p1 p2 := hPv11.below hb hPv11.lt
  have hQv12 : Holds3 v12 39 (gP + 1) q0 q1 q2 := hQv11.below hb hQv11.lt
  have hCv12 : Holds3 v12 39 gC c0 c1 c2 := hCv11.below hb hCv11.lt
  have hFv12 : Holds3 v12 39 gF c0 c1 c2 := hFv11.below hb hFv11.lt
  have hOv12 : Holds3 v12 39 gO b0 b1 b2 := hOv11.below hb hOv11.lt
  have hGv12 : Holds3 v12 39 gG b0 b1 b2 := hGv11.below hb hGv11.lt
  have hBv12 : Below w.heap.size w v12 := hBv11.trans (hb.mono hBv11.size)
  clear hSv11 hDv11 hEv11 hPv11 hQv11 hCv11 hFv11 hOv11 hGv11 hb hBv11
  clear HT1 HT2 HH1 HH2
  go_upto_region 17 with (go_at_call 56; (with_reducible refine (DrawTurnVector_any cv len hlen _ (HC.out.moved hBv12)).mono ?_); rintro e v13 ⟨t, dx, dy, rfl, hb⟩)
  have hSv13 : HoldsA v13 33 gS a0 a1 a2 a3 a4 a5 := hSv12.below hb hSv12.lt
  have hDv13 : HoldsA v13 33 gD r0 r1 r2 r3 r4 r5 := hDv12.below hb hDv12.lt
  have hEv13 : HoldsA v13 33 gE r0 r1 r2 r3 r4 r5 := hEv12.below hb hEv12.lt
  have hPv13 : Holds3 v13 39 gP p0 p1 p2 := hPv12.below hb hPv12.lt
  have hQv13 : Holds3 v13 39 (gP + 1) q0 q1 q2 := hQv12.below hb hQv12.lt
  have hCv13 : Holds3 v13 39 gC c0 c1 c2 := hCv12.below hb hCv12.lt
  have hFv13 : Holds3 v13 39 gF c0 c1 c2 := hFv12.below hb hFv12.lt
  have hOv13 : Holds3 v13 39 gO b0 b1 b2 := hOv12.below hb hOv12.lt
  have hGv13 : Holds3 v13 39 gG b0 b1 b2 := hGv12.below hb hGv12.lt
  have hBv13 : Below w.heap.size w v13 := hBv12.trans (hb.mono hBv12.size)
  clear hSv12 hDv12 hEv12 hPv12 hQv12 hCv12 hFv12 hOv12 hGv12 hb hBv12
  obtain ⟨ex, ey, three, hv1, hv2, hth⟩ := vector_uni t dx dy
  have HV1 := Lib.hid hv1
  have HV2 := Lib.hid hv2
  have HTH := Lib.hid hth
  clear hv1 hv2 hth
  go_upto_region 18 with (go_at_call 19; (with_reducible refine (HV1.out _).mono ?_); rintro e v14 ⟨rfl, hb⟩)
  have hSv14 : HoldsA v14 33 gS a0 a1 a2 a3 a4 a5 := hSv13.below hb hSv13.lt
  have hDv14 : HoldsA v14 33 gD r0 r1 r2 r3 r4 r5 := hDv13.below hb hDv13.lt
  have hEv14 : HoldsA v14 33 gE r0 r1 r2 r3 r4 r5 := hEv13.below hb hEv13.lt
  have hPv14 : Holds3 v14 39 gP p0 p1 p2 := hPv13.below hb hPv13.lt
  have hQv14 : Holds3 v14 39 (gP + 1) q0 q1 q2 := hQv13.below hb hQv13.lt
  have hCv14 : Holds3 v14 39 gC c0 c1 c2 := hCv13.below hb hCv13.lt
  have hFv14 : Holds3 v14 39 gF c0 c1 c2 := hFv13.below hb hFv13.lt
  have hOv14 : Holds3 v14 39 gO b0 b1 b2 := hOv13.below hb hOv13.lt
  have hGv14 : Holds3 v14 39 gG b0 b1 b2 := hGv13.below hb hGv13.lt
  have hBv14 : Below w.heap.size w v14 := hBv13.trans (hb.mono hBv13.size)
  clear hSv13 hDv13 hEv13 hPv13 hQv13 hCv13 hFv13 hOv13 hGv13 hb hBv13
  go_upto_region 19 with (go_at_call 18; (with_reducible refine (HV2.out _).mono ?_); rintro e v15 ⟨rfl, hb⟩)
  have hSv15 : HoldsA v15 33 gS a0 a1 a2 a3 a4 a5 := hSv14.below hb hSv14.lt
  have hDv15 : HoldsA v15 33 gD r0 r1 r2 r3 r4 r5 := hDv14.below hb hDv14.lt
  have hEv15 : HoldsA v15 33 gE r0 r1 r2 r3 r4 r5 := hEv14.below hb hEv14.lt
  have hPv15 : Holds3 v15 39 gP p0 p1 p2 := hPv14.below hb hPv14.lt
  have hQv15 : Holds3 v15 39 (gP + 1) q0 q1 q2 := hQv14.below hb hQv14.lt
  have hCv15 : Holds3 v15 39 gC c0 c1 c2 := hCv14.below hb hCv14.lt
  have hFv15 : Holds3 v15 39 gF c0 c1 c2 := hFv14.below hb hFv14.lt
  have hOv15 : Holds3 v15 39 gO b0 b1 b2 := hOv14.below hb hOv14.lt
  have hGv15 : Holds3 v15 39 gG b0 b1 b2 := hGv14.below hb hGv14.lt
  have hBv15 : Below w.heap.size w v15 := hBv14.trans (hb.mono hBv14.size)
  clear hSv14 hDv14 hEv14 hPv14 hQv14 hCv14 hFv14 hOv14 hGv14 hb hBv14
  clear HV1 HV2
  go_upto_region 20 with (first | (go_at_call 54; (with_reducible refine (vCut_any cv len _ (HC.out.moved hBv15) hcap 1 (by decide) hlen).mono ?_); rintro e va ⟨cv1, l1, rfl, hl1, hcd, hb1⟩) | (go_at_call 57; (with_reducible refine (DrawTurnSheet_any cv1 l1 (by omega) _ hcd).mono ?_); rintro e v16 ⟨j0, j1, j2, j3, j4, j5, q, rfl, hb2⟩))
  have hb := hb1.trans (hb2.mono hb1.size)
  clear hb1 hb2 hcd hl1
  have kX1 := hb.alloc hb.size (.cells #[.int .i64 j0, .int .i64 j1, .int .i64 j2, .int .i64 j3, .int .i64 j4, .int .i64 j5] 33)
  have hSXv16 : HoldsA (v16.alloc (.cells #[.int .i64 j0, .int .i64 j1, .int .i64 j2, .int .i64 j3, .int .i64 j4, .int .i64 j5] 33)) 33 gS a0 a1 a2 a3 a4 a5 := hSv15.below kX1 hSv15.lt
  have hDXv16 : HoldsA (v16.alloc (.cells #[.int .i64 j0, .int .i64 j1, .int .i64 j2, .int .i64 j3, .int .i64 j4, .int .i64 j5] 33)) 33 gD r0 r1 r2 r3 r4 r5 := hDv15.below kX1 hDv15.lt
  have hEXv16 : HoldsA (v16.alloc (.cells #[.int .i64 j0, .int .i64 j1, .int .i64 j2, .int .i64 j3, .int .i64 j4, .int .i64 j5] 33)) 33 gE r0 r1 r2 r3 r4 r5 := hEv15.below kX1 hEv15.lt
  have hPXv16 : Holds3 (v16.alloc (.cells #[.int .i64 j0, .int .i64 j1, .int .i64 j2, .int .i64 j3, .int .i64 j4, .int .i64 j5] 33)) 39 gP p0 p1 p2 := hPv15.below kX1 hPv15.lt
  have hQXv16 : Holds3 (v16.alloc (.cells #[.int .i64 j0, .int .i64 j1, .int .i64 j2, .int .i64 j3, .int .i64 j4, .int .i64 j5] 33)) 39 (gP + 1) q0 q1 q2 := hQv15.below kX1 hQv15.lt
  have hCXv16 : Holds3 (v16.alloc (.cells #[.int .i64 j0, .int .i64 j1, .int .i64 j2, .int .i64 j3, .int .i64 j4, .int .i64 j5] 33)) 39 gC c0 c1 c2 := hCv15.below kX1 hCv15.lt
  have hFXv16 : Holds3 (v16.alloc (.cells #[.int .i64 j0, .int .i64 j1, .int .i64 j2, .int .i64 j3, .int .i64 j4, .int .i64 j5] 33)) 39 gF c0 c1 c2 := hFv15.below kX1 hFv15.lt
  have hOXv16 : Holds3 (v16.alloc (.cells #[.int .i64 j0, .int .i64 j1, .int .i64 j2, .int .i64 j3, .int .i64 j4, .int .i64 j5] 33)) 39 gO b0 b1 b2 := hOv15.below kX1 hOv15.lt
  have hGXv16 : Holds3 (v16.alloc (.cells #[.int .i64 j0, .int .i64 j1, .int .i64 j2, .int .i64 j3, .int .i64 j4, .int .i64 j5] 33)) 39 gG b0 b1 b2 := hGv15.below kX1 hGv15.lt
  have hBXv16 : Below w.heap.size w (v16.alloc (.cells #[.int .i64 j0, .int .i64 j1, .int .i64 j2, .int .i64 j3, .int .i64 j4, .int .i64 j5] 33)) := hBv15.trans (kX1.mono hBv15.size)
  have hUXv16 : HoldsA (v16.alloc (.cells #[.int .i64 j0, .int .i64 j1, .int .i64 j2, .int .i64 j3, .int .i64 j4, .int .i64 j5] 33)) 33 (v16.heap.size) j0 j1 j2 j3 j4 j5 := HoldsA.made' (by simp)
  clear hSv15 hDv15 hEv15 hPv15 hQv15 hCv15 hFv15 hOv15 hGv15 hb hBv15 kX1
  generalize hE : (v16.alloc (.cells #[.int .i64 j0, .int .i64 j1, .int .i64 j2, .int .i64 j3, .int .i64 j4, .int .i64 j5] 33)) = Xv16 at *
  clear hE
  generalize hE : v16.heap.size = gU at *
  clear hE
  obtain ⟨y0, y1, y2, y3, y4, y5, four, hu1, hu2, hfo⟩ := turned_uni j0 j1 j2 j3 j4 j5 q
  have HU1 := Lib.hid hu1
  have HU2 := Lib.hid hu2
  have HFO := Lib.hid hfo
  clear hu1 hu2 hfo
  have cU0 := hUXv16.c0
  have cU1 := hUXv16.c1
  have cU2 := hUXv16.c2
  have cU3 := hUXv16.c3
  have cU4 := hUXv16.c4
  have cU5 := hUXv16.c5
  have cUf := hUXv16.free
  go_upto_region 21 with (go_at_call 26; (with_reducible refine (HU1.out _).mono ?_); rintro e v17 ⟨rfl, hb⟩)
  clear cU0 cU1 cU2 cU3 cU4 cU5 cUf
  have kX1 := hb.alloc hb.size (.cells #[.int .i64 y0, .int .i64 y1, .int .i64 y2, .int .i64 y3, .int .i64 y4, .int .i64 y5] 33)
  have hSXv17 : HoldsA (v17.alloc (.cells #[.int .i64 y0, .int .i64 y1, .int .i64 y2, .int .i64 y3, .int .i64 y4, .int .i64 y5] 33)) 33 gS a0 a1 a2 a3 a4 a5 := hSXv16.below kX1 hSXv16.lt
  have hDXv17 : HoldsA (v17.alloc (.cells #[.int .i64 y0, .int .i64 y1, .int .i64 y2, .int .i64 y3, .int .i64 y4, .int .i64 y5] 33)) 33 gD r0 r1 r2 r3 r4 r5 := hDXv16.below kX1 hDXv16.lt
  have hEXv17 : HoldsA (v17.alloc (.cells #[.int .i64 y0, .int .i64 y1, .int .i64 y2, .int .i64 y3, .int .i64 y4, .int .i64 y5] 33)) 33 gE r0 r1 r2 r3 r4 r5 := hEXv16.below kX1 hEXv16.lt
  have hPXv17 : Holds3 (v17.alloc (.cells #[.int .i64 y0, .int .i64 y1, .int .i64 y2, .int .i64 y3, .int .i64 y4, .int .i64 y5] 33)) 39 gP p0 p1 p2 := hPXv16.below kX1 hPXv16.lt
  have hQXv17 : Holds3 (v17.alloc (.cells #[.int .i64 y0, .int .i64 y1, .int .i64 y2, .int .i64 y3, .int .i64 y4, .int .i64 y5] 33)) 39 (gP + 1) q0 q1 q2 := hQXv16.below kX1 hQXv16.lt
  have hCXv17 : Holds3 (v17.alloc (.cells #[.int .i64 y0, .int .i64 y1, .int .i64 y2, .int .i64 y3, .int .i64 y4, .int .i64 y5] 33)) 39 gC c0 c1 c2 := hCXv16.below kX1 hCXv16.lt
  have hFXv17 : Holds3 (v17.alloc (.cells #[.int .i64 y0, .int .i64 y1, .int .i64 y2, .int .i64 y3, .int .i64 y4, .int .i64 y5] 33)) 39 gF c0 c1 c2 := hFXv16.below kX1 hFXv16.lt
  have hOXv17 : Holds3 (v17.alloc (.cells #[.int .i64 y0, .int .i64 y1, .int .i64 y2, .int .i64 y3, .int .i64 y4, .int .i64 y5] 33)) 39 gO b0 b1 b2 := hOXv16.below kX1 hOXv16.lt
  have hGXv17 : Holds3 (v17.alloc (.cells #[.int .i64 y0, .int .i64 y1, .int .i64 y2, .int .i64 y3, .int .i64 y4, .int .i64 y5] 33)) 39 gG b0 b1 b2 := hGXv16.below kX1 hGXv16.lt
  have hUXv17 : HoldsA (v17.alloc (.cells #[.int .i64 y0, .int .i64 y1, .int .i64 y2, .int .i64 y3, .int .i64 y4, .int .i64 y5] 33)) 33 gU j0 j1 j2 j3 j4 j5 := hUXv16.below kX1 hUXv16.lt
  have hBXv17 : Below w.heap.size w (v17.alloc (.cells #[.int .i64 y0, .int .i64 y1, .int .i64 y2, .int .i64 y3, .int .i64 y4, .int .i64 y5] 33)) := hBXv16.trans (kX1.mono hBXv16.size)
  have hVXv17 : HoldsA (v17.alloc (.cells #[.int .i64 y0, .int .i64 y1, .int .i64 y2, .int .i64 y3, .int .i64 y4, .int .i64 y5] 33)) 33 (v17.heap.size) y0 y1 y2 y3 y4 y5 := HoldsA.made' (by simp)
  clear hSXv16 hDXv16 hEXv16 hPXv16 hQXv16 hCXv16 hFXv16 hOXv16 hGXv16 hUXv16 hb hBXv16 kX1
  generalize hE : (v17.alloc (.cells #[.int .i64 y0, .int .i64 y1, .int .i64 y2, .int .i64 y3, .int .i64 y4, .int .i64 y5] 33)) = Xv17 at *
  clear hE
  generalize hE : v17.heap.size = gV at *
  clear hE
  clear HC
  have cU0 := hUXv17.c0
  have cU1 := hUXv17.c1
  have cU2 := hUXv17.c2
  have cU3 := hUXv17.c3
  have cU4 := hUXv17.c4
  have cU5 := hUXv17.c5
  have cUf := hUXv17.free
  go_upto_region 22 with (go_at_call 24; (with_reducible refine (HU2.out _).mono ?_); rintro e v18 ⟨rfl, hb⟩)
  clear cU0 cU1 cU2 cU3 cU4 cU5 cUf
  have kX1 := hb.alloc hb.size (.cells #[.int .i64 y0, .int .i64 y1, .int .i64 y2, .int .i64 y3, .int .i64 y4, .int .i64 y5] 33)
  have hSXv18 : HoldsA (v18.alloc (.cells #[.int .i64 y0, .int .i64 y1, .int .i64 y2, .int .i64 y3, .int .i64 y4, .int .i64 y5] 33)) 33 gS a0 a1 a2 a3 a4 a5 := hSXv17.below kX1 hSXv17.lt
  have hDXv18 : HoldsA (v18.alloc (.cells #[.int .i64 y0, .int .i64 y1, .int .i64 y2, .int .i64 y3, .int .i64 y4, .int .i64 y5] 33)) 33 gD r0 r1 r2 r3 r4 r5 := hDXv17.below kX1 hDXv17.lt
  have hEXv18 : HoldsA (v18.alloc (.cells #[.int .i64 y0, .int .i64 y1, .int .i64 y2, .int .i64 y3, .int .i64 y4, .int .i64 y5] 33)) 33 gE r0 r1 r2 r3 r4 r5 := hEXv17.below kX1 hEXv17.lt
  have hPXv18 : Holds3 (v18.alloc (.cells #[.int .i64 y0, .int .i64 y1, .int .i64 y2, .int .i64 y3, .int .i64 y4, .int .i64 y5] 33)) 39 gP p0 p1 p2 := hPXv17.below kX1 hPXv17.lt
  have hQXv18 : Holds3 (v18.alloc (.cells #[.int .i64 y0, .int .i64 y1, .int .i64 y2, .int .i64 y3, .int .i64 y4, .int .i64 y5] 33)) 39 (gP + 1) q0 q1 q2 := hQXv17.below kX1 hQXv17.lt
  have hCXv18 : Holds3 (v18.alloc (.cells #[.int .i64 y0, .int .i64 y1, .int .i64 y2, .int .i64 y3, .int .i64 y4, .int .i64 y5] 33)) 39 gC c0 c1 c2 := hCXv17.below kX1 hCXv17.lt
  have hFXv18 : Holds3 (v18.alloc (.cells #[.int .i64 y0, .int .i64 y1, .int .i64 y2, .int .i64 y3, .int .i64 y4, .int .i64 y5] 33)) 39 gF c0 c1 c2 := hFXv17.below kX1 hFXv17.lt
  have hOXv18 : Holds3 (v18.alloc (.cells #[.int .i64 y0, .int .i64 y1, .int .i64 y2, .int .i64 y3, .int .i64 y4, .int .i64 y5] 33)) 39 gO b0 b1 b2 := hOXv17.below kX1 hOXv17.lt
  have hGXv18 : Holds3 (v18.alloc (.cells #[.int .i64 y0, .int .i64 y1, .int .i64 y2, .int .i64 y3, .int .i64 y4, .int .i64 y5] 33)) 39 gG b0 b1 b2 := hGXv17.below kX1 hGXv17.lt
  have hUXv18 : HoldsA (v18.alloc (.cells #[.int .i64 y0, .int .i64 y1, .int .i64 y2, .int .i64 y3, .int .i64 y4, .int .i64 y5] 33)) 33 gU j0 j1 j2 j3 j4 j5 := hUXv17.below kX1 hUXv17.lt
  have hVXv18 : HoldsA (v18.alloc (.cells #[.int .i64 y0, .int .i64 y1, .int .i64 y2, .int .i64 y3, .int .i64 y4, .int .i64 y5] 33)) 33 gV y0 y1 y2 y3 y4 y5 := hVXv17.below kX1 hVXv17.lt
  have hBXv18 : Below w.heap.size w (v18.alloc (.cells #[.int .i64 y0, .int .i64 y1, .int .i64 y2, .int .i64 y3, .int .i64 y4, .int .i64 y5] 33)) := hBXv17.trans (kX1.mono hBXv17.size)
  have hWXv18 : HoldsA (v18.alloc (.cells #[.int .i64 y0, .int .i64 y1, .int .i64 y2, .int .i64 y3, .int .i64 y4, .int .i64 y5] 33)) 33 (v18.heap.size) y0 y1 y2 y3 y4 y5 := HoldsA.made' (by simp)
  clear hSXv17 hDXv17 hEXv17 hPXv17 hQXv17 hCXv17 hFXv17 hOXv17 hGXv17 hUXv17 hVXv17 hb hBXv17 kX1
  generalize hE : (v18.alloc (.cells #[.int .i64 y0, .int .i64 y1, .int .i64 y2, .int .i64 y3, .int .i64 y4, .int .i64 y5] 33)) = Xv18 at *
  clear hE
  generalize hE : v18.heap.size = gW at *
  clear hE
  clear HU1 HU2
  go_cut [266] from 187 to 266 (fun s266 wx => s266 = .bool false ∧ HoldsA wx 33 gS a0 a1 a2 a3 a4 a5 ∧ HoldsA wx 33 gD r0 r1 r2 r3 r4 r5 ∧ Holds3 wx 39 gP p0 p1 p2 ∧ Holds3 wx 39 (gP + 1) q0 q1 q2 ∧ Holds3 wx 39 gC c0 c1 c2 ∧ Holds3 wx 39 gO b0 b1 b2 ∧ HoldsA wx 33 gU j0 j1 j2 j3 j4 j5 ∧ Below w.heap.size w wx)
  case first => as_aux_lemma =>
    have cD0 := hDXv18.c0
    have cD1 := hDXv18.c1
    have cD2 := hDXv18.c2
    have cD3 := hDXv18.c3
    have cD4 := hDXv18.c4
    have cD5 := hDXv18.c5
    have cDf := hDXv18.free
    have cE0 := hEXv18.c0
    have cE1 := hEXv18.c1
    have cE2 := hEXv18.c2
    have cE3 := hEXv18.c3
    have cE4 := hEXv18.c4
    have cE5 := hEXv18.c5
    have cEf := hEXv18.free
    have cC0 := hCXv18.c0
    have cC1 := hCXv18.c1
    have cC2 := hCXv18.c2
    have cCf := hCXv18.free
    have cF0 := hFXv18.c0
    have cF1 := hFXv18.c1
    have cF2 := hFXv18.c2
    have cFf := hFXv18.free
    have cO0 := hOXv18.c0
    have cO1 := hOXv18.c1
    have cO2 := hOXv18.c2
    have cOf := hOXv18.free
    have cG0 := hGXv18.c0
    have cG1 := hGXv18.c1
    have cG2 := hGXv18.c2
    have cGf := hGXv18.free
    have cV0 := hVXv18.c0
    have cV1 := hVXv18.c1
    have cV2 := hVXv18.c2
    have cV3 := hVXv18.c3
    have cV4 := hVXv18.c4
    have cV5 := hVXv18.c5
    have cVf := hVXv18.free
    have cW0 := hWXv18.c0
    have cW1 := hWXv18.c1
    have cW2 := hWXv18.c2
    have cW3 := hWXv18.c3
    have cW4 := hWXv18.c4
    have cW5 := hWXv18.c5
    have cWf := hWXv18.free
    have hct : ok = true → there = true := fun h => (HMO.out h).1
    clear HMO HFI HTH HTW HON HFO
    cases ok with
    | false => (clear hct; go_wp2_with fail; go_meet; exact ⟨rfl, hSXv18, hDXv18, hPXv18, hQXv18, hCXv18, hOXv18, hUXv18, hBXv18⟩)
    | true =>
      have ht := hct rfl
      subst ht
      clear hct
      (go_wp2_with fail; go_meet; exact ⟨rfl, hSXv18, hDXv18, hPXv18, hQXv18, hCXv18, hOXv18, hUXv18, hBXv18⟩)
  case rest =>
    clear hSXv18 hDXv18 hEXv18 hPXv18 hQXv18 hCXv18 hFXv18 hOXv18 hGXv18 hUXv18 hVXv18 hWXv18 hBXv18
    obtain ⟨rfl, hSZ19, hDZ19, hPZ19, hQZ19, hCZ19, hOZ19, hUZ19, hBZ19⟩ := hcut
    generalize hE : wc = Z19 at *
    clear hE wc
    go_upto_if 267 with fail
    go_cut [44, 45, 46, 47, 48, 49, 50, 51, 52, 53, 54, 55, 56, 57, 58, 59, 60, 61, 62, 63] from 268 to 383 (fun s44 s45 s46 s47 s48 s49 s50 s51 s52 s53 s54 s55 s56 s57 s58 s59 s60 s61 s62 s63 wx => HoldsA wx 33 gU j0 j1 j2 j3 j4 j5 ∧ Below w.heap.size w wx)
    case first => as_aux_lemma =>
      cases ok with
      | false => (go_wp2_with fail; go_meet; exact ⟨hUZ19, hBZ19⟩)
      | true =>
        obtain ⟨-, hok6, hmb, sz, hs1, hs2⟩ := HMO.out rfl
        have HOK6 := Lib.hid hok6
        have HMB := Lib.hid hmb
        have HS1 := Lib.hid hs1
        have HS2 := Lib.hid hs2
        clear hok6 hmb hs1 hs2
        clear HMO
        have cD0 := hDZ19.c0
        have cD1 := hDZ19.c1
        have cD2 := hDZ19.c2
        have cD3 := hDZ19.c3
        have cD4 := hDZ19.c4
        have cD5 := hDZ19.c5
        have cDf := hDZ19.free
        have cO0 := hOZ19.c0
        have cO1 := hOZ19.c1
        have cO2 := hOZ19.c2
        have cOf := hOZ19.free
        go_upto_region 26 with (go_at_call 35; (with_reducible refine (HMB.out _).mono ?_); rintro e v21 ⟨rfl, hb⟩)
        clear cD0 cD1 cD2 cD3 cD4 cD5 cDf cO0 cO1 cO2 cOf
        have kX1 := hb.alloc hb.size (.cells #[.int .i64 a0, .int .i64 a1, .int .i64 a2, .int .i64 a3, .int .i64 a4, .int .i64 a5] 33)
        have hSXv21 : HoldsA (v21.alloc (.cells #[.int .i64 a0, .int .i64 a1, .int .i64 a2, .int .i64 a3, .int .i64 a4, .int .i64 a5] 33)) 33 gS a0 a1 a2 a3 a4 a5 := hSZ19.below kX1 hSZ19.lt
        have hDXv21 : HoldsA (v21.alloc (.cells #[.int .i64 a0, .int .i64 a1, .int .i64 a2, .int .i64 a3, .int .i64 a4, .int .i64 a5] 33)) 33 gD r0 r1 r2 r3 r4 r5 := hDZ19.below kX1 hDZ19.lt
        have hPXv21 : Holds3 (v21.alloc (.cells #[.int .i64 a0, .int .i64 a1, .int .i64 a2, .int .i64 a3, .int .i64 a4, .int .i64 a5] 33)) 39 gP p0 p1 p2 := hPZ19.below kX1 hPZ19.lt
        have hQXv21 : Holds3 (v21.alloc (.cells #[.int .i64 a0, .int .i64 a1, .int .i64 a2, .int .i64 a3, .int .i64 a4, .int .i64 a5] 33)) 39 (gP + 1) q0 q1 q2 := hQZ19.below kX1 hQZ19.lt
        have hCXv21 : Holds3 (v21.alloc (.cells #[.int .i64 a0, .int .i64 a1, .int .i64 a2, .int .i64 a3, .int .i64 a4, .int .i64 a5] 33)) 39 gC c0 c1 c2 := hCZ19.below kX1 hCZ19.lt
        have hOXv21 : Holds3 (v21.alloc (.cells #[.int .i64 a0, .int .i64 a1, .int .i64 a2, .int .i64 a3, .int .i64 a4, .int .i64 a5] 33)) 39 gO b0 b1 b2 := hOZ19.below kX1 hOZ19.lt
        have hUXv21 : HoldsA (v21.alloc (.cells #[.int .i64 a0, .int .i64 a1, .int .i64 a2, .int .i64 a3, .int .i64 a4, .int .i64 a5] 33)) 33 gU j0 j1 j2 j3 j4 j5 := hUZ19.below kX1 hUZ19.lt
        have hBXv21 : Below w.heap.size w (v21.alloc (.cells #[.int .i64 a0, .int .i64 a1, .int .i64 a2, .int .i64 a3, .int .i64 a4, .int .i64 a5] 33)) := hBZ19.trans (kX1.mono hBZ19.size)
        have hAXv21 : HoldsA (v21.alloc (.cells #[.int .i64 a0, .int .i64 a1, .int .i64 a2, .int .i64 a3, .int .i64 a4, .int .i64 a5] 33)) 33 (v21.heap.size) a0 a1 a2 a3 a4 a5 := HoldsA.made' (by simp)
        clear hSZ19 hDZ19 hPZ19 hQZ19 hCZ19 hOZ19 hUZ19 hb hBZ19 kX1
        generalize hE : (v21.alloc (.cells #[.int .i64 a0, .int .i64 a1, .int .i64 a2, .int .i64 a3, .int .i64 a4, .int .i64 a5] 33)) = Xv21 at *
        clear hE
        generalize hE : v21.heap.size = gA at *
        clear hE
        have cS0 := hSXv21.c0
        have cS1 := hSXv21.c1
        have cS2 := hSXv21.c2
        have cS3 := hSXv21.c3
        have cS4 := hSXv21.c4
        have cS5 := hSXv21.c5
        have cSf := hSXv21.free
        go_upto_region 27 with (go_at_call 58; (with_reducible refine (HS1.out _).mono ?_); rintro e v22 ⟨rfl, hb⟩)
        clear cS0 cS1 cS2 cS3 cS4 cS5 cSf
        have hSv22 : HoldsA v22 33 gS a0 a1 a2 a3 a4 a5 := hSXv21.below hb hSXv21.lt
        have hDv22 : HoldsA v22 33 gD r0 r1 r2 r3 r4 r5 := hDXv21.below hb hDXv21.lt
        have hPv22 : Holds3 v22 39 gP p0 p1 p2 := hPXv21.below hb hPXv21.lt
        have hQv22 : Holds3 v22 39 (gP + 1) q0 q1 q2 := hQXv21.below hb hQXv21.lt
        have hCv22 : Holds3 v22 39 gC c0 c1 c2 := hCXv21.below hb hCXv21.lt
        have hOv22 : Holds3 v22 39 gO b0 b1 b2 := hOXv21.below hb hOXv21.lt
        have hUv22 : HoldsA v22 33 gU j0 j1 j2 j3 j4 j5 := hUXv21.below hb hUXv21.lt
        have hAv22 : HoldsA v22 33 gA a0 a1 a2 a3 a4 a5 := hAXv21.below hb hAXv21.lt
        have hBv22 : Below w.heap.size w v22 := hBXv21.trans (hb.mono hBXv21.size)
        clear hSXv21 hDXv21 hPXv21 hQXv21 hCXv21 hOXv21 hUXv21 hAXv21 hb hBXv21
        have cD0 := hDv22.c0
        have cD1 := hDv22.c1
        have cD2 := hDv22.c2
        have cD3 := hDv22.c3
        have cD4 := hDv22.c4
        have cD5 := hDv22.c5
        have cDf := hDv22.free
        go_upto_region 28 with (go_at_call 58; (with_reducible refine (HS2.out _).mono ?_); rintro e v23 ⟨rfl, hb⟩)
        clear cD0 cD1 cD2 cD3 cD4 cD5 cDf
        have hSv23 : HoldsA v23 33 gS a0 a1 a2 a3 a4 a5 := hSv22.below hb hSv22.lt
        have hDv23 : HoldsA v23 33 gD r0 r1 r2 r3 r4 r5 := hDv22.below hb hDv22.lt
        have hPv23 : Holds3 v23 39 gP p0 p1 p2 := hPv22.below hb hPv22.lt
        have hQv23 : Holds3 v23 39 (gP + 1) q0 q1 q2 := hQv22.below hb hQv22.lt
        have hCv23 : Holds3 v23 39 gC c0 c1 c2 := hCv22.below hb hCv22.lt
        have hOv23 : Holds3 v23 39 gO b0 b1 b2 := hOv22.below hb hOv22.lt
        have hUv23 : HoldsA v23 33 gU j0 j1 j2 j3 j4 j5 := hUv22.below hb hUv22.lt
        have hAv23 : HoldsA v23 33 gA a0 a1 a2 a3 a4 a5 := hAv22.below hb hAv22.lt
        have hBv23 : Below w.heap.size w v23 := hBv22.trans (hb.mono hBv22.size)
        clear hSv22 hDv22 hPv22 hQv22 hCv22 hOv22 hUv22 hAv22 hb hBv22
        have cA0 := hAv23.c0
        have cA1 := hAv23.c1
        have cA2 := hAv23.c2
        have cA3 := hAv23.c3
        have cA4 := hAv23.c4
        have cA5 := hAv23.c5
        have cAf := hAv23.free
        have cS0 := hSv23.c0
        have cS1 := hSv23.c1
        have cS2 := hSv23.c2
        have cS3 := hSv23.c3
        have cS4 := hSv23.c4
        have cS5 := hSv23.c5
        have cSf := hSv23.free
        go_upto_if 304 with fail
        clear cA0 cA1 cA2 cA3 cA4 cA5 cAf cS0 cS1 cS2 cS3 cS4 cS5 cSf
        clear hAv23 hDv23 hOv23
        clear HMB HS1 HS2
        go_cut [50, 51, 52, 53, 54, 55] from 305 to 337 (fun s50 s51 s52 s53 s54 s55 wx => HoldsA wx 33 gS a0 a1 a2 a3 a4 a5 ∧ HoldsA wx 33 gU j0 j1 j2 j3 j4 j5 ∧ Below w.heap.size w wx)
        case first => as_aux_lemma =>
          cases fine with
          | false => (go_wp2_with fail; go_meet; exact ⟨hSv23, hUv23, hBv23⟩)
          | true =>
            obtain ⟨f0, f1, f2, f3, f4, f5, s0, s1, s2, s3, s4, s5, hx1, hx2, hx3⟩ := HFI.out rfl _ _ _ _ _ _ HOK6.out
            have HX1 := Lib.hid hx1
            have HX2 := Lib.hid hx2
            have HX3 := Lib.hid hx3
            clear hx1 hx2 hx3
            clear HFI
            go_upto_region 31 with fail
            have cS0 := hSv23.c0
            have cS1 := hSv23.c1
            have cS2 := hSv23.c2
            have cS3 := hSv23.c3
            have cS4 := hSv23.c4
            have cS5 := hSv23.c5
            have cSf := hSv23.free
            have cP0 := hPv23.c0
            have cP1 := hPv23.c1
            have cP2 := hPv23.c2
            have cPf := hPv23.free
            go_upto_region 32 with (go_at_call 35; (with_reducible refine (HX1.out _).mono ?_); rintro e v25 ⟨rfl, hb⟩)
            clear cS0 cS1 cS2 cS3 cS4 cS5 cSf cP0 cP1 cP2 cPf
            have kX1 := hb.alloc hb.size (.cells #[.int .i64 f0, .int .i64 f1, .int .i64 f2, .int .i64 f3, .int .i64 f4, .int .i64 f5] 33)
            have hSXv25 : HoldsA (v25.alloc (.cells #[.int .i64 f0, .int .i64 f1, .int .i64 f2, .int .i64 f3, .int .i64 f4, .int .i64 f5] 33)) 33 gS a0 a1 a2 a3 a4 a5 := hSv23.below kX1 hSv23.lt
            have hPXv25 : Holds3 (v25.alloc (.cells #[.int .i64 f0, .int .i64 f1, .int .i64 f2, .int .i64 f3, .int .i64 f4, .int .i64 f5] 33)) 39 gP p0 p1 p2 := hPv23.below kX1 hPv23.lt
            have hQXv25 : Holds3 (v25.alloc (.cells #[.int .i64 f0, .int .i64 f1, .int .i64 f2, .int .i64 f3, .int .i64 f4, .int .i64 f5] 33)) 39 (gP + 1) q0 q1 q2 := hQv23.below kX1 hQv23.lt
            have hCXv25 : Holds3 (v25.alloc (.cells #[.int .i64 f0, .int .i64 f1, .int .i64 f2, .int .i64 f3, .int .i64 f4, .int .i64 f5] 33)) 39 gC c0 c1 c2 := hCv23.below kX1 hCv23.lt
            have hUXv25 : HoldsA (v25.alloc (.cells #[.int .i64 f0, .int .i64 f1, .int .i64 f2, .int .i64 f3, .int .i64 f4, .int .i64 f5] 33)) 33 gU j0 j1 j2 j3 j4 j5 := hUv23.below kX1 hUv23.lt
            have hBXv25 : Below w.heap.size w (v25.alloc (.cells #[.int .i64 f0, .int .i64 f1, .int .i64 f2, .int .i64 f3, .int .i64 f4, .int .i64 f5] 33)) := hBv23.trans (kX1.mono hBv23.size)
            have hIXv25 : HoldsA (v25.alloc (.cells #[.int .i64 f0, .int .i64 f1, .int .i64 f2, .int .i64 f3, .int .i64 f4, .int .i64 f5] 33)) 33 (v25.heap.size) f0 f1 f2 f3 f4 f5 := HoldsA.made' (by simp)
            clear hSv23 hPv23 hQv23 hCv23 hUv23 hb hBv23 kX1
            generalize hE : (v25.alloc (.cells #[.int .i64 f0, .int .i64 f1, .int .i64 f2, .int .i64 f3, .int .i64 f4, .int .i64 f5] 33)) = Xv25 at *
            clear hE
            generalize hE : v25.heap.size = gI at *
            clear hE
            have cI0 := hIXv25.c0
            have cI1 := hIXv25.c1
            have cI2 := hIXv25.c2
            have cI3 := hIXv25.c3
            have cI4 := hIXv25.c4
            have cI5 := hIXv25.c5
            have cIf := hIXv25.free
            have cQ0 := hQXv25.c0
            have cQ1 := hQXv25.c1
            have cQ2 := hQXv25.c2
            have cQf := hQXv25.free
            go_upto_region 33 with (go_at_call 35; (with_reducible refine (HX2.out _).mono ?_); rintro e v26 ⟨rfl, hb⟩)
            clear cI0 cI1 cI2 cI3 cI4 cI5 cIf cQ0 cQ1 cQ2 cQf
            have kX1 := hb.alloc hb.size (.cells #[.int .i64 s0, .int .i64 s1, .int .i64 s2, .int .i64 s3, .int .i64 s4, .int .i64 s5] 33)
            have hSXv26 : HoldsA (v26.alloc (.cells #[.int .i64 s0, .int .i64 s1, .int .i64 s2, .int .i64 s3, .int .i64 s4, .int .i64 s5] 33)) 33 gS a0 a1 a2 a3 a4 a5 := hSXv25.below kX1 hSXv25.lt
            have hPXv26 : Holds3 (v26.alloc (.cells #[.int .i64 s0, .int .i64 s1, .int .i64 s2, .int .i64 s3, .int .i64 s4, .int .i64 s5] 33)) 39 gP p0 p1 p2 := hPXv25.below kX1 hPXv25.lt
            have hQXv26 : Holds3 (v26.alloc (.cells #[.int .i64 s0, .int .i64 s1, .int .i64 s2, .int .i64 s3, .int .i64 s4, .int .i64 s5] 33)) 39 (gP + 1) q0 q1 q2 := hQXv25.below kX1 hQXv25.lt
            have hCXv26 : Holds3 (v26.alloc (.cells #[.int .i64 s0, .int .i64 s1, .int .i64 s2, .int .i64 s3, .int .i64 s4, .int .i64 s5] 33)) 39 gC c0 c1 c2 := hCXv25.below kX1 hCXv25.lt
            have hUXv26 : HoldsA (v26.alloc (.cells #[.int .i64 s0, .int .i64 s1, .int .i64 s2, .int .i64 s3, .int .i64 s4, .int .i64 s5] 33)) 33 gU j0 j1 j2 j3 j4 j5 := hUXv25.below kX1 hUXv25.lt
            have hIXv26 : HoldsA (v26.alloc (.cells #[.int .i64 s0, .int .i64 s1, .int .i64 s2, .int .i64 s3, .int .i64 s4, .int .i64 s5] 33)) 33 gI f0 f1 f2 f3 f4 f5 := hIXv25.below kX1 hIXv25.lt
            have hBXv26 : Below w.heap.size w (v26.alloc (.cells #[.int .i64 s0, .int .i64 s1, .int .i64 s2, .int .i64 s3, .int .i64 s4, .int .i64 s5] 33)) := hBXv25.trans (kX1.mono hBXv25.size)
            have hJXv26 : HoldsA (v26.alloc (.cells #[.int .i64 s0, .int .i64 s1, .int .i64 s2, .int .i64 s3, .int .i64 s4, .int .i64 s5] 33)) 33 (v26.heap.size) s0 s1 s2 s3 s4 s5 := HoldsA.made' (by simp)
            clear hSXv25 hPXv25 hQXv25 hCXv25 hUXv25 hIXv25 hb hBXv25 kX1
            generalize hE : (v26.alloc (.cells #[.int .i64 s0, .int .i64 s1, .int .i64 s2, .int .i64 s3, .int .i64 s4, .int .i64 s5] 33)) = Xv26 at *
            clear hE
            generalize hE : v26.heap.size = gJ at *
            clear hE
            have cS0 := hSXv26.c0
            have cS1 := hSXv26.c1
            have cS2 := hSXv26.c2
            have cS3 := hSXv26.c3
            have cS4 := hSXv26.c4
            have cS5 := hSXv26.c5
            have cSf := hSXv26.free
            have cC0 := hCXv26.c0
            have cC1 := hCXv26.c1
            have cC2 := hCXv26.c2
            have cCf := hCXv26.free
            go_upto_region 34 with (go_at_call 35; (with_reducible refine (HX3.out _).mono ?_); rintro e v27 ⟨rfl, hb⟩)
            clear cS0 cS1 cS2 cS3 cS4 cS5 cSf cC0 cC1 cC2 cCf
            have kX1 := hb.alloc hb.size (.cells #[.int .i64 s0, .int .i64 s1, .int .i64 s2, .int .i64 s3, .int .i64 s4, .int .i64 s5] 33)
            have hSXv27 : HoldsA (v27.alloc (.cells #[.int .i64 s0, .int .i64 s1, .int .i64 s2, .int .i64 s3, .int .i64 s4, .int .i64 s5] 33)) 33 gS a0 a1 a2 a3 a4 a5 := hSXv26.below kX1 hSXv26.lt
            have hPXv27 : Holds3 (v27.alloc (.cells #[.int .i64 s0, .int .i64 s1, .int .i64 s2, .int .i64 s3, .int .i64 s4, .int .i64 s5] 33)) 39 gP p0 p1 p2 := hPXv26.below kX1 hPXv26.lt
            have hQXv27 : Holds3 (v27.alloc (.cells #[.int .i64 s0, .int .i64 s1, .int .i64 s2, .int .i64 s3, .int .i64 s4, .int .i64 s5] 33)) 39 (gP + 1) q0 q1 q2 := hQXv26.below kX1 hQXv26.lt
            have hCXv27 : Holds3 (v27.alloc (.cells #[.int .i64 s0, .int .i64 s1, .int .i64 s2, .int .i64 s3, .int .i64 s4, .int .i64 s5] 33)) 39 gC c0 c1 c2 := hCXv26.below kX1 hCXv26.lt
            have hUXv27 : HoldsA (v27.alloc (.cells #[.int .i64 s0, .int .i64 s1, .int .i64 s2, .int .i64 s3, .int .i64 s4, .int .i64 s5] 33)) 33 gU j0 j1 j2 j3 j4 j5 := hUXv26.below kX1 hUXv26.lt
            have hIXv27 : HoldsA (v27.alloc (.cells #[.int .i64 s0, .int .i64 s1, .int .i64 s2, .int .i64 s3, .int .i64 s4, .int .i64 s5] 33)) 33 gI f0 f1 f2 f3 f4 f5 := hIXv26.below kX1 hIXv26.lt
            have hJXv27 : HoldsA (v27.alloc (.cells #[.int .i64 s0, .int .i64 s1, .int .i64 s2, .int .i64 s3, .int .i64 s4, .int .i64 s5] 33)) 33 gJ s0 s1 s2 s3 s4 s5 := hJXv26.below kX1 hJXv26.lt
            have hBXv27 : Below w.heap.size w (v27.alloc (.cells #[.int .i64 s0, .int .i64 s1, .int .i64 s2, .int .i64 s3, .int .i64 s4, .int .i64 s5] 33)) := hBXv26.trans (kX1.mono hBXv26.size)
            have hKXv27 : HoldsA (v27.alloc (.cells #[.int .i64 s0, .int .i64 s1, .int .i64 s2, .int .i64 s3, .int .i64 s4, .int .i64 s5] 33)) 33 (v27.heap.size) s0 s1 s2 s3 s4 s5 := HoldsA.made' (by simp)
            clear hSXv26 hPXv26 hQXv26 hCXv26 hUXv26 hIXv26 hJXv26 hb hBXv26 kX1
            generalize hE : (v27.alloc (.cells #[.int .i64 s0, .int .i64 s1, .int .i64 s2, .int .i64 s3, .int .i64 s4, .int .i64 s5] 33)) = Xv27 at *
            clear hE
            generalize hE : v27.heap.size = gK at *
            clear hE
            have cJ0 := hJXv27.c0
            have cJ1 := hJXv27.c1
            have cJ2 := hJXv27.c2
            have cJ3 := hJXv27.c3
            have cJ4 := hJXv27.c4
            have cJ5 := hJXv27.c5
            have cJf := hJXv27.free
            have cK0 := hKXv27.c0
            have cK1 := hKXv27.c1
            have cK2 := hKXv27.c2
            have cK3 := hKXv27.c3
            have cK4 := hKXv27.c4
            have cK5 := hKXv27.c5
            have cKf := hKXv27.free
            (go_wp2_with fail; go_meet; exact ⟨hSXv27, hUXv27, hBXv27⟩)
        case rest =>
          clear hSv23 hPv23 hQv23 hCv23 hUv23 hBv23
          obtain ⟨hSZ24, hUZ24, hBZ24⟩ := hcut
          generalize hE : wc = Z24 at *
          clear hE wc
          go_upto_region 36 with fail
          cases three with
          | false => (go_wp2_with fail; go_meet; exact ⟨hUZ24, hBZ24⟩)
          | true =>
            obtain ⟨h0, h1, h2, h3, h4, h5, f0, f1, f2, f3, f4, f5, p0, p1, p2, p3, p4, p5, hx1, hx2, hx3, hx4⟩ := HTH.out rfl _ _ _ _ _ _ HOK6.out
            have HX1 := Lib.hid hx1
            have HX2 := Lib.hid hx2
            have HX3 := Lib.hid hx3
            have HX4 := Lib.hid hx4
            clear hx1 hx2 hx3 hx4
            clear HTH
            go_upto_region 37 with fail
            have cS0 := hSZ24.c0
            have cS1 := hSZ24.c1
            have cS2 := hSZ24.c2
            have cS3 := hSZ24.c3
            have cS4 := hSZ24.c4
            have cS5 := hSZ24.c5
            have cSf := hSZ24.free
            go_upto_region 38 with (go_at_call 59; (with_reducible refine (HX1.out _).mono ?_); rintro e v28 ⟨rfl, hb⟩)
            clear cS0 cS1 cS2 cS3 cS4 cS5 cSf
            have kX1 := hb.alloc hb.size (.cells #[.int .i64 h0, .int .i64 h1, .int .i64 h2, .int .i64 h3, .int .i64 h4, .int .i64 h5] 33)
            have hSXv28 : HoldsA (v28.alloc (.cells #[.int .i64 h0, .int .i64 h1, .int .i64 h2, .int .i64 h3, .int .i64 h4, .int .i64 h5] 33)) 33 gS a0 a1 a2 a3 a4 a5 := hSZ24.below kX1 hSZ24.lt
            have hUXv28 : HoldsA (v28.alloc (.cells #[.int .i64 h0, .int .i64 h1, .int .i64 h2, .int .i64 h3, .int .i64 h4, .int .i64 h5] 33)) 33 gU j0 j1 j2 j3 j4 j5 := hUZ24.below kX1 hUZ24.lt
            have hBXv28 : Below w.heap.size w (v28.alloc (.cells #[.int .i64 h0, .int .i64 h1, .int .i64 h2, .int .i64 h3, .int .i64 h4, .int .i64 h5] 33)) := hBZ24.trans (kX1.mono hBZ24.size)
            have hIXv28 : HoldsA (v28.alloc (.cells #[.int .i64 h0, .int .i64 h1, .int .i64 h2, .int .i64 h3, .int .i64 h4, .int .i64 h5] 33)) 33 (v28.heap.size) h0 h1 h2 h3 h4 h5 := HoldsA.made' (by simp)
            clear hSZ24 hUZ24 hb hBZ24 kX1
            generalize hE : (v28.alloc (.cells #[.int .i64 h0, .int .i64 h1, .int .i64 h2, .int .i64 h3, .int .i64 h4, .int .i64 h5] 33)) = Xv28 at *
            clear hE
            generalize hE : v28.heap.size = gI at *
            clear hE
            have cI0 := hIXv28.c0
            have cI1 := hIXv28.c1
            have cI2 := hIXv28.c2
            have cI3 := hIXv28.c3
            have cI4 := hIXv28.c4
            have cI5 := hIXv28.c5
            have cIf := hIXv28.free
            go_upto_region 39 with (go_at_call 26; (with_reducible refine (HX2.out _).mono ?_); rintro e v29 ⟨rfl, hb⟩)
            clear cI0 cI1 cI2 cI3 cI4 cI5 cIf
            have kX1 := hb.alloc hb.size (.cells #[.int .i64 f0, .int .i64 f1, .int .i64 f2, .int .i64 f3, .int .i64 f4, .int .i64 f5] 33)
            have hSXv29 : HoldsA (v29.alloc (.cells #[.int .i64 f0, .int .i64 f1, .int .i64 f2, .int .i64 f3, .int .i64 f4, .int .i64 f5] 33)) 33 gS a0 a1 a2 a3 a4 a5 := hSXv28.below kX1 hSXv28.lt
            have hUXv29 : HoldsA (v29.alloc (.cells #[.int .i64 f0, .int .i64 f1, .int .i64 f2, .int .i64 f3, .int .i64 f4, .int .i64 f5] 33)) 33 gU j0 j1 j2 j3 j4 j5 := hUXv28.below kX1 hUXv28.lt
            have hIXv29 : HoldsA (v29.alloc (.cells #[.int .i64 f0, .int .i64 f1, .int .i64 f2, .int .i64 f3, .int .i64 f4, .int .i64 f5] 33)) 33 gI h0 h1 h2 h3 h4 h5 := hIXv28.below kX1 hIXv28.lt
            have hBXv29 : Below w.heap.size w (v29.alloc (.cells #[.int .i64 f0, .int .i64 f1, .int .i64 f2, .int .i64 f3, .int .i64 f4, .int .i64 f5] 33)) := hBXv28.trans (kX1.mono hBXv28.size)
            have hJXv29 : HoldsA (v29.alloc (.cells #[.int .i64 f0, .int .i64 f1, .int .i64 f2, .int .i64 f3, .int .i64 f4, .int .i64 f5] 33)) 33 (v29.heap.size) f0 f1 f2 f3 f4 f5 := HoldsA.made' (by simp)
            clear hSXv28 hUXv28 hIXv28 hb hBXv28 kX1
            generalize hE : (v29.alloc (.cells #[.int .i64 f0, .int .i64 f1, .int .i64 f2, .int .i64 f3, .int .i64 f4, .int .i64 f5] 33)) = Xv29 at *
            clear hE
            generalize hE : v29.heap.size = gJ at *
            clear hE
            have cS0 := hSXv29.c0
            have cS1 := hSXv29.c1
            have cS2 := hSXv29.c2
            have cS3 := hSXv29.c3
            have cS4 := hSXv29.c4
            have cS5 := hSXv29.c5
            have cSf := hSXv29.free
            go_upto_region 40 with (go_at_call 26; (with_reducible refine (HX3.out _).mono ?_); rintro e v30 ⟨rfl, hb⟩)
            clear cS0 cS1 cS2 cS3 cS4 cS5 cSf
            have kX1 := hb.alloc hb.size (.cells #[.int .i64 p0, .int .i64 p1, .int .i64 p2, .int .i64 p3, .int .i64 p4, .int .i64 p5] 33)
            have hSXv30 : HoldsA (v30.alloc (.cells #[.int .i64 p0, .int .i64 p1, .int .i64 p2, .int .i64 p3, .int .i64 p4, .int .i64 p5] 33)) 33 gS a0 a1 a2 a3 a4 a5 := hSXv29.below kX1 hSXv29.lt
            have hUXv30 : HoldsA (v30.alloc (.cells #[.int .i64 p0, .int .i64 p1, .int .i64 p2, .int .i64 p3, .int .i64 p4, .int .i64 p5] 33)) 33 gU j0 j1 j2 j3 j4 j5 := hUXv29.below kX1 hUXv29.lt
            have hIXv30 : HoldsA (v30.alloc (.cells #[.int .i64 p0, .int .i64 p1, .int .i64 p2, .int .i64 p3, .int .i64 p4, .int .i64 p5] 33)) 33 gI h0 h1 h2 h3 h4 h5 := hIXv29.below kX1 hIXv29.lt
            have hJXv30 : HoldsA (v30.alloc (.cells #[.int .i64 p0, .int .i64 p1, .int .i64 p2, .int .i64 p3, .int .i64 p4, .int .i64 p5] 33)) 33 gJ f0 f1 f2 f3 f4 f5 := hJXv29.below kX1 hJXv29.lt
            have hBXv30 : Below w.heap.size w (v30.alloc (.cells #[.int .i64 p0, .int .i64 p1, .int .i64 p2, .int .i64 p3, .int .i64 p4, .int .i64 p5] 33)) := hBXv29.trans (kX1.mono hBXv29.size)
            have hKXv30 : HoldsA (v30.alloc (.cells #[.int .i64 p0, .int .i64 p1, .int .i64 p2, .int .i64 p3, .int .i64 p4, .int .i64 p5] 33)) 33 (v30.heap.size) p0 p1 p2 p3 p4 p5 := HoldsA.made' (by simp)
            clear hSXv29 hUXv29 hIXv29 hJXv29 hb hBXv29 kX1
            generalize hE : (v30.alloc (.cells #[.int .i64 p0, .int .i64 p1, .int .i64 p2, .int .i64 p3, .int .i64 p4, .int .i64 p5] 33)) = Xv30 at *
            clear hE
            generalize hE : v30.heap.size = gK at *
            clear hE
            have cK0 := hKXv30.c0
            have cK1 := hKXv30.c1
            have cK2 := hKXv30.c2
            have cK3 := hKXv30.c3
            have cK4 := hKXv30.c4
            have cK5 := hKXv30.c5
            have cKf := hKXv30.free
            go_upto_region 41 with (go_at_call 59; (with_reducible refine (HX4.out _).mono ?_); rintro e v31 ⟨rfl, hb⟩)
            clear cK0 cK1 cK2 cK3 cK4 cK5 cKf
            have kX1 := hb.alloc hb.size (.cells #[.int .i64 f0, .int .i64 f1, .int .i64 f2, .int .i64 f3, .int .i64 f4, .int .i64 f5] 33)
            have hSXv31 : HoldsA (v31.alloc (.cells #[.int .i64 f0, .int .i64 f1, .int .i64 f2, .int .i64 f3, .int .i64 f4, .int .i64 f5] 33)) 33 gS a0 a1 a2 a3 a4 a5 := hSXv30.below kX1 hSXv30.lt
            have hUXv31 : HoldsA (v31.alloc (.cells #[.int .i64 f0, .int .i64 f1, .int .i64 f2, .int .i64 f3, .int .i64 f4, .int .i64 f5] 33)) 33 gU j0 j1 j2 j3 j4 j5 := hUXv30.below kX1 hUXv30.lt
            have hIXv31 : HoldsA (v31.alloc (.cells #[.int .i64 f0, .int .i64 f1, .int .i64 f2, .int .i64 f3, .int .i64 f4, .int .i64 f5] 33)) 33 gI h0 h1 h2 h3 h4 h5 := hIXv30.below kX1 hIXv30.lt
            have hJXv31 : HoldsA (v31.alloc (.cells #[.int .i64 f0, .int .i64 f1, .int .i64 f2, .int .i64 f3, .int .i64 f4, .int .i64 f5] 33)) 33 gJ f0 f1 f2 f3 f4 f5 := hJXv30.below kX1 hJXv30.lt
            have hKXv31 : HoldsA (v31.alloc (.cells #[.int .i64 f0, .int .i64 f1, .int .i64 f2, .int .i64 f3, .int .i64 f4, .int .i64 f5] 33)) 33 gK p0 p1 p2 p3 p4 p5 := hKXv30.below kX1 hKXv30.lt
            have hBXv31 : Below w.heap.size w (v31.alloc (.cells #[.int .i64 f0, .int .i64 f1, .int .i64 f2, .int .i64 f3, .int .i64 f4, .int .i64 f5] 33)) := hBXv30.trans (kX1.mono hBXv30.size)
            have hLXv31 : HoldsA (v31.alloc (.cells #[.int .i64 f0, .int .i64 f1, .int .i64 f2, .int .i64 f3, .int .i64 f4, .int .i64 f5] 33)) 33 (v31.heap.size) f0 f1 f2 f3 f4 f5 := HoldsA.made' (by simp)
            clear hSXv30 hUXv30 hIXv30 hJXv30 hKXv30 hb hBXv30 kX1
            generalize hE : (v31.alloc (.cells #[.int .i64 f0, .int .i64 f1, .int .i64 f2, .int .i64 f3, .int .i64 f4, .int .i64 f5] 33)) = Xv31 at *
            clear hE
            generalize hE : v31.heap.size = gL at *
            clear hE
            have cJ0 := hJXv31.c0
            have cJ1 := hJXv31.c1
            have cJ2 := hJXv31.c2
            have cJ3 := hJXv31.c3
            have cJ4 := hJXv31.c4
            have cJ5 := hJXv31.c5
            have cJf := hJXv31.free
            have cL0 := hLXv31.c0
            have cL1 := hLXv31.c1
            have cL2 := hLXv31.c2
            have cL3 := hLXv31.c3
            have cL4 := hLXv31.c4
            have cL5 := hLXv31.c5
            have cLf := hLXv31.free
            (go_wp2_with fail; go_meet; exact ⟨hUXv31, hBXv31⟩)
    case rest =>
      clear hSZ19 hDZ19 hPZ19 hQZ19 hCZ19 hOZ19 hUZ19 hBZ19
      obtain ⟨hUZ20, hBZ20⟩ := hcut
      generalize hE : wc = Z20 at *
      clear hE wc
      clear HMO HFI HTH
      go_upto_if 384 with fail
      go_cut [64, 65] from 385 to 396 (fun s64 s65 wx => HoldsA wx 33 gU j0 j1 j2 j3 j4 j5 ∧ Below w.heap.size w wx)
      case first => as_aux_lemma =>
        cases two with
        | false => (go_wp2_with fail; go_meet; exact ⟨hUZ20, hBZ20⟩)
        | true =>
          have HX := Lib.hid (HTW.out rfl)
          clear HTW
          go_upto_region 44 with fail
          go_upto_region 45 with (go_at_call 21; (with_reducible refine (HX.out _).mono ?_); rintro e v33 ⟨rfl, hb⟩)
          have hUv33 : HoldsA v33 33 gU j0 j1 j2 j3 j4 j5 := hUZ20.below hb hUZ20.lt
          have hBv33 : Below w.heap.size w v33 := hBZ20.trans (hb.mono hBZ20.size)
          clear hUZ20 hb hBZ20
          (go_wp2_with fail; go_meet; exact ⟨hUv33, hBv33⟩)
      case rest =>
        clear hUZ20 hBZ20
        obtain ⟨hUZ32, hBZ32⟩ := hcut
        generalize hE : wc = Z32 at *
        clear hE wc
        clear HTW
        go_upto_region 47 with fail
        by_cases hfo1 : (four && one) = true
        rotate_left
        · (cases four <;> cases one) <;> first | (exact absurd rfl hfo1) | (go_wp2_with fail; go_ret; exact ⟨rfl, hBZ32⟩)
        have h1 : four = true := by cases four <;> simp at hfo1 ⊢
        have h2 : one = true := by cases one <;> simp at hfo1 ⊢
        subst h1 h2
        clear hfo1
        obtain ⟨f0, f1, f2, f3, f4, f5, s0, s1, s2, s3, s4, s5, hx1, hx2, hx3⟩ := HON.out rfl _ _ _ _ _ _ (HFO.out rfl)
        have HX1 := Lib.hid hx1
        have HX2 := Lib.hid hx2
        have HX3 := Lib.hid hx3
        clear hx1 hx2 hx3
        clear HON HFO
        go_upto_region 48 with fail
        have cU0 := hUZ32.c0
        have cU1 := hUZ32.c1
        have cU2 := hUZ32.c2
        have cU3 := hUZ32.c3
        have cU4 := hUZ32.c4
        have cU5 := hUZ32.c5
        have cUf := hUZ32.free
        go_upto_region 49 with (go_at_call 26; (with_reducible refine (HX1.out _).mono ?_); rintro e v34 ⟨rfl, hb⟩)
        clear cU0 cU1 cU2 cU3 cU4 cU5 cUf
        have kX1 := hb.alloc hb.size (.cells #[.int .i64 f0, .int .i64 f1, .int .i64 f2, .int .i64 f3, .int .i64 f4, .int .i64 f5] 33)
        have hUXv34 : HoldsA (v34.alloc (.cells #[.int .i64 f0, .int .i64 f1, .int .i64 f2, .int .i64 f3, .int .i64 f4, .int .i64 f5] 33)) 33 gU j0 j1 j2 j3 j4 j5 := hUZ32.below kX1 hUZ32.lt
        have hBXv34 : Below w.heap.size w (v34.alloc (.cells #[.int .i64 f0, .int .i64 f1, .int .i64 f2, .int .i64 f3, .int .i64 f4, .int .i64 f5] 33)) := hBZ32.trans (kX1.mono hBZ32.size)
        have hIXv34 : HoldsA (v34.alloc (.cells #[.int .i64 f0, .int .i64 f1, .int .i64 f2, .int .i64 f3, .int .i64 f4, .int .i64 f5] 33)) 33 (v34.heap.size) f0 f1 f2 f3 f4 f5 := HoldsA.made' (by simp)
        clear hUZ32 hb hBZ32 kX1
        generalize hE : (v34.alloc (.cells #[.int .i64 f0, .int .i64 f1, .int .i64 f2, .int .i64 f3, .int .i64 f4, .int .i64 f5] 33)) = Xv34 at *
        clear hE
        generalize hE : v34.heap.size = gI at *
        clear hE
        have cI0 := hIXv34.c0
        have cI1 := hIXv34.c1
        have cI2 := hIXv34.c2
        have cI3 := hIXv34.c3
        have cI4 := hIXv34.c4
        have cI5 := hIXv34.c5
        have cIf := hIXv34.free
        go_upto_region 50 with (go_at_call 26; (with_reducible refine (HX2.out _).mono ?_); rintro e v35 ⟨rfl, hb⟩)
        clear cI0 cI1 cI2 cI3 cI4 cI5 cIf
        have kX1 := hb.alloc hb.size (.cells #[.int .i64 s0, .int .i64 s1, .int .i64 s2, .int .i64 s3, .int .i64 s4, .int .i64 s5] 33)
        have hUXv35 : HoldsA (v35.alloc (.cells #[.int .i64 s0, .int .i64 s1, .int .i64 s2, .int .i64 s3, .int .i64 s4, .int .i64 s5] 33)) 33 gU j0 j1 j2 j3 j4 j5 := hUXv34.below kX1 hUXv34.lt
        have hIXv35 : HoldsA (v35.alloc (.cells #[.int .i64 s0, .int .i64 s1, .int .i64 s2, .int .i64 s3, .int .i64 s4, .int .i64 s5] 33)) 33 gI f0 f1 f2 f3 f4 f5 := hIXv34.below kX1 hIXv34.lt
        have hBXv35 : Below w.heap.size w (v35.alloc (.cells #[.int .i64 s0, .int .i64 s1, .int .i64 s2, .int .i64 s3, .int .i64 s4, .int .i64 s5] 33)) := hBXv34.trans (kX1.mono hBXv34.size)
        have hJXv35 : HoldsA (v35.alloc (.cells #[.int .i64 s0, .int .i64 s1, .int .i64 s2, .int .i64 s3, .int .i64 s4, .int .i64 s5] 33)) 33 (v35.heap.size) s0 s1 s2 s3 s4 s5 := HoldsA.made' (by simp)
        clear hUXv34 hIXv34 hb hBXv34 kX1
        generalize hE : (v35.alloc (.cells #[.int .i64 s0, .int .i64 s1, .int .i64 s2, .int .i64 s3, .int .i64 s4, .int .i64 s5] 33)) = Xv35 at *
        clear hE
        generalize hE : v35.heap.size = gJ at *
        clear hE
        have cU0 := hUXv35.c0
        have cU1 := hUXv35.c1
        have cU2 := hUXv35.c2
        have cU3 := hUXv35.c3
        have cU4 := hUXv35.c4
        have cU5 := hUXv35.c5
        have cUf := hUXv35.free
        go_upto_region 51 with (go_at_call 26; (with_reducible refine (HX3.out _).mono ?_); rintro e v36 ⟨rfl, hb⟩)
        clear cU0 cU1 cU2 cU3 cU4 cU5 cUf
        have kX1 := hb.alloc hb.size (.cells #[.int .i64 s0, .int .i64 s1, .int .i64 s2, .int .i64 s3, .int .i64 s4, .int .i64 s5] 33)
        have hUXv36 : HoldsA (v36.alloc (.cells #[.int .i64 s0, .int .i64 s1, .int .i64 s2, .int .i64 s3, .int .i64 s4, .int .i64 s5] 33)) 33 gU j0 j1 j2 j3 j4 j5 := hUXv35.below kX1 hUXv35.lt
        have hIXv36 : HoldsA (v36.alloc (.cells #[.int .i64 s0, .int .i64 s1, .int .i64 s2, .int .i64 s3, .int .i64 s4, .int .i64 s5] 33)) 33 gI f0 f1 f2 f3 f4 f5 := hIXv35.below kX1 hIXv35.lt
        have hJXv36 : HoldsA (v36.alloc (.cells #[.int .i64 s0, .int .i64 s1, .int .i64 s2, .int .i64 s3, .int .i64 s4, .int .i64 s5] 33)) 33 gJ s0 s1 s2 s3 s4 s5 := hJXv35.below kX1 hJXv35.lt
        have hBXv36 : Below w.heap.size w (v36.alloc (.cells #[.int .i64 s0, .int .i64 s1, .int .i64 s2, .int .i64 s3, .int .i64 s4, .int .i64 s5] 33)) := hBXv35.trans (kX1.mono hBXv35.size)
        have hKXv36 : HoldsA (v36.alloc (.cells #[.int .i64 s0, .int .i64 s1, .int .i64 s2, .int .i64 s3, .int .i64 s4, .int .i64 s5] 33)) 33 (v36.heap.size) s0 s1 s2 s3 s4 s5 := HoldsA.made' (by simp)
        clear hUXv35 hIXv35 hJXv35 hb hBXv35 kX1
        generalize hE : (v36.alloc (.cells #[.int .i64 s0, .int .i64 s1, .int .i64 s2, .int .i64 s3, .int .i64 s4, .int .i64 s5] 33)) = Xv36 at *
        clear hE
        generalize hE : v36.heap.size = gK at *
        clear hE
        have cJ0 := hJXv36.c0
        have cJ1 := hJXv36.c1
        have cJ2 := hJXv36.c2
        have cJ3 := hJXv36.c3
        have cJ4 := hJXv36.c4
        have cJ5 := hJXv36.c5
        have cJf := hJXv36.free
        have cK0 := hKXv36.c0
        have cK1 := hKXv36.c1
        have cK2 := hKXv36.c2
        have cK3 := hKXv36.c3
        have cK4 := hKXv36.c4
        have cK5 := hKXv36.c5
        have cKf := hKXv36.free
        go_wp2_with fail
        go_ret
        exact ⟨rfl, hBXv36⟩
end Go.Proofs.Ytidaoalnngmoaaa
