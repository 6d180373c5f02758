/-
  The walk of the law FnForms: whatever the code, it returns true. Under: the code is a byte slice that can be read.
-/
import Derived.Test.YtidaoalnngmoaaaYg
import Derived.Test.YtidaoalnngmoaaaHg
import Derived.Deep.CutRange
namespace Go.Proofs.Ytidaoalnngmoaaa
open Go.RowKit
set_option linter.unusedSimpArgs false
set_option linter.unusedVariables false

/-- three numbers one behind another in block g -/
def Tri (w : World) (g o : Nat) (t0 t1 t2 : Int) : Prop := g < w.heap.size ∧ w.cell? ⟨g, o, none⟩ = some (.int .i64 t0) ∧ w.cell? ⟨g, o + 1, none⟩ = some (.int .i64 t1) ∧ w.cell? ⟨g, o + 2, none⟩ = some (.int .i64 t2)
theorem Tri.below {w w' : World} {N g o : Nat} {t0 t1 t2 : Int} (h : Tri w g o t0 t1 t2) (hb : Below N w w') (hN : g < N) : Tri w' g o t0 t1 t2 :=
  ⟨Nat.lt_of_lt_of_le h.1 hb.size, (hb.cell (p := ⟨g, o, none⟩) hN).trans h.2.1, (hb.cell (p := ⟨g, o + 1, none⟩) hN).trans h.2.2.1, (hb.cell (p := ⟨g, o + 2, none⟩) hN).trans h.2.2.2⟩
theorem Tri.alloc {w : World} {g o : Nat} {t0 t1 t2 : Int} (h : Tri w g o t0 t1 t2) (x : Obj) : Tri (w.alloc x) g o t0 t1 t2 := h.below ((Below.refl w.heap.size w).alloc (Nat.le_refl _) x) h.1
theorem Tri.drew {w : World} {g o : Nat} {t0 t1 t2 : Int} (h : Tri w g o t0 t1 t2) : Tri w.drew g o t0 t1 t2 := h
theorem Tri.drewN {w : World} {g o : Nat} {t0 t1 t2 : Int} (h : Tri w g o t0 t1 t2) (n : Nat) : Tri (w.drewN n) g o t0 t1 t2 := h
set_option maxRecDepth 100000 in
set_option maxHeartbeats 6400000 in
theorem lawFnForms (cv : Value) (len : Nat) (w : World) (hcode : CodeB w w.heap.size cv len) (hcap : ∀ a m c, cv = .slice a m c → m ≤ c) : Calls Try.prog 17 #[cv] w fun e w' => e = .returned (.bool true) ∧ Below w.heap.size w w' := by
  have HC := Lib.hid hcode
  by_cases hbig' : 65536 < len
  · have hbig : (65536 : Int) < (len : Int) := by omega
    go_enter Try.func17, Try.ntmps17
    go_wp2_with (go_at_call 51; (with_reducible refine (vBig_any cv len _ hcode).mono ?_); rintro e w1 ⟨rfl, h⟩; subst w1; (try simp only [decide_eq_true hbig]))
    go_ret
    exact ⟨rfl, Below.refl _ _⟩
  have hbig : ¬ (65536 : Int) < (len : Int) := by omega
  have hlen : len ≤ 1000000 := by omega
  clear hbig'
  go_enter Try.func17, Try.ntmps17
  go_upto_region 4 with (first | (go_at_call 51; (with_reducible refine (vBig_any cv len _ hcode).mono ?_); rintro e w1 ⟨rfl, h⟩; subst w1; (try simp only [decide_eq_false hbig])) | (go_at_call 60; (with_reducible refine (DrawFirstForm_any cv len hlen _ (HC.out.moved (by repeat (first | with_reducible exact Below.refl _ _ | with_reducible assumption | with_reducible refine Below.drew ?_ | with_reducible refine below_drewN ?_ _ | with_reducible refine Below.alloc ?_ ?_ _ | with_reducible refine Below.setCell ?_ ?_ _ | with_reducible refine Below.trans ?_ (Below.mono (by assumption) ?_) | omega | (simp <;> omega))))).mono ?_); rintro e v0 ⟨a0, a1, a2, a3, a4, a5, rfl, hb⟩))
  clear hcode
  have kX1 := hb.alloc hb.size (.cells #[.int .i64 a0, .int .i64 a1, .int .i64 a2, .int .i64 a3, .int .i64 a4, .int .i64 a5] 33)
  have hBXv0 : Below w.heap.size w (v0.alloc (.cells #[.int .i64 a0, .int .i64 a1, .int .i64 a2, .int .i64 a3, .int .i64 a4, .int .i64 a5] 33)) := kX1
  have hSXv0 : HoldsA (v0.alloc (.cells #[.int .i64 a0, .int .i64 a1, .int .i64 a2, .int .i64 a3, .int .i64 a4, .int .i64 a5] 33)) 33 (v0.heap.size) a0 a1 a2 a3 a4 a5 := HoldsA.made' (by simp)
  clear hb kX1
  generalize hE : (v0.alloc (.cells #[.int .i64 a0, .int .i64 a1, .int .i64 a2, .int .i64 a3, .int .i64 a4, .int .i64 a5] 33)) = Xv0 at *
  clear hE
  generalize hE : v0.heap.size = gS at *
  clear hE
  obtain ⟨f0, f1, f2, f3, f4, f5, m0, m1, m2, p0, p1, p2, p3, p4, p5, t0, t1, t2, t3, t4, t5, k, many, ok, K, hK, hf1, hf2, hp1, hp2, ht1, ht2, hk1, hk2, hc1, hc2, hok⟩ := forms_uni a0 a1 a2 a3 a4 a5
  have HF1 := Lib.hid hf1
  have HF2 := Lib.hid hf2
  have HP1 := Lib.hid hp1
  have HP2 := Lib.hid hp2
  have HT1 := Lib.hid ht1
  have HT2 := Lib.hid ht2
  have HK1 := Lib.hid hk1
  have HK2 := Lib.hid hk2
  have HC1 := Lib.hid hc1
  have HC2 := Lib.hid hc2
  have HOK := Lib.hid hok
  clear hf1 hf2 hp1 hp2 ht1 ht2 hk1 hk2 hc1 hc2 hok
  have cS0 := hSXv0.c0
  have cS1 := hSXv0.c1
  have cS2 := hSXv0.c2
  have cS3 := hSXv0.c3
  have cS4 := hSXv0.c4
  have cS5 := hSXv0.c5
  have cSf := hSXv0.free
  go_upto_region 5 with (go_at_call 50; (with_reducible refine (HF1.out _).mono ?_); rintro e v1 ⟨rfl, hb⟩)
  clear cS0 cS1 cS2 cS3 cS4 cS5 cSf
  have kX1 := hb.alloc hb.size (.cells #[.int .i64 f0, .int .i64 f1, .int .i64 f2, .int .i64 f3, .int .i64 f4, .int .i64 f5] 33)
  have kX2 := kX1.alloc kX1.size (.cells #[.int .i64 m0, .int .i64 m1, .int .i64 m2] 39)
  have hSXv1 : HoldsA ((v1.alloc (.cells #[.int .i64 f0, .int .i64 f1, .int .i64 f2, .int .i64 f3, .int .i64 f4, .int .i64 f5] 33)).alloc (.cells #[.int .i64 m0, .int .i64 m1, .int .i64 m2] 39)) 33 gS a0 a1 a2 a3 a4 a5 := hSXv0.below kX2 hSXv0.lt
  have hBXv1 : Below w.heap.size w ((v1.alloc (.cells #[.int .i64 f0, .int .i64 f1, .int .i64 f2, .int .i64 f3, .int .i64 f4, .int .i64 f5] 33)).alloc (.cells #[.int .i64 m0, .int .i64 m1, .int .i64 m2] 39)) := hBXv0.trans (kX2.mono hBXv0.size)
  have hFXv1 : HoldsA ((v1.alloc (.cells #[.int .i64 f0, .int .i64 f1, .int .i64 f2, .int .i64 f3, .int .i64 f4, .int .i64 f5] 33)).alloc (.cells #[.int .i64 m0, .int .i64 m1, .int .i64 m2] 39)) 33 (v1.heap.size) f0 f1 f2 f3 f4 f5 := (HoldsA.made' (by simp)).alloc _
  have hMXv1 : Holds3 ((v1.alloc (.cells #[.int .i64 f0, .int .i64 f1, .int .i64 f2, .int .i64 f3, .int .i64 f4, .int .i64 f5] 33)).alloc (.cells #[.int .i64 m0, .int .i64 m1, .int .i64 m2] 39)) 39 (v1.heap.size + 1) m0 m1 m2 := Holds3.made' (by simp)
  clear hSXv0 hb hBXv0 kX1 kX2
  generalize hE : ((v1.alloc (.cells #[.int .i64 f0, .int .i64 f1, .int .i64 f2, .int .i64 f3, .int .i64 f4, .int .i64 f5] 33)).alloc (.cells #[.int .i64 m0, .int .i64 m1, .int .i64 m2] 39)) = Xv1 at *
  clear hE
  generalize hE : v1.heap.size = gF at *
  clear hE
  have cS0 := hSXv1.c0
  have cS1 := hSXv1.c1
  have cS2 := hSXv1.c2
  have cS3 := hSXv1.c3
  have cS4 := hSXv1.c4
  have cS5 := hSXv1.c5
  have cSf := hSXv1.free
  go_upto_region 6 with (go_at_call 49; (with_reducible refine (HF2.out _).mono ?_); rintro e v2 ⟨rfl, hb⟩)
  clear cS0 cS1 cS2 cS3 cS4 cS5 cSf
  have kX1 := hb.alloc hb.size (.cells #[.int .i64 f0, .int .i64 f1, .int .i64 f2, .int .i64 f3, .int .i64 f4, .int .i64 f5] 33)
  have kX2 := kX1.alloc kX1.size (.cells #[.int .i64 m0, .int .i64 m1, .int .i64 m2] 39)
  have hSXv2 : HoldsA ((v2.alloc (.cells #[.int .i64 f0, .int .i64 f1, .int .i64 f2, .int .i64 f3, .int .i64 f4, .int .i64 f5] 33)).alloc (.cells #[.int .i64 m0, .int .i64 m1, .int .i64 m2] 39)) 33 gS a0 a1 a2 a3 a4 a5 := hSXv1.below kX2 hSXv1.lt
  have hFXv2 : HoldsA ((v2.alloc (.cells #[.int .i64 f0, .int .i64 f1, .int .i64 f2, .int .i64 f3, .int .i64 f4, .int .i64 f5] 33)).alloc (.cells #[.int .i64 m0, .int .i64 m1, .int .i64 m2] 39)) 33 gF f0 f1 f2 f3 f4 f5 := hFXv1.below kX2 hFXv1.lt
  have hMXv2 : Holds3 ((v2.alloc (.cells #[.int .i64 f0, .int .i64 f1, .int .i64 f2, .int .i64 f3, .int .i64 f4, .int .i64 f5] 33)).alloc (.cells #[.int .i64 m0, .int .i64 m1, .int .i64 m2] 39)) 39 (gF + 1) m0 m1 m2 := hMXv1.below kX2 hMXv1.lt
  have hBXv2 : Below w.heap.size w ((v2.alloc (.cells #[.int .i64 f0, .int .i64 f1, .int .i64 f2, .int .i64 f3, .int .i64 f4, .int .i64 f5] 33)).alloc (.cells #[.int .i64 m0, .int .i64 m1, .int .i64 m2] 39)) := hBXv1.trans (kX2.mono hBXv1.size)
  have hGXv2 : HoldsA ((v2.alloc (.cells #[.int .i64 f0, .int .i64 f1, .int .i64 f2, .int .i64 f3, .int .i64 f4, .int .i64 f5] 33)).alloc (.cells #[.int .i64 m0, .int .i64 m1, .int .i64 m2] 39)) 33 (v2.heap.size) f0 f1 f2 f3 f4 f5 := (HoldsA.made' (by simp)).alloc _
  have hNXv2 : Holds3 ((v2.alloc (.cells #[.int .i64 f0, .int .i64 f1, .int .i64 f2, .int .i64 f3, .int .i64 f4, .int .i64 f5] 33)).alloc (.cells #[.int .i64 m0, .int .i64 m1, .int .i64 m2] 39)) 39 (v2.heap.size + 1) m0 m1 m2 := Holds3.made' (by simp)
  clear hSXv1 hFXv1 hMXv1 hb hBXv1 kX1 kX2
  generalize hE : ((v2.alloc (.cells #[.int .i64 f0, .int .i64 f1, .int .i64 f2, .int .i64 f3, .int .i64 f4, .int .i64 f5] 33)).alloc (.cells #[.int .i64 m0, .int .i64 m1, .int .i64 m2] 39)) = Xv2 at *
  clear hE
  generalize hE : v2.heap.size = gG at *
  clear hE
  have cS0 := hSXv2.c0
  have cS1 := hSXv2.c1
  have cS2 := hSXv2.c2
  have cS3 := hSXv2.c3
  have cS4 := hSXv2.c4
  have cS5 := hSXv2.c5
  have cSf := hSXv2.free
  go_upto_region 7 with (go_at_call 37; (with_reducible refine (HP1.out _).mono ?_); rintro e v3 ⟨rfl, hb⟩)
  clear cS0 cS1 cS2 cS3 cS4 cS5 cSf
  have kX1 := hb.alloc hb.size (.cells #[.int .i64 p0, .int .i64 p1, .int .i64 p2, .int .i64 p3, .int .i64 p4, .int .i64 p5] 33)
  have hSXv3 : HoldsA (v3.alloc (.cells #[.int .i64 p0, .int .i64 p1, .int .i64 p2, .int .i64 p3, .int .i64 p4, .int .i64 p5] 33)) 33 gS a0 a1 a2 a3 a4 a5 := hSXv2.below kX1 hSXv2.lt
  have hFXv3 : HoldsA (v3.alloc (.cells #[.int .i64 p0, .int .i64 p1, .int .i64 p2, .int .i64 p3, .int .i64 p4, .int .i64 p5] 33)) 33 gF f0 f1 f2 f3 f4 f5 := hFXv2.below kX1 hFXv2.lt
  have hMXv3 : Holds3 (v3.alloc (.cells #[.int .i64 p0, .int .i64 p1, .int .i64 p2, .int .i64 p3, .int .i64 p4, .int .i64 p5] 33)) 39 (gF + 1) m0 m1 m2 := hMXv2.below kX1 hMXv2.lt
  have hGXv3 : HoldsA (v3.alloc (.cells #[.int .i64 p0, .int .i64 p1, .int .i64 p2, .int .i64 p3, .int .i64 p4, .int .i64 p5] 33)) 33 gG f0 f1 f2 f3 f4 f5 := hGXv2.below kX1 hGXv2.lt
  have hNXv3 : Holds3 (v3.alloc (.cells #[.int .i64 p0, .int .i64 p1, .int .i64 p2, .int .i64 p3, .int .i64 p4, .int .i64 p5] 33)) 39 (gG + 1) m0 m1 m2 := hNXv2.below kX1 hNXv2.lt
  have hBXv3 : Below w.heap.size w (v3.alloc (.cells #[.int .i64 p0, .int .i64 p1, .int .i64 p2, .int .i64 p3, .int .i64 p4, .int .i64 p5] 33)) := hBXv2.trans (kX1.mono hBXv2.size)
  have hPXv3 : HoldsA (v3.alloc (.cells #[.int .i64 p0, .int .i64 p1, .int .i64 p2, .int .i64 p3, .int .i64 p4, .int .i64 p5] 33)) 33 (v3.heap.size) p0 p1 p2 p3 p4 p5 := HoldsA.made' (by simp)
  clear hSXv2 hFXv2 hMXv2 hGXv2 hNXv2 hb hBXv2 kX1
  generalize hE : (v3.alloc (.cells #[.int .i64 p0, .int .i64 p1, .int .i64 p2, .int .i64 p3, .int .i64 p4, .int .i64 p5] 33)) = Xv3 at *
  clear hE
  generalize hE : v3.heap.size = gP at *
  clear hE
  have cS0 := hSXv3.c0
  have cS1 := hSXv3.c1
  have cS2 := hSXv3.c2
  have cS3 := hSXv3.c3
  have cS4 := hSXv3.c4
  have cS5 := hSXv3.c5
  have cSf := hSXv3.free
  go_upto_region 8 with (go_at_call 36; (with_reducible refine (HP2.out _).mono ?_); rintro e v4 ⟨rfl, hb⟩)
  clear cS0 cS1 cS2 cS3 cS4 cS5 cSf
  have kX1 := hb.alloc hb.size (.cells #[.int .i64 p0, .int .i64 p1, .int .i64 p2, .int .i64 p3, .int .i64 p4, .int .i64 p5] 33)
  have hSXv4 : HoldsA (v4.alloc (.cells #[.int .i64 p0, .int .i64 p1, .int .i64 p2, .int .i64 p3, .int .i64 p4, .int .i64 p5] 33)) 33 gS a0 a1 a2 a3 a4 a5 := hSXv3.below kX1 hSXv3.lt
  have hFXv4 : HoldsA (v4.alloc (.cells #[.int .i64 p0, .int .i64 p1, .int .i64 p2, .int .i64 p3, .int .i64 p4, .int .i64 p5] 33)) 33 gF f0 f1 f2 f3 f4 f5 := hFXv3.below kX1 hFXv3.lt
  have hMXv4 : Holds3 (v4.alloc (.cells #[.int .i64 p0, .int .i64 p1, .int .i64 p2, .int .i64 p3, .int .i64 p4, .int .i64 p5] 33)) 39 (gF + 1) m0 m1 m2 := hMXv3.below kX1 hMXv3.lt
  have hGXv4 : HoldsA (v4.alloc (.cells #[.int .i64 p0, .int .i64 p1, .int .i64 p2, .int .i64 p3, .int .i64 p4, .int .i64 p5] 33)) 33 gG f0 f1 f2 f3 f4 f5 := hGXv3.below kX1 hGXv3.lt
  have hNXv4 : Holds3 (v4.alloc (.cells #[.int .i64 p0, .int .i64 p1, .int .i64 p2, .int .i64 p3, .int .i64 p4, .int .i64 p5] 33)) 39 (gG + 1) m0 m1 m2 := hNXv3.below kX1 hNXv3.lt
  have hPXv4 : HoldsA (v4.alloc (.cells #[.int .i64 p0, .int .i64 p1, .int .i64 p2, .int .i64 p3, .int .i64 p4, .int .i64 p5] 33)) 33 gP p0 p1 p2 p3 p4 p5 := hPXv3.below kX1 hPXv3.lt
  have hBXv4 : Below w.heap.size w (v4.alloc (.cells #[.int .i64 p0, .int .i64 p1, .int .i64 p2, .int .i64 p3, .int .i64 p4, .int .i64 p5] 33)) := hBXv3.trans (kX1.mono hBXv3.size)
  have hQXv4 : HoldsA (v4.alloc (.cells #[.int .i64 p0, .int .i64 p1, .int .i64 p2, .int .i64 p3, .int .i64 p4, .int .i64 p5] 33)) 33 (v4.heap.size) p0 p1 p2 p3 p4 p5 := HoldsA.made' (by simp)
  clear hSXv3 hFXv3 hMXv3 hGXv3 hNXv3 hPXv3 hb hBXv3 kX1
  generalize hE : (v4.alloc (.cells #[.int .i64 p0, .int .i64 p1, .int .i64 p2, .int .i64 p3, .int .i64 p4, .int .i64 p5] 33)) = Xv4 at *
  clear hE
  generalize hE : v4.heap.size = gQ at *
  clear hE
  have cS0 := hSXv4.c0
  have cS1 := hSXv4.c1
  have cS2 := hSXv4.c2
  have cS3 := hSXv4.c3
  have cS4 := hSXv4.c4
  have cS5 := hSXv4.c5
  have cSf := hSXv4.free
  go_upto_region 9 with (go_at_call 39; (with_reducible refine (HT1.out _).mono ?_); rintro e v5 ⟨rfl, hb⟩)
  clear cS0 cS1 cS2 cS3 cS4 cS5 cSf
  have kX1 := hb.alloc hb.size (.cells #[.int .i64 t0, .int .i64 t1, .int .i64 t2, .int .i64 t3, .int .i64 t4, .int .i64 t5] 33)
  have hSXv5 : HoldsA (v5.alloc (.cells #[.int .i64 t0, .int .i64 t1, .int .i64 t2, .int .i64 t3, .int .i64 t4, .int .i64 t5] 33)) 33 gS a0 a1 a2 a3 a4 a5 := hSXv4.below kX1 hSXv4.lt
  have hFXv5 : HoldsA (v5.alloc (.cells #[.int .i64 t0, .int .i64 t1, .int .i64 t2, .int .i64 t3, .int .i64 t4, .int .i64 t5] 33)) 33 gF f0 f1 f2 f3 f4 f5 := hFXv4.below kX1 hFXv4.lt
  have hMXv5 : Holds3 (v5.alloc (.cells #[.int .i64 t0, .int .i64 t1, .int .i64 t2, .int .i64 t3, .int .i64 t4, .int .i64 t5] 33)) 39 (gF + 1) m0 m1 m2 := hMXv4.below kX1 hMXv4.lt
  have hGXv5 : HoldsA (v5.alloc (.cells #[.int .i64 t0, .int .i64 t1, .int .i64 t2, .int .i64 t3, .int .i64 t4, .int .i64 t5] 33)) 33 gG f0 f1 f2 f3 f4 f5 := hGXv4.below kX1 hGXv4.lt
  have hNXv5 : Holds3 (v5.alloc (.cells #[.int .i64 t0, .int .i64 t1, .int .i64 t2, .int .i64 t3, .int .i64 t4, .int .i64 t5] 33)) 39 (gG + 1) m0 m1 m2 := hNXv4.below kX1 hNXv4.lt
  have hPXv5 : HoldsA (v5.alloc (.cells #[.int .i64 t0, .int .i64 t1, .int .i64 t2, .int .i64 t3, .int .i64 t4, .int .i64 t5] 33)) 33 gP p0 p1 p2 p3 p4 p5 := hPXv4.below kX1 hPXv4.lt
  have hQXv5 : HoldsA (v5.alloc (.cells #[.int .i64 t0, .int .i64 t1, .int .i64 t2, .int .i64 t3, .int .i64 t4, .int .i64 t5] 33)) 33 gQ p0 p1 p2 p3 p4 p5 := hQXv4.below kX1 hQXv4.lt
  have hBXv5 : Below w.heap.size w (v5.alloc (.cells #[.int .i64 t0, .int .i64 t1, .int .i64 t2, .int .i64 t3, .int .i64 t4, .int .i64 t5] 33)) := hBXv4.trans (kX1.mono hBXv4.size)
  have hTXv5 : HoldsA (v5.alloc (.cells #[.int .i64 t0, .int .i64 t1, .int .i64 t2, .int .i64 t3, .int .i64 t4, .int .i64 t5] 33)) 33 (v5.heap.size) t0 t1 t2 t3 t4 t5 := HoldsA.made' (by simp)
  clear hSXv4 hFXv4 hMXv4 hGXv4 hNXv4 hPXv4 hQXv4 hb hBXv4 kX1
  generalize hE : (v5.alloc (.cells #[.int .i64 t0, .int .i64 t1, .int .i64 t2, .int .i64 t3, .int .i64 t4, .int .i64 t5] 33)) = Xv5 at *
  clear hE
  generalize hE : v5.heap.size = gT at *
  clear hE
  have cS0 := hSXv5.c0
  have cS1 := hSXv5.c1
  have cS2 := hSXv5.c2
  have cS3 := hSXv5.c3
  have cS4 := hSXv5.c4
  have cS5 := hSXv5.c5
  have cSf := hSXv5.free
  go_upto_region 10 with (go_at_call 38; (with_reducible refine (HT2.out _).mono ?_); rintro e v6 ⟨rfl, hb⟩)
  clear cS0 cS1 cS2 cS3 cS4 cS5 cSf
  have kX1 := hb.alloc hb.size (.cells #[.int .i64 t0, .int .i64 t1, .int .i64 t2, .int .i64 t3, .int .i64 t4, .int .i64 t5] 33)
  have hSXv6 : HoldsA (v6.alloc (.cells #[.int .i64 t0, .int .i64 t1, .int .i64 t2, .int .i64 t3, .int .i64 t4, .int .i64 t5] 33)) 33 gS a0 a1 a2 a3 a4 a5 := hSXv5.below kX1 hSXv5.lt
  have hFXv6 : HoldsA (v6.alloc (.cells #[.int .i64 t0, .int .i64 t1, .int .i64 t2, .int .i64 t3, .int .i64 t4, .int .i64 t5] 33)) 33 gF f0 f1 f2 f3 f4 f5 := hFXv5.below kX1 hFXv5.lt
  have hMXv6 : Holds3 (v6.alloc (.cells #[.int .i64 t0, .int .i64 t1, .int .i64 t2, .int .i64 t3, .int .i64 t4, .int .i64 t5] 33)) 39 (gF + 1) m0 m1 m2 := hMXv5.below kX1 hMXv5.lt
  have hGXv6 : HoldsA (v6.alloc (.cells #[.int .i64 t0, .int .i64 t1, .int .i64 t2, .int .i64 t3, .int .i64 t4, .int .i64 t5] 33)) 33 gG f0 f1 f2 f3 f4 f5 := hGXv5.below kX1 hGXv5.lt
  have hNXv6 : Holds3 (v6.alloc (.cells #[.int .i64 t0, .int .i64 t1, .int .i64 t2, .int .i64 t3, .int .i64 t4, .int .i64 t5] 33)) 39 (gG + 1) m0 m1 m2 := hNXv5.below kX1 hNXv5.lt
  have hPXv6 : HoldsA (v6.alloc (.cells #[.int .i64 t0, .int .i64 t1, .int .i64 t2, .int .i64 t3, .int .i64 t4, .int .i64 t5] 33)) 33 gP p0 p1 p2 p3 p4 p5 := hPXv5.below kX1 hPXv5.lt
  have hQXv6 : HoldsA (v6.alloc (.cells #[.int .i64 t0, .int .i64 t1, .int .i64 t2, .int .i64 t3, .int .i64 t4, .int .i64 t5] 33)) 33 gQ p0 p1 p2 p3 p4 p5 := hQXv5.below kX1 hQXv5.lt
  have hTXv6 : HoldsA (v6.alloc (.cells #[.int .i64 t0, .int .i64 t1, .int .i64 t2, .int .i64 t3, .int .i64 t4, .int .i64 t5] 33)) 33 gT t0 t1 t2 t3 t4 t5 := hTXv5.below kX1 hTXv5.lt
  have hBXv6 : Below w.heap.size w (v6.alloc (.cells #[.int .i64 t0, .int .i64 t1, .int .i64 t2, .int .i64 t3, .int .i64 t4, .int .i64 t5] 33)) := hBXv5.trans (kX1.mono hBXv5.size)
  have hUXv6 : HoldsA (v6.alloc (.cells #[.int .i64 t0, .int .i64 t1, .int .i64 t2, .int .i64 t3, .int .i64 t4, .int .i64 t5] 33)) 33 (v6.heap.size) t0 t1 t2 t3 t4 t5 := HoldsA.made' (by simp)
  clear hSXv5 hFXv5 hMXv5 hGXv5 hNXv5 hPXv5 hQXv5 hTXv5 hb hBXv5 kX1
  generalize hE : (v6.alloc (.cells #[.int .i64 t0, .int .i64 t1, .int .i64 t2, .int .i64 t3, .int .i64 t4, .int .i64 t5] 33)) = Xv6 at *
  clear hE
  generalize hE : v6.heap.size = gU at *
  clear hE
  clear HF1 HF2 HP1 HP2 HT1 HT2
  have cS0 := hSXv6.c0
  have cS1 := hSXv6.c1
  have cS2 := hSXv6.c2
  have cS3 := hSXv6.c3
  have cS4 := hSXv6.c4
  have cS5 := hSXv6.c5
  have cSf := hSXv6.free
  go_upto_region 11 with (go_at_call 41; (with_reducible refine (HK1.out _).mono ?_); rintro e v7 ⟨x1, cap1, rfl, hrd, hb⟩)
  clear cS0 cS1 cS2 cS3 cS4 cS5 cSf
  have hSv7 : HoldsA v7 33 gS a0 a1 a2 a3 a4 a5 := hSXv6.below hb hSXv6.lt
  have hFv7 : HoldsA v7 33 gF f0 f1 f2 f3 f4 f5 := hFXv6.below hb hFXv6.lt
  have hMv7 : Holds3 v7 39 (gF + 1) m0 m1 m2 := hMXv6.below hb hMXv6.lt
  have hGv7 : HoldsA v7 33 gG f0 f1 f2 f3 f4 f5 := hGXv6.below hb hGXv6.lt
  have hNv7 : Holds3 v7 39 (gG + 1) m0 m1 m2 := hNXv6.below hb hNXv6.lt
  have hPv7 : HoldsA v7 33 gP p0 p1 p2 p3 p4 p5 := hPXv6.below hb hPXv6.lt
  have hQv7 : HoldsA v7 33 gQ p0 p1 p2 p3 p4 p5 := hQXv6.below hb hQXv6.lt
  have hTv7 : HoldsA v7 33 gT t0 t1 t2 t3 t4 t5 := hTXv6.below hb hTXv6.lt
  have hUv7 : HoldsA v7 33 gU t0 t1 t2 t3 t4 t5 := hUXv6.below hb hUXv6.lt
  have eKv7 : RdT v7 x1 K := hrd
  have hBv7 : Below w.heap.size w v7 := hBXv6.trans (hb.mono hBXv6.size)
  clear hSXv6 hFXv6 hMXv6 hGXv6 hNXv6 hPXv6 hQXv6 hTXv6 hUXv6 hb hBXv6 hrd
  have cS0 := hSv7.c0
  have cS1 := hSv7.c1
  have cS2 := hSv7.c2
  have cS3 := hSv7.c3
  have cS4 := hSv7.c4
  have cS5 := hSv7.c5
  have cSf := hSv7.free
  go_upto_region 12 with (go_at_call 40; (with_reducible refine (HK2.out _).mono ?_); rintro e v8 ⟨x2, cap2, rfl, hrd, hb⟩)
  clear cS0 cS1 cS2 cS3 cS4 cS5 cSf
  have hSv8 : HoldsA v8 33 gS a0 a1 a2 a3 a4 a5 := hSv7.below hb hSv7.lt
  have hFv8 : HoldsA v8 33 gF f0 f1 f2 f3 f4 f5 := hFv7.below hb hFv7.lt
  have hMv8 : Holds3 v8 39 (gF + 1) m0 m1 m2 := hMv7.below hb hMv7.lt
  have hGv8 : HoldsA v8 33 gG f0 f1 f2 f3 f4 f5 := hGv7.below hb hGv7.lt
  have hNv8 : Holds3 v8 39 (gG + 1) m0 m1 m2 := hNv7.below hb hNv7.lt
  have hPv8 : HoldsA v8 33 gP p0 p1 p2 p3 p4 p5 := hPv7.below hb hPv7.lt
  have hQv8 : HoldsA v8 33 gQ p0 p1 p2 p3 p4 p5 := hQv7.below hb hQv7.lt
  have hTv8 : HoldsA v8 33 gT t0 t1 t2 t3 t4 t5 := hTv7.below hb hTv7.lt
  have hUv8 : HoldsA v8 33 gU t0 t1 t2 t3 t4 t5 := hUv7.below hb hUv7.lt
  have eKv8 : RdT v8 x1 K := eKv7.mv hb
  have eLv8 : RdT v8 x2 K := hrd
  have hBv8 : Below w.heap.size w v8 := hBv7.trans (hb.mono hBv7.size)
  clear hSv7 hFv7 hMv7 hGv7 hNv7 hPv7 hQv7 hTv7 hUv7 eKv7 hb hBv7 hrd
  have cS0 := hSv8.c0
  have cS1 := hSv8.c1
  have cS2 := hSv8.c2
  have cS3 := hSv8.c3
  have cS4 := hSv8.c4
  have cS5 := hSv8.c5
  have cSf := hSv8.free
  go_upto_region 13 with (go_at_call 46; (with_reducible refine (HC1.out _).mono ?_); rintro e v9 ⟨rfl, hb⟩)
  clear cS0 cS1 cS2 cS3 cS4 cS5 cSf
  have hSv9 : HoldsA v9 33 gS a0 a1 a2 a3 a4 a5 := hSv8.below hb hSv8.lt
  have hFv9 : HoldsA v9 33 gF f0 f1 f2 f3 f4 f5 := hFv8.below hb hFv8.lt
  have hMv9 : Holds3 v9 39 (gF + 1) m0 m1 m2 := hMv8.below hb hMv8.lt
  have hGv9 : HoldsA v9 33 gG f0 f1 f2 f3 f4 f5 := hGv8.below hb hGv8.lt
  have hNv9 : Holds3 v9 39 (gG + 1) m0 m1 m2 := hNv8.below hb hNv8.lt
  have hPv9 : HoldsA v9 33 gP p0 p1 p2 p3 p4 p5 := hPv8.below hb hPv8.lt
  have hQv9 : HoldsA v9 33 gQ p0 p1 p2 p3 p4 p5 := hQv8.below hb hQv8.lt
  have hTv9 : HoldsA v9 33 gT t0 t1 t2 t3 t4 t5 := hTv8.below hb hTv8.lt
  have hUv9 : HoldsA v9 33 gU t0 t1 t2 t3 t4 t5 := hUv8.below hb hUv8.lt
  have eKv9 : RdT v9 x1 K := eKv8.mv hb
  have eLv9 : RdT v9 x2 K := eLv8.mv hb
  have hBv9 : Below w.heap.size w v9 := hBv8.trans (hb.mono hBv8.size)
  clear hSv8 hFv8 hMv8 hGv8 hNv8 hPv8 hQv8 hTv8 hUv8 eKv8 eLv8 hb hBv8
  have cS0 := hSv9.c0
  have cS1 := hSv9.c1
  have cS2 := hSv9.c2
  have cS3 := hSv9.c3
  have cS4 := hSv9.c4
  have cS5 := hSv9.c5
  have cSf := hSv9.free
  go_upto_region 14 with (go_at_call 45; (with_reducible refine (HC2.out _).mono ?_); rintro e v10 ⟨rfl, hb⟩)
  clear cS0 cS1 cS2 cS3 cS4 cS5 cSf
  have hSv10 : HoldsA v10 33 gS a0 a1 a2 a3 a4 a5 := hSv9.below hb hSv9.lt
  have hFv10 : HoldsA v10 33 gF f0 f1 f2 f3 f4 f5 := hFv9.below hb hFv9.lt
  have hMv10 : Holds3 v10 39 (gF + 1) m0 m1 m2 := hMv9.below hb hMv9.lt
  have hGv10 : HoldsA v10 33 gG f0 f1 f2 f3 f4 f5 := hGv9.below hb hGv9.lt
  have hNv10 : Holds3 v10 39 (gG + 1) m0 m1 m2 := hNv9.below hb hNv9.lt
  have hPv10 : HoldsA v10 33 gP p0 p1 p2 p3 p4 p5 := hPv9.below hb hPv9.lt
  have hQv10 : HoldsA v10 33 gQ p0 p1 p2 p3 p4 p5 := hQv9.below hb hQv9.lt
  have hTv10 : HoldsA v10 33 gT t0 t1 t2 t3 t4 t5 := hTv9.below hb hTv9.lt
  have hUv10 : HoldsA v10 33 gU t0 t1 t2 t3 t4 t5 := hUv9.below hb hUv9.lt
  have eKv10 : RdT v10 x1 K := eKv9.mv hb
  have eLv10 : RdT v10 x2 K := eLv9.mv hb
  have hBv10 : Below w.heap.size w v10 := hBv9.trans (hb.mono hBv9.size)
  clear hSv9 hFv9 hMv9 hGv9 hNv9 hPv9 hQv9 hTv9 hUv9 eKv9 eLv9 hb hBv9
  clear HK1 HK2 HC1 HC2
  go_upto_region 15 with (first | (go_at_call 54; (with_reducible refine (vCut_any cv len _ (HC.out.moved hBv10) hcap 1 (by decide) hlen).mono ?_); rintro e va ⟨cv1, l1, rfl, hl1, hcd, hb1⟩) | (go_at_call 61; (with_reducible refine (DrawAreAlike_any cv1 l1 (by omega) _ hcd).mono ?_); rintro e v11 ⟨i0, i1, i2, i3, i4, i5, j0, j1, j2, j3, j4, j5, rfl, hb2⟩))
  have hb := hb1.trans (hb2.mono hb1.size)
  clear hb1 hb2 hcd hl1
  have kX1 := hb.alloc hb.size (.cells #[.int .i64 i0, .int .i64 i1, .int .i64 i2, .int .i64 i3, .int .i64 i4, .int .i64 i5] 33)
  have kX2 := kX1.alloc kX1.size (.cells #[.int .i64 j0, .int .i64 j1, .int .i64 j2, .int .i64 j3, .int .i64 j4, .int .i64 j5] 33)
  have hSXv11 : HoldsA ((v11.alloc (.cells #[.int .i64 i0, .int .i64 i1, .int .i64 i2, .int .i64 i3, .int .i64 i4, .int .i64 i5] 33)).alloc (.cells #[.int .i64 j0, .int .i64 j1, .int .i64 j2, .int .i64 j3, .int .i64 j4, .int .i64 j5] 33)) 33 gS a0 a1 a2 a3 a4 a5 := hSv10.below kX2 hSv10.lt
  have hFXv11 : HoldsA ((v11.alloc (.cells #[.int .i64 i0, .int .i64 i1, .int .i64 i2, .int .i64 i3, .int .i64 i4, .int .i64 i5] 33)).alloc (.cells #[.int .i64 j0, .int .i64 j1, .int .i64 j2, .int .i64 j3, .int .i64 j4, .int .i64 j5] 33)) 33 gF f0 f1 f2 f3 f4 f5 := hFv10.below kX2 hFv10.lt
  have hMXv11 : Holds3 ((v11.alloc (.cells #[.int .i64 i0, .int .i64 i1, .int .i64 i2, .int .i64 i3, .int .i64 i4, .int .i64 i5] 33)).alloc (.cells #[.int .i64 j0, .int .i64 j1, .int .i64 j2, .int .i64 j3, .int .i64 j4, .int .i64 j5] 33)) 39 (gF + 1) m0 m1 m2 := hMv10.below kX2 hMv10.lt
  have hGXv11 : HoldsA ((v11.alloc (.cells #[.int .i64 i0, .int .i64 i1, .int .i64 i2, .int .i64 i3, .int .i64 i4, .int .i64 i5] 33)).alloc (.cells #[.int .i64 j0, .int .i64 j1, .int .i64 j2, .int .i64 j3, .int .i64 j4, .int .i64 j5] 33)) 33 gG f0 f1 f2 f3 f4 f5 := hGv10.below kX2 hGv10.lt
  have hNXv11 : Holds3 ((v11.alloc (.cells #[.int .i64 i0, .int .i64 i1, .int .i64 i2, .int .i64 i3, .int .i64 i4, .int .i64 i5] 33)).alloc (.cells #[.int .i64 j0, .int .i64 j1, .int .i64 j2, .int .i64 j3, .int .i64 j4, .int .i64 j5] 33)) 39 (gG + 1) m0 m1 m2 := hNv10.below kX2 hNv10.lt
  have hPXv11 : HoldsA ((v11.alloc (.cells #[.int .i64 i0, .int .i64 i1, .int .i64 i2, .int .i64 i3, .int .i64 i4, .int .i64 i5] 33)).alloc (.cells #[.int .i64 j0, .int .i64 j1, .int .i64 j2, .int .i64 j3, .int .i64 j4, .int .i64 j5] 33)) 33 gP p0 p1 p2 p3 p4 p5 := hPv10.below kX2 hPv10.lt
  have hQXv11 : HoldsA ((v11.alloc (.cells #[.int .i64 i0, .int .i64 i1, .int .i64 i2, .int .i64 i3, .int .i64 i4, .int .i64 i5] 33)).alloc (.cells #[.int .i64 j0, .int .i64 j1, .int .i64 j2, .int .i64 j3, .int .i64 j4, .int .i64 j5] 33)) 33 gQ p0 p1 p2 p3 p4 p5 := hQv10.below kX2 hQv10.lt
  have hTXv11 : HoldsA ((v11.alloc (.cells #[.int .i64 i0, .int .i64 i1, .int .i64 i2, .int .i64 i3, .int .i64 i4, .int .i64 i5] 33)).alloc (.cells #[.int .i64 j0, .int .i64 j1, .int .i64 j2, .int .i64 j3, .int .i64 j4, .int .i64 j5] 33)) 33 gT t0 t1 t2 t3 t4 t5 := hTv10.below kX2 hTv10.lt
  have hUXv11 : HoldsA ((v11.alloc (.cells #[.int .i64 i0, .int .i64 i1, .int .i64 i2, .int .i64 i3, .int .i64 i4, .int .i64 i5] 33)).alloc (.cells #[.int .i64 j0, .int .i64 j1, .int .i64 j2, .int .i64 j3, .int .i64 j4, .int .i64 j5] 33)) 33 gU t0 t1 t2 t3 t4 t5 := hUv10.below kX2 hUv10.lt
  have eKXv11 : RdT ((v11.alloc (.cells #[.int .i64 i0, .int .i64 i1, .int .i64 i2, .int .i64 i3, .int .i64 i4, .int .i64 i5] 33)).alloc (.cells #[.int .i64 j0, .int .i64 j1, .int .i64 j2, .int .i64 j3, .int .i64 j4, .int .i64 j5] 33)) x1 K := eKv10.mv kX2
  have eLXv11 : RdT ((v11.alloc (.cells #[.int .i64 i0, .int .i64 i1, .int .i64 i2, .int .i64 i3, .int .i64 i4, .int .i64 i5] 33)).alloc (.cells #[.int .i64 j0, .int .i64 j1, .int .i64 j2, .int .i64 j3, .int .i64 j4, .int .i64 j5] 33)) x2 K := eLv10.mv kX2
  have hBXv11 : Below w.heap.size w ((v11.alloc (.cells #[.int .i64 i0, .int .i64 i1, .int .i64 i2, .int .i64 i3, .int .i64 i4, .int .i64 i5] 33)).alloc (.cells #[.int .i64 j0, .int .i64 j1, .int .i64 j2, .int .i64 j3, .int .i64 j4, .int .i64 j5] 33)) := hBv10.trans (kX2.mono hBv10.size)
  have hAXv11 : HoldsA ((v11.alloc (.cells #[.int .i64 i0, .int .i64 i1, .int .i64 i2, .int .i64 i3, .int .i64 i4, .int .i64 i5] 33)).alloc (.cells #[.int .i64 j0, .int .i64 j1, .int .i64 j2, .int .i64 j3, .int .i64 j4, .int .i64 j5] 33)) 33 (v11.heap.size) i0 i1 i2 i3 i4 i5 := (HoldsA.made' (by simp)).alloc _
  have hCXv11 : HoldsA ((v11.alloc (.cells #[.int .i64 i0, .int .i64 i1, .int .i64 i2, .int .i64 i3, .int .i64 i4, .int .i64 i5] 33)).alloc (.cells #[.int .i64 j0, .int .i64 j1, .int .i64 j2, .int .i64 j3, .int .i64 j4, .int .i64 j5] 33)) 33 (v11.heap.size + 1) j0 j1 j2 j3 j4 j5 := HoldsA.made' (by simp)
  clear hSv10 hFv10 hMv10 hGv10 hNv10 hPv10 hQv10 hTv10 hUv10 eKv10 eLv10 hb hBv10 kX1 kX2
  generalize hE : ((v11.alloc (.cells #[.int .i64 i0, .int .i64 i1, .int .i64 i2, .int .i64 i3, .int .i64 i4, .int .i64 i5] 33)).alloc (.cells #[.int .i64 j0, .int .i64 j1, .int .i64 j2, .int .i64 j3, .int .i64 j4, .int .i64 j5] 33)) = Xv11 at *
  clear hE
  generalize hE : v11.heap.size = gA at *
  clear hE
  clear HC
  obtain ⟨are, three, ha1, ha2, hal⟩ := alike_uni i0 i1 i2 i3 i4 i5 j0 j1 j2 j3 j4 j5
  have HA1 := Lib.hid ha1
  have HA2 := Lib.hid ha2
  have HAL := Lib.hid hal
  clear ha1 ha2 hal
  have cA0 := hAXv11.c0
  have cA1 := hAXv11.c1
  have cA2 := hAXv11.c2
  have cA3 := hAXv11.c3
  have cA4 := hAXv11.c4
  have cA5 := hAXv11.c5
  have cAf := hAXv11.free
  have cC0 := hCXv11.c0
  have cC1 := hCXv11.c1
  have cC2 := hCXv11.c2
  have cC3 := hCXv11.c3
  have cC4 := hCXv11.c4
  have cC5 := hCXv11.c5
  have cCf := hCXv11.free
  go_upto_region 16 with (go_at_call 48; (with_reducible refine (HA1.out _).mono ?_); rintro e v12 ⟨rfl, hb⟩)
  clear cA0 cA1 cA2 cA3 cA4 cA5 cAf cC0 cC1 cC2 cC3 cC4 cC5 cCf
  have hSv12 : HoldsA v12 33 gS a0 a1 a2 a3 a4 a5 := hSXv11.below hb hSXv11.lt
  have hFv12 : HoldsA v12 33 gF f0 f1 f2 f3 f4 f5 := hFXv11.below hb hFXv11.lt
  have hMv12 : Holds3 v12 39 (gF + 1) m0 m1 m2 := hMXv11.below hb hMXv11.lt
  have hGv12 : HoldsA v12 33 gG f0 f1 f2 f3 f4 f5 := hGXv11.below hb hGXv11.lt
  have hNv12 : Holds3 v12 39 (gG + 1) m0 m1 m2 := hNXv11.below hb hNXv11.lt
  have hPv12 : HoldsA v12 33 gP p0 p1 p2 p3 p4 p5 := hPXv11.below hb hPXv11.lt
  have hQv12 : HoldsA v12 33 gQ p0 p1 p2 p3 p4 p5 := hQXv11.below hb hQXv11.lt
  have hTv12 : HoldsA v12 33 gT t0 t1 t2 t3 t4 t5 := hTXv11.below hb hTXv11.lt
  have hUv12 : HoldsA v12 33 gU t0 t1 t2 t3 t4 t5 := hUXv11.below hb hUXv11.lt
  have hAv12 : HoldsA v12 33 gA i0 i1 i2 i3 i4 i5 := hAXv11.below hb hAXv11.lt
  have hCv12 : HoldsA v12 33 (gA + 1) j0 j1 j2 j3 j4 j5 := hCXv11.below hb hCXv11.lt
  have eKv12 : RdT v12 x1 K := eKXv11.mv hb
  have eLv12 : RdT v12 x2 K := eLXv11.mv hb
  have hBv12 : Below w.heap.size w v12 := hBXv11.trans (hb.mono hBXv11.size)
  clear hSXv11 hFXv11 hMXv11 hGXv11 hNXv11 hPXv11 hQXv11 hTXv11 hUXv11 hAXv11 hCXv11 eKXv11 eLXv11 hb hBXv11
  have cA0 := hAv12.c0
  have cA1 := hAv12.c1
  have cA2 := hAv12.c2
  have cA3 := hAv12.c3
  have cA4 := hAv12.c4
  have cA5 := hAv12.c5
  have cAf := hAv12.free
  have cC0 := hCv12.c0
  have cC1 := hCv12.c1
  have cC2 := hCv12.c2
  have cC3 := hCv12.c3
  have cC4 := hCv12.c4
  have cC5 := hCv12.c5
  have cCf := hCv12.free
  go_upto_region 17 with (go_at_call 47; (with_reducible refine (HA2.out _).mono ?_); rintro e v13 ⟨rfl, hb⟩)
  clear cA0 cA1 cA2 cA3 cA4 cA5 cAf cC0 cC1 cC2 cC3 cC4 cC5 cCf
  have hSv13 : HoldsA v13 33 gS a0 a1 a2 a3 a4 a5 := hSv12.below hb hSv12.lt
  have hFv13 : HoldsA v13 33 gF f0 f1 f2 f3 f4 f5 := hFv12.below hb hFv12.lt
  have hMv13 : Holds3 v13 39 (gF + 1) m0 m1 m2 := hMv12.below hb hMv12.lt
  have hGv13 : HoldsA v13 33 gG f0 f1 f2 f3 f4 f5 := hGv12.below hb hGv12.lt
  have hNv13 : Holds3 v13 39 (gG + 1) m0 m1 m2 := hNv12.below hb hNv12.lt
  have hPv13 : HoldsA v13 33 gP p0 p1 p2 p3 p4 p5 := hPv12.below hb hPv12.lt
  have hQv13 : HoldsA v13 33 gQ p0 p1 p2 p3 p4 p5 := hQv12.below hb hQv12.lt
  have hTv13 : HoldsA v13 33 gT t0 t1 t2 t3 t4 t5 := hTv12.below hb hTv12.lt
  have hUv13 : HoldsA v13 33 gU t0 t1 t2 t3 t4 t5 := hUv12.below hb hUv12.lt
  have hAv13 : HoldsA v13 33 gA i0 i1 i2 i3 i4 i5 := hAv12.below hb hAv12.lt
  have hCv13 : HoldsA v13 33 (gA + 1) j0 j1 j2 j3 j4 j5 := hCv12.below hb hCv12.lt
  have eKv13 : RdT v13 x1 K := eKv12.mv hb
  have eLv13 : RdT v13 x2 K := eLv12.mv hb
  have hBv13 : Below w.heap.size w v13 := hBv12.trans (hb.mono hBv12.size)
  clear hSv12 hFv12 hMv12 hGv12 hNv12 hPv12 hQv12 hTv12 hUv12 hAv12 hCv12 eKv12 eLv12 hb hBv12
  clear HA1 HA2
  go_cut [220] from 132 to 220 (fun s220 wx => s220 = .bool false ∧ HoldsA wx 33 gS a0 a1 a2 a3 a4 a5 ∧ HoldsA wx 33 gF f0 f1 f2 f3 f4 f5 ∧ Holds3 wx 39 (gF + 1) m0 m1 m2 ∧ HoldsA wx 33 gP p0 p1 p2 p3 p4 p5 ∧ HoldsA wx 33 gT t0 t1 t2 t3 t4 t5 ∧ HoldsA wx 33 gA i0 i1 i2 i3 i4 i5 ∧ HoldsA wx 33 (gA + 1) j0 j1 j2 j3 j4 j5 ∧ RdT wx x1 K ∧ Below w.heap.size w wx)
  case first => as_aux_lemma =>
    clear HOK HAL
    have cF0 := hFv13.c0
    have cF1 := hFv13.c1
    have cF2 := hFv13.c2
    have cF3 := hFv13.c3
    have cF4 := hFv13.c4
    have cF5 := hFv13.c5
    have cFf := hFv13.free
    have cG0 := hGv13.c0
    have cG1 := hGv13.c1
    have cG2 := hGv13.c2
    have cG3 := hGv13.c3
    have cG4 := hGv13.c4
    have cG5 := hGv13.c5
    have cGf := hGv13.free
    have cM0 := hMv13.c0
    have cM1 := hMv13.c1
    have cM2 := hMv13.c2
    have cMf := hMv13.free
    have cN0 := hNv13.c0
    have cN1 := hNv13.c1
    have cN2 := hNv13.c2
    have cNf := hNv13.free
    have cP0 := hPv13.c0
    have cP1 := hPv13.c1
    have cP2 := hPv13.c2
    have cP3 := hPv13.c3
    have cP4 := hPv13.c4
    have cP5 := hPv13.c5
    have cPf := hPv13.free
    have cQ0 := hQv13.c0
    have cQ1 := hQv13.c1
    have cQ2 := hQv13.c2
    have cQ3 := hQv13.c3
    have cQ4 := hQv13.c4
    have cQ5 := hQv13.c5
    have cQf := hQv13.free
    have cT0 := hTv13.c0
    have cT1 := hTv13.c1
    have cT2 := hTv13.c2
    have cT3 := hTv13.c3
    have cT4 := hTv13.c4
    have cT5 := hTv13.c5
    have cTf := hTv13.free
    have cU0 := hUv13.c0
    have cU1 := hUv13.c1
    have cU2 := hUv13.c2
    have cU3 := hUv13.c3
    have cU4 := hUv13.c4
    have cU5 := hUv13.c5
    have cUf := hUv13.free
    go_wp2_with (go_at_call 62; (with_reducible refine (vMotions_any x1 x2 K cap1 cap2 (by omega) _ eKv13 eLv13).mono ?_); rintro e w9 ⟨rfl, hb⟩)
    clear cF0 cF1 cF2 cF3 cF4 cF5 cFf cG0 cG1 cG2 cG3 cG4 cG5 cGf cM0 cM1 cM2 cMf cN0 cN1 cN2 cNf cP0 cP1 cP2 cP3 cP4 cP5 cPf cQ0 cQ1 cQ2 cQ3 cQ4 cQ5 cQf cT0 cT1 cT2 cT3 cT4 cT5 cTf cU0 cU1 cU2 cU3 cU4 cU5 cUf
    have hSw9 : HoldsA w9 33 gS a0 a1 a2 a3 a4 a5 := hSv13.below hb hSv13.lt
    have hFw9 : HoldsA w9 33 gF f0 f1 f2 f3 f4 f5 := hFv13.below hb hFv13.lt
    have hMw9 : Holds3 w9 39 (gF + 1) m0 m1 m2 := hMv13.below hb hMv13.lt
    have hGw9 : HoldsA w9 33 gG f0 f1 f2 f3 f4 f5 := hGv13.below hb hGv13.lt
    have hNw9 : Holds3 w9 39 (gG + 1) m0 m1 m2 := hNv13.below hb hNv13.lt
    have hPw9 : HoldsA w9 33 gP p0 p1 p2 p3 p4 p5 := hPv13.below hb hPv13.lt
    have hQw9 : HoldsA w9 33 gQ p0 p1 p2 p3 p4 p5 := hQv13.below hb hQv13.lt
    have hTw9 : HoldsA w9 33 gT t0 t1 t2 t3 t4 t5 := hTv13.below hb hTv13.lt
    have hUw9 : HoldsA w9 33 gU t0 t1 t2 t3 t4 t5 := hUv13.below hb hUv13.lt
    have hAw9 : HoldsA w9 33 gA i0 i1 i2 i3 i4 i5 := hAv13.below hb hAv13.lt
    have hCw9 : HoldsA w9 33 (gA + 1) j0 j1 j2 j3 j4 j5 := hCv13.below hb hCv13.lt
    have eKw9 : RdT w9 x1 K := eKv13.mv hb
    have eLw9 : RdT w9 x2 K := eLv13.mv hb
    have hBw9 : Below w.heap.size w w9 := hBv13.trans (hb.mono hBv13.size)
    clear hSv13 hFv13 hMv13 hGv13 hNv13 hPv13 hQv13 hTv13 hUv13 hAv13 hCv13 eKv13 eLv13 hb hBv13
    go_meet
    exact ⟨rfl, hSw9, hFw9, hMw9, hPw9, hTw9, hAw9, hCw9, eKw9, hBw9⟩
  case rest =>
    clear hSv13 hFv13 hMv13 hGv13 hNv13 hPv13 hQv13 hTv13 hUv13 hAv13 hCv13 eKv13 eLv13 hBv13
    obtain ⟨rfl, hSVZ, hFVZ, hMVZ, hPVZ, hTVZ, hAVZ, hCVZ, eKVZ, hBVZ⟩ := hcut
    generalize hE : wc = VZ at *
    clear hE wc
    go_upto_if 221 with fail
    go_cut [34, 35, 36, 37, 38, 39] from 222 to 246 (fun s34 s35 s36 s37 s38 s39 wx => HoldsA wx 33 gS a0 a1 a2 a3 a4 a5 ∧ HoldsA wx 33 gF f0 f1 f2 f3 f4 f5 ∧ Holds3 wx 39 (gF + 1) m0 m1 m2 ∧ HoldsA wx 33 gP p0 p1 p2 p3 p4 p5 ∧ HoldsA wx 33 gT t0 t1 t2 t3 t4 t5 ∧ RdT wx x1 K ∧ Below w.heap.size w wx)
    case first => as_aux_lemma =>
      cases three with
      | false => (go_wp2_with fail; go_meet; exact ⟨hSVZ, hFVZ, hMVZ, hPVZ, hTVZ, eKVZ, hBVZ⟩)
      | true =>
        obtain ⟨r0, r1, r2, r3, r4, r5, c0, c1, c2, y0, y1, y2, y3, y4, y5, d0, d1, d2, hg1, hg2, hare⟩ := HAL.out rfl
        have HG1 := Lib.hid hg1
        have HG2 := Lib.hid hg2
        have HARE := Lib.hid hare
        clear hg1 hg2 hare
        clear HAL HOK
        go_upto_region 20 with fail
        have cA0 := hAVZ.c0
        have cA1 := hAVZ.c1
        have cA2 := hAVZ.c2
        have cA3 := hAVZ.c3
        have cA4 := hAVZ.c4
        have cA5 := hAVZ.c5
        have cAf := hAVZ.free
        go_upto_region 21 with (go_at_call 50; (with_reducible refine (HG1.out _).mono ?_); rintro e v16 ⟨rfl, hb⟩)
        clear cA0 cA1 cA2 cA3 cA4 cA5 cAf
        have kX1 := hb.alloc hb.size (.cells #[.int .i64 r0, .int .i64 r1, .int .i64 r2, .int .i64 r3, .int .i64 r4, .int .i64 r5] 33)
        have kX2 := kX1.alloc kX1.size (.cells #[.int .i64 c0, .int .i64 c1, .int .i64 c2] 39)
        have hSXv16 : HoldsA ((v16.alloc (.cells #[.int .i64 r0, .int .i64 r1, .int .i64 r2, .int .i64 r3, .int .i64 r4, .int .i64 r5] 33)).alloc (.cells #[.int .i64 c0, .int .i64 c1, .int .i64 c2] 39)) 33 gS a0 a1 a2 a3 a4 a5 := hSVZ.below kX2 hSVZ.lt
        have hFXv16 : HoldsA ((v16.alloc (.cells #[.int .i64 r0, .int .i64 r1, .int .i64 r2, .int .i64 r3, .int .i64 r4, .int .i64 r5] 33)).alloc (.cells #[.int .i64 c0, .int .i64 c1, .int .i64 c2] 39)) 33 gF f0 f1 f2 f3 f4 f5 := hFVZ.below kX2 hFVZ.lt
        have hMXv16 : Holds3 ((v16.alloc (.cells #[.int .i64 r0, .int .i64 r1, .int .i64 r2, .int .i64 r3, .int .i64 r4, .int .i64 r5] 33)).alloc (.cells #[.int .i64 c0, .int .i64 c1, .int .i64 c2] 39)) 39 (gF + 1) m0 m1 m2 := hMVZ.below kX2 hMVZ.lt
        have hPXv16 : HoldsA ((v16.alloc (.cells #[.int .i64 r0, .int .i64 r1, .int .i64 r2, .int .i64 r3, .int .i64 r4, .int .i64 r5] 33)).alloc (.cells #[.int .i64 c0, .int .i64 c1, .int .i64 c2] 39)) 33 gP p0 p1 p2 p3 p4 p5 := hPVZ.below kX2 hPVZ.lt
        have hTXv16 : HoldsA ((v16.alloc (.cells #[.int .i64 r0, .int .i64 r1, .int .i64 r2, .int .i64 r3, .int .i64 r4, .int .i64 r5] 33)).alloc (.cells #[.int .i64 c0, .int .i64 c1, .int .i64 c2] 39)) 33 gT t0 t1 t2 t3 t4 t5 := hTVZ.below kX2 hTVZ.lt
        have hAXv16 : HoldsA ((v16.alloc (.cells #[.int .i64 r0, .int .i64 r1, .int .i64 r2, .int .i64 r3, .int .i64 r4, .int .i64 r5] 33)).alloc (.cells #[.int .i64 c0, .int .i64 c1, .int .i64 c2] 39)) 33 gA i0 i1 i2 i3 i4 i5 := hAVZ.below kX2 hAVZ.lt
        have hCXv16 : HoldsA ((v16.alloc (.cells #[.int .i64 r0, .int .i64 r1, .int .i64 r2, .int .i64 r3, .int .i64 r4, .int .i64 r5] 33)).alloc (.cells #[.int .i64 c0, .int .i64 c1, .int .i64 c2] 39)) 33 (gA + 1) j0 j1 j2 j3 j4 j5 := hCVZ.below kX2 hCVZ.lt
        have eKXv16 : RdT ((v16.alloc (.cells #[.int .i64 r0, .int .i64 r1, .int .i64 r2, .int .i64 r3, .int .i64 r4, .int .i64 r5] 33)).alloc (.cells #[.int .i64 c0, .int .i64 c1, .int .i64 c2] 39)) x1 K := eKVZ.mv kX2
        have hBXv16 : Below w.heap.size w ((v16.alloc (.cells #[.int .i64 r0, .int .i64 r1, .int .i64 r2, .int .i64 r3, .int .i64 r4, .int .i64 r5] 33)).alloc (.cells #[.int .i64 c0, .int .i64 c1, .int .i64 c2] 39)) := hBVZ.trans (kX2.mono hBVZ.size)
        have hXXv16 : HoldsA ((v16.alloc (.cells #[.int .i64 r0, .int .i64 r1, .int .i64 r2, .int .i64 r3, .int .i64 r4, .int .i64 r5] 33)).alloc (.cells #[.int .i64 c0, .int .i64 c1, .int .i64 c2] 39)) 33 (v16.heap.size) r0 r1 r2 r3 r4 r5 := (HoldsA.made' (by simp)).alloc _
        have hVXv16 : Holds3 ((v16.alloc (.cells #[.int .i64 r0, .int .i64 r1, .int .i64 r2, .int .i64 r3, .int .i64 r4, .int .i64 r5] 33)).alloc (.cells #[.int .i64 c0, .int .i64 c1, .int .i64 c2] 39)) 39 (v16.heap.size + 1) c0 c1 c2 := Holds3.made' (by simp)
        clear hSVZ hFVZ hMVZ hPVZ hTVZ hAVZ hCVZ eKVZ hb hBVZ kX1 kX2
        generalize hE : ((v16.alloc (.cells #[.int .i64 r0, .int .i64 r1, .int .i64 r2, .int .i64 r3, .int .i64 r4, .int .i64 r5] 33)).alloc (.cells #[.int .i64 c0, .int .i64 c1, .int .i64 c2] 39)) = Xv16 at *
        clear hE
        generalize hE : v16.heap.size = gX at *
        clear hE
        have cC0 := hCXv16.c0
        have cC1 := hCXv16.c1
        have cC2 := hCXv16.c2
        have cC3 := hCXv16.c3
        have cC4 := hCXv16.c4
        have cC5 := hCXv16.c5
        have cCf := hCXv16.free
        go_upto_region 22 with (go_at_call 50; (with_reducible refine (HG2.out _).mono ?_); rintro e v17 ⟨rfl, hb⟩)
        clear cC0 cC1 cC2 cC3 cC4 cC5 cCf
        have kX1 := hb.alloc hb.size (.cells #[.int .i64 y0, .int .i64 y1, .int .i64 y2, .int .i64 y3, .int .i64 y4, .int .i64 y5] 33)
        have kX2 := kX1.alloc kX1.size (.cells #[.int .i64 d0, .int .i64 d1, .int .i64 d2] 39)
        have hSXv17 : HoldsA ((v17.alloc (.cells #[.int .i64 y0, .int .i64 y1, .int .i64 y2, .int .i64 y3, .int .i64 y4, .int .i64 y5] 33)).alloc (.cells #[.int .i64 d0, .int .i64 d1, .int .i64 d2] 39)) 33 gS a0 a1 a2 a3 a4 a5 := hSXv16.below kX2 hSXv16.lt
        have hFXv17 : HoldsA ((v17.alloc (.cells #[.int .i64 y0, .int .i64 y1, .int .i64 y2, .int .i64 y3, .int .i64 y4, .int .i64 y5] 33)).alloc (.cells #[.int .i64 d0, .int .i64 d1, .int .i64 d2] 39)) 33 gF f0 f1 f2 f3 f4 f5 := hFXv16.below kX2 hFXv16.lt
        have hMXv17 : Holds3 ((v17.alloc (.cells #[.int .i64 y0, .int .i64 y1, .int .i64 y2, .int .i64 y3, .int .i64 y4, .int .i64 y5] 33)).alloc (.cells #[.int .i64 d0, .int .i64 d1, .int .i64 d2] 39)) 39 (gF + 1) m0 m1 m2 := hMXv16.below kX2 hMXv16.lt
        have hPXv17 : HoldsA ((v17.alloc (.cells #[.int .i64 y0, .int .i64 y1, .int .i64 y2, .int .i64 y3, .int .i64 y4, .int .i64 y5] 33)).alloc (.cells #[.int .i64 d0, .int .i64 d1, .int .i64 d2] 39)) 33 gP p0 p1 p2 p3 p4 p5 := hPXv16.below kX2 hPXv16.lt
        have hTXv17 : HoldsA ((v17.alloc (.cells #[.int .i64 y0, .int .i64 y1, .int .i64 y2, .int .i64 y3, .int .i64 y4, .int .i64 y5] 33)).alloc (.cells #[.int .i64 d0, .int .i64 d1, .int .i64 d2] 39)) 33 gT t0 t1 t2 t3 t4 t5 := hTXv16.below kX2 hTXv16.lt
        have hAXv17 : HoldsA ((v17.alloc (.cells #[.int .i64 y0, .int .i64 y1, .int .i64 y2, .int .i64 y3, .int .i64 y4, .int .i64 y5] 33)).alloc (.cells #[.int .i64 d0, .int .i64 d1, .int .i64 d2] 39)) 33 gA i0 i1 i2 i3 i4 i5 := hAXv16.below kX2 hAXv16.lt
        have hCXv17 : HoldsA ((v17.alloc (.cells #[.int .i64 y0, .int .i64 y1, .int .i64 y2, .int .i64 y3, .int .i64 y4, .int .i64 y5] 33)).alloc (.cells #[.int .i64 d0, .int .i64 d1, .int .i64 d2] 39)) 33 (gA + 1) j0 j1 j2 j3 j4 j5 := hCXv16.below kX2 hCXv16.lt
        have hXXv17 : HoldsA ((v17.alloc (.cells #[.int .i64 y0, .int .i64 y1, .int .i64 y2, .int .i64 y3, .int .i64 y4, .int .i64 y5] 33)).alloc (.cells #[.int .i64 d0, .int .i64 d1, .int .i64 d2] 39)) 33 gX r0 r1 r2 r3 r4 r5 := hXXv16.below kX2 hXXv16.lt
        have hVXv17 : Holds3 ((v17.alloc (.cells #[.int .i64 y0, .int .i64 y1, .int .i64 y2, .int .i64 y3, .int .i64 y4, .int .i64 y5] 33)).alloc (.cells #[.int .i64 d0, .int .i64 d1, .int .i64 d2] 39)) 39 (gX + 1) c0 c1 c2 := hVXv16.below kX2 hVXv16.lt
        have eKXv17 : RdT ((v17.alloc (.cells #[.int .i64 y0, .int .i64 y1, .int .i64 y2, .int .i64 y3, .int .i64 y4, .int .i64 y5] 33)).alloc (.cells #[.int .i64 d0, .int .i64 d1, .int .i64 d2] 39)) x1 K := eKXv16.mv kX2
        have hBXv17 : Below w.heap.size w ((v17.alloc (.cells #[.int .i64 y0, .int .i64 y1, .int .i64 y2, .int .i64 y3, .int .i64 y4, .int .i64 y5] 33)).alloc (.cells #[.int .i64 d0, .int .i64 d1, .int .i64 d2] 39)) := hBXv16.trans (kX2.mono hBXv16.size)
        have hYXv17 : HoldsA ((v17.alloc (.cells #[.int .i64 y0, .int .i64 y1, .int .i64 y2, .int .i64 y3, .int .i64 y4, .int .i64 y5] 33)).alloc (.cells #[.int .i64 d0, .int .i64 d1, .int .i64 d2] 39)) 33 (v17.heap.size) y0 y1 y2 y3 y4 y5 := (HoldsA.made' (by simp)).alloc _
        have hWXv17 : Holds3 ((v17.alloc (.cells #[.int .i64 y0, .int .i64 y1, .int .i64 y2, .int .i64 y3, .int .i64 y4, .int .i64 y5] 33)).alloc (.cells #[.int .i64 d0, .int .i64 d1, .int .i64 d2] 39)) 39 (v17.heap.size + 1) d0 d1 d2 := Holds3.made' (by simp)
        clear hSXv16 hFXv16 hMXv16 hPXv16 hTXv16 hAXv16 hCXv16 hXXv16 hVXv16 eKXv16 hb hBXv16 kX1 kX2
        generalize hE : ((v17.alloc (.cells #[.int .i64 y0, .int .i64 y1, .int .i64 y2, .int .i64 y3, .int .i64 y4, .int .i64 y5] 33)).alloc (.cells #[.int .i64 d0, .int .i64 d1, .int .i64 d2] 39)) = Xv17 at *
        clear hE
        generalize hE : v17.heap.size = gY at *
        clear hE
        have cX0 := hXXv17.c0
        have cX1 := hXXv17.c1
        have cX2 := hXXv17.c2
        have cX3 := hXXv17.c3
        have cX4 := hXXv17.c4
        have cX5 := hXXv17.c5
        have cXf := hXXv17.free
        have cY0 := hYXv17.c0
        have cY1 := hYXv17.c1
        have cY2 := hYXv17.c2
        have cY3 := hYXv17.c3
        have cY4 := hYXv17.c4
        have cY5 := hYXv17.c5
        have cYf := hYXv17.free
        have hare := HARE.out
        clear HARE HG1 HG2
        cases are with
        | true =>
          have hP := of_decide_eq_true hare.symm
          clear hare
          obtain ⟨q0, q1, q2, q3, q4, q5⟩ := hP
          subst q0 q1 q2 q3 q4 q5
          (go_wp2_with fail; go_meet; exact ⟨hSXv17, hFXv17, hMXv17, hPXv17, hTXv17, eKXv17, hBXv17⟩)
        | false =>
          have hP := hare.symm
          clear hare
          (go_wp2_with fail; go_meet; exact ⟨hSXv17, hFXv17, hMXv17, hPXv17, hTXv17, eKXv17, hBXv17⟩)
    case rest =>
      clear hSVZ hFVZ hMVZ hPVZ hTVZ hAVZ hCVZ eKVZ hBVZ
      obtain ⟨hSZ15, hFZ15, hMZ15, hPZ15, hTZ15, eKZ15, hBZ15⟩ := hcut
      generalize hE : wc = Z15 at *
      clear hE wc
      clear HAL
      go_upto_if 248 with fail
      cases ok with
      | false => (go_wp2_with fail; go_ret; exact ⟨rfl, hBZ15⟩)
      | true =>
        obtain ⟨hmv, htu, ⟨n0, n1, n2, hff⟩, hls, hmk, hK0, ⟨z, hz, o0, o1, o2⟩, hin⟩ := HOK.out rfl
        have HMV := Lib.hid hmv
        have HTU := Lib.hid htu
        have HFF := Lib.hid hff
        have HLS := Lib.hid hls
        have HIN := Lib.hid hin
        have HMK := Lib.hid hmk
        have O0 := Lib.hid o0
        have O1 := Lib.hid o1
        have O2 := Lib.hid o2
        clear hmv htu hff hls hin hmk o0 o1 o2
        clear HOK
        go_upto_region 26 with fail
        have cS0 := hSZ15.c0
        have cS1 := hSZ15.c1
        have cS2 := hSZ15.c2
        have cS3 := hSZ15.c3
        have cS4 := hSZ15.c4
        have cS5 := hSZ15.c5
        have cSf := hSZ15.free
        have cM0 := hMZ15.c0
        have cM1 := hMZ15.c1
        have cM2 := hMZ15.c2
        have cMf := hMZ15.free
        go_upto_region 27 with (go_at_call 35; (with_reducible refine (HMV.out _).mono ?_); rintro e v18 ⟨rfl, hb⟩)
        clear cS0 cS1 cS2 cS3 cS4 cS5 cSf cM0 cM1 cM2 cMf
        have kX1 := hb.alloc hb.size (.cells #[.int .i64 f0, .int .i64 f1, .int .i64 f2, .int .i64 f3, .int .i64 f4, .int .i64 f5] 33)
        have hSXv18 : HoldsA (v18.alloc (.cells #[.int .i64 f0, .int .i64 f1, .int .i64 f2, .int .i64 f3, .int .i64 f4, .int .i64 f5] 33)) 33 gS a0 a1 a2 a3 a4 a5 := hSZ15.below kX1 hSZ15.lt
        have hFXv18 : HoldsA (v18.alloc (.cells #[.int .i64 f0, .int .i64 f1, .int .i64 f2, .int .i64 f3, .int .i64 f4, .int .i64 f5] 33)) 33 gF f0 f1 f2 f3 f4 f5 := hFZ15.below kX1 hFZ15.lt
        have hMXv18 : Holds3 (v18.alloc (.cells #[.int .i64 f0, .int .i64 f1, .int .i64 f2, .int .i64 f3, .int .i64 f4, .int .i64 f5] 33)) 39 (gF + 1) m0 m1 m2 := hMZ15.below kX1 hMZ15.lt
        have hPXv18 : HoldsA (v18.alloc (.cells #[.int .i64 f0, .int .i64 f1, .int .i64 f2, .int .i64 f3, .int .i64 f4, .int .i64 f5] 33)) 33 gP p0 p1 p2 p3 p4 p5 := hPZ15.below kX1 hPZ15.lt
        have hTXv18 : HoldsA (v18.alloc (.cells #[.int .i64 f0, .int .i64 f1, .int .i64 f2, .int .i64 f3, .int .i64 f4, .int .i64 f5] 33)) 33 gT t0 t1 t2 t3 t4 t5 := hTZ15.below kX1 hTZ15.lt
        have eKXv18 : RdT (v18.alloc (.cells #[.int .i64 f0, .int .i64 f1, .int .i64 f2, .int .i64 f3, .int .i64 f4, .int .i64 f5] 33)) x1 K := eKZ15.mv kX1
        have hBXv18 : Below w.heap.size w (v18.alloc (.cells #[.int .i64 f0, .int .i64 f1, .int .i64 f2, .int .i64 f3, .int .i64 f4, .int .i64 f5] 33)) := hBZ15.trans (kX1.mono hBZ15.size)
        have hDXv18 : HoldsA (v18.alloc (.cells #[.int .i64 f0, .int .i64 f1, .int .i64 f2, .int .i64 f3, .int .i64 f4, .int .i64 f5] 33)) 33 (v18.heap.size) f0 f1 f2 f3 f4 f5 := HoldsA.made' (by simp)
        clear hSZ15 hFZ15 hMZ15 hPZ15 hTZ15 eKZ15 hb hBZ15 kX1
        generalize hE : (v18.alloc (.cells #[.int .i64 f0, .int .i64 f1, .int .i64 f2, .int .i64 f3, .int .i64 f4, .int .i64 f5] 33)) = Xv18 at *
        clear hE
        generalize hE : v18.heap.size = gD at *
        clear hE
        have cS0 := hSXv18.c0
        have cS1 := hSXv18.c1
        have cS2 := hSXv18.c2
        have cS3 := hSXv18.c3
        have cS4 := hSXv18.c4
        have cS5 := hSXv18.c5
        have cSf := hSXv18.free
        go_upto_region 28 with (go_at_call 26; (with_reducible refine (HTU.out _).mono ?_); rintro e v19 ⟨rfl, hb⟩)
        clear cS0 cS1 cS2 cS3 cS4 cS5 cSf
        have kX1 := hb.alloc hb.size (.cells #[.int .i64 t0, .int .i64 t1, .int .i64 t2, .int .i64 t3, .int .i64 t4, .int .i64 t5] 33)
        have hSXv19 : HoldsA (v19.alloc (.cells #[.int .i64 t0, .int .i64 t1, .int .i64 t2, .int .i64 t3, .int .i64 t4, .int .i64 t5] 33)) 33 gS a0 a1 a2 a3 a4 a5 := hSXv18.below kX1 hSXv18.lt
        have hFXv19 : HoldsA (v19.alloc (.cells #[.int .i64 t0, .int .i64 t1, .int .i64 t2, .int .i64 t3, .int .i64 t4, .int .i64 t5] 33)) 33 gF f0 f1 f2 f3 f4 f5 := hFXv18.below kX1 hFXv18.lt
        have hMXv19 : Holds3 (v19.alloc (.cells #[.int .i64 t0, .int .i64 t1, .int .i64 t2, .int .i64 t3, .int .i64 t4, .int .i64 t5] 33)) 39 (gF + 1) m0 m1 m2 := hMXv18.below kX1 hMXv18.lt
        have hPXv19 : HoldsA (v19.alloc (.cells #[.int .i64 t0, .int .i64 t1, .int .i64 t2, .int .i64 t3, .int .i64 t4, .int .i64 t5] 33)) 33 gP p0 p1 p2 p3 p4 p5 := hPXv18.below kX1 hPXv18.lt
        have hTXv19 : HoldsA (v19.alloc (.cells #[.int .i64 t0, .int .i64 t1, .int .i64 t2, .int .i64 t3, .int .i64 t4, .int .i64 t5] 33)) 33 gT t0 t1 t2 t3 t4 t5 := hTXv18.below kX1 hTXv18.lt
        have hDXv19 : HoldsA (v19.alloc (.cells #[.int .i64 t0, .int .i64 t1, .int .i64 t2, .int .i64 t3, .int .i64 t4, .int .i64 t5] 33)) 33 gD f0 f1 f2 f3 f4 f5 := hDXv18.below kX1 hDXv18.lt
        have eKXv19 : RdT (v19.alloc (.cells #[.int .i64 t0, .int .i64 t1, .int .i64 t2, .int .i64 t3, .int .i64 t4, .int .i64 t5] 33)) x1 K := eKXv18.mv kX1
        have hBXv19 : Below w.heap.size w (v19.alloc (.cells #[.int .i64 t0, .int .i64 t1, .int .i64 t2, .int .i64 t3, .int .i64 t4, .int .i64 t5] 33)) := hBXv18.trans (kX1.mono hBXv18.size)
        have hEXv19 : HoldsA (v19.alloc (.cells #[.int .i64 t0, .int .i64 t1, .int .i64 t2, .int .i64 t3, .int .i64 t4, .int .i64 t5] 33)) 33 (v19.heap.size) t0 t1 t2 t3 t4 t5 := HoldsA.made' (by simp)
        clear hSXv18 hFXv18 hMXv18 hPXv18 hTXv18 hDXv18 eKXv18 hb hBXv18 kX1
        generalize hE : (v19.alloc (.cells #[.int .i64 t0, .int .i64 t1, .int .i64 t2, .int .i64 t3, .int .i64 t4, .int .i64 t5] 33)) = Xv19 at *
        clear hE
        generalize hE : v19.heap.size = gE at *
        clear hE
        have cF0 := hFXv19.c0
        have cF1 := hFXv19.c1
        have cF2 := hFXv19.c2
        have cF3 := hFXv19.c3
        have cF4 := hFXv19.c4
        have cF5 := hFXv19.c5
        have cFf := hFXv19.free
        go_upto_region 29 with (go_at_call 50; (with_reducible refine (HFF.out _).mono ?_); rintro e v20 ⟨rfl, hb⟩)
        clear cF0 cF1 cF2 cF3 cF4 cF5 cFf
        have kX1 := hb.alloc hb.size (.cells #[.int .i64 f0, .int .i64 f1, .int .i64 f2, .int .i64 f3, .int .i64 f4, .int .i64 f5] 33)
        have kX2 := kX1.alloc kX1.size (.cells #[.int .i64 n0, .int .i64 n1, .int .i64 n2] 39)
        have hSXv20 : HoldsA ((v20.alloc (.cells #[.int .i64 f0, .int .i64 f1, .int .i64 f2, .int .i64 f3, .int .i64 f4, .int .i64 f5] 33)).alloc (.cells #[.int .i64 n0, .int .i64 n1, .int .i64 n2] 39)) 33 gS a0 a1 a2 a3 a4 a5 := hSXv19.below kX2 hSXv19.lt
        have hFXv20 : HoldsA ((v20.alloc (.cells #[.int .i64 f0, .int .i64 f1, .int .i64 f2, .int .i64 f3, .int .i64 f4, .int .i64 f5] 33)).alloc (.cells #[.int .i64 n0, .int .i64 n1, .int .i64 n2] 39)) 33 gF f0 f1 f2 f3 f4 f5 := hFXv19.below kX2 hFXv19.lt
        have hMXv20 : Holds3 ((v20.alloc (.cells #[.int .i64 f0, .int .i64 f1, .int .i64 f2, .int .i64 f3, .int .i64 f4, .int .i64 f5] 33)).alloc (.cells #[.int .i64 n0, .int .i64 n1, .int .i64 n2] 39)) 39 (gF + 1) m0 m1 m2 := hMXv19.below kX2 hMXv19.lt
        have hPXv20 : HoldsA ((v20.alloc (.cells #[.int .i64 f0, .int .i64 f1, .int .i64 f2, .int .i64 f3, .int .i64 f4, .int .i64 f5] 33)).alloc (.cells #[.int .i64 n0, .int .i64 n1, .int .i64 n2] 39)) 33 gP p0 p1 p2 p3 p4 p5 := hPXv19.below kX2 hPXv19.lt
        have hTXv20 : HoldsA ((v20.alloc (.cells #[.int .i64 f0, .int .i64 f1, .int .i64 f2, .int .i64 f3, .int .i64 f4, .int .i64 f5] 33)).alloc (.cells #[.int .i64 n0, .int .i64 n1, .int .i64 n2] 39)) 33 gT t0 t1 t2 t3 t4 t5 := hTXv19.below kX2 hTXv19.lt
        have hDXv20 : HoldsA ((v20.alloc (.cells #[.int .i64 f0, .int .i64 f1, .int .i64 f2, .int .i64 f3, .int .i64 f4, .int .i64 f5] 33)).alloc (.cells #[.int .i64 n0, .int .i64 n1, .int .i64 n2] 39)) 33 gD f0 f1 f2 f3 f4 f5 := hDXv19.below kX2 hDXv19.lt
        have hEXv20 : HoldsA ((v20.alloc (.cells #[.int .i64 f0, .int .i64 f1, .int .i64 f2, .int .i64 f3, .int .i64 f4, .int .i64 f5] 33)).alloc (.cells #[.int .i64 n0, .int .i64 n1, .int .i64 n2] 39)) 33 gE t0 t1 t2 t3 t4 t5 := hEXv19.below kX2 hEXv19.lt
        have eKXv20 : RdT ((v20.alloc (.cells #[.int .i64 f0, .int .i64 f1, .int .i64 f2, .int .i64 f3, .int .i64 f4, .int .i64 f5] 33)).alloc (.cells #[.int .i64 n0, .int .i64 n1, .int .i64 n2] 39)) x1 K := eKXv19.mv kX2
        have hBXv20 : Below w.heap.size w ((v20.alloc (.cells #[.int .i64 f0, .int .i64 f1, .int .i64 f2, .int .i64 f3, .int .i64 f4, .int .i64 f5] 33)).alloc (.cells #[.int .i64 n0, .int .i64 n1, .int .i64 n2] 39)) := hBXv19.trans (kX2.mono hBXv19.size)
        have hGXv20 : HoldsA ((v20.alloc (.cells #[.int .i64 f0, .int .i64 f1, .int .i64 f2, .int .i64 f3, .int .i64 f4, .int .i64 f5] 33)).alloc (.cells #[.int .i64 n0, .int .i64 n1, .int .i64 n2] 39)) 33 (v20.heap.size) f0 f1 f2 f3 f4 f5 := (HoldsA.made' (by simp)).alloc _
        have hNXv20 : Holds3 ((v20.alloc (.cells #[.int .i64 f0, .int .i64 f1, .int .i64 f2, .int .i64 f3, .int .i64 f4, .int .i64 f5] 33)).alloc (.cells #[.int .i64 n0, .int .i64 n1, .int .i64 n2] 39)) 39 (v20.heap.size + 1) n0 n1 n2 := Holds3.made' (by simp)
        clear hSXv19 hFXv19 hMXv19 hPXv19 hTXv19 hDXv19 hEXv19 eKXv19 hb hBXv19 kX1 kX2
        generalize hE : ((v20.alloc (.cells #[.int .i64 f0, .int .i64 f1, .int .i64 f2, .int .i64 f3, .int .i64 f4, .int .i64 f5] 33)).alloc (.cells #[.int .i64 n0, .int .i64 n1, .int .i64 n2] 39)) = Xv20 at *
        clear hE
        generalize hE : v20.heap.size = gG at *
        clear hE
        have cP0 := hPXv20.c0
        have cP1 := hPXv20.c1
        have cP2 := hPXv20.c2
        have cP3 := hPXv20.c3
        have cP4 := hPXv20.c4
        have cP5 := hPXv20.c5
        have cPf := hPXv20.free
        have cF0 := hFXv20.c0
        have cF1 := hFXv20.c1
        have cF2 := hFXv20.c2
        have cF3 := hFXv20.c3
        have cF4 := hFXv20.c4
        have cF5 := hFXv20.c5
        have cFf := hFXv20.free
        go_upto_region 30 with (go_at_call 63; (with_reducible refine (HLS.out _).mono ?_); rintro e v21 ⟨rfl, hb⟩)
        clear cP0 cP1 cP2 cP3 cP4 cP5 cPf cF0 cF1 cF2 cF3 cF4 cF5 cFf
        have hSv21 : HoldsA v21 33 gS a0 a1 a2 a3 a4 a5 := hSXv20.below hb hSXv20.lt
        have hFv21 : HoldsA v21 33 gF f0 f1 f2 f3 f4 f5 := hFXv20.below hb hFXv20.lt
        have hMv21 : Holds3 v21 39 (gF + 1) m0 m1 m2 := hMXv20.below hb hMXv20.lt
        have hPv21 : HoldsA v21 33 gP p0 p1 p2 p3 p4 p5 := hPXv20.below hb hPXv20.lt
        have hTv21 : HoldsA v21 33 gT t0 t1 t2 t3 t4 t5 := hTXv20.below hb hTXv20.lt
        have hDv21 : HoldsA v21 33 gD f0 f1 f2 f3 f4 f5 := hDXv20.below hb hDXv20.lt
        have hEv21 : HoldsA v21 33 gE t0 t1 t2 t3 t4 t5 := hEXv20.below hb hEXv20.lt
        have hGv21 : HoldsA v21 33 gG f0 f1 f2 f3 f4 f5 := hGXv20.below hb hGXv20.lt
        have hNv21 : Holds3 v21 39 (gG + 1) n0 n1 n2 := hNXv20.below hb hNXv20.lt
        have eKv21 : RdT v21 x1 K := eKXv20.mv hb
        have hBv21 : Below w.heap.size w v21 := hBXv20.trans (hb.mono hBXv20.size)
        clear hSXv20 hFXv20 hMXv20 hPXv20 hTXv20 hDXv20 hEXv20 hGXv20 hNXv20 eKXv20 hb hBXv20
        clear HMV HTU HFF HLS
        go_cut [317] from 273 to 317 (fun s317 wx => s317 = .bool false ∧ HoldsA wx 33 gS a0 a1 a2 a3 a4 a5 ∧ RdT wx x1 K ∧ Below w.heap.size w wx)
        case first => as_aux_lemma =>
          clear HIN
          have hmk := HMK.out
          have cD0 := hDv21.c0
          have cD1 := hDv21.c1
          have cD2 := hDv21.c2
          have cD3 := hDv21.c3
          have cD4 := hDv21.c4
          have cD5 := hDv21.c5
          have cDf := hDv21.free
          have cF0 := hFv21.c0
          have cF1 := hFv21.c1
          have cF2 := hFv21.c2
          have cF3 := hFv21.c3
          have cF4 := hFv21.c4
          have cF5 := hFv21.c5
          have cFf := hFv21.free
          have cE0 := hEv21.c0
          have cE1 := hEv21.c1
          have cE2 := hEv21.c2
          have cE3 := hEv21.c3
          have cE4 := hEv21.c4
          have cE5 := hEv21.c5
          have cEf := hEv21.free
          have cT0 := hTv21.c0
          have cT1 := hTv21.c1
          have cT2 := hTv21.c2
          have cT3 := hTv21.c3
          have cT4 := hTv21.c4
          have cT5 := hTv21.c5
          have cTf := hTv21.free
          have cG0 := hGv21.c0
          have cG1 := hGv21.c1
          have cG2 := hGv21.c2
          have cG3 := hGv21.c3
          have cG4 := hGv21.c4
          have cG5 := hGv21.c5
          have cGf := hGv21.free
          go_wp2_with (go_at_call 64; (with_reducible refine (vMotion_any x1 K cap1 0 0 0 (by omega) _ (RdT.mv eKv21 (by repeat (first | with_reducible exact Below.refl _ _ | with_reducible assumption | with_reducible refine Below.drew ?_ | with_reducible refine below_drewN ?_ _ | with_reducible refine Below.alloc ?_ ?_ _ | with_reducible refine Below.setCell ?_ ?_ _ | with_reducible refine Below.trans ?_ (Below.mono (by assumption) ?_) | omega | (simp <;> omega)))) z hz O0.out O1.out O2.out).mono ?_); rintro e w9 ⟨rfl, hb⟩)
          clear cD0 cD1 cD2 cD3 cD4 cD5 cDf cF0 cF1 cF2 cF3 cF4 cF5 cFf cE0 cE1 cE2 cE3 cE4 cE5 cEf cT0 cT1 cT2 cT3 cT4 cT5 cTf cG0 cG1 cG2 cG3 cG4 cG5 cGf
          have hSw9 : HoldsA w9 33 gS a0 a1 a2 a3 a4 a5 := hSv21.below hb hSv21.lt
          have hFw9 : HoldsA w9 33 gF f0 f1 f2 f3 f4 f5 := hFv21.below hb hFv21.lt
          have hMw9 : Holds3 w9 39 (gF + 1) m0 m1 m2 := hMv21.below hb hMv21.lt
          have hPw9 : HoldsA w9 33 gP p0 p1 p2 p3 p4 p5 := hPv21.below hb hPv21.lt
          have hTw9 : HoldsA w9 33 gT t0 t1 t2 t3 t4 t5 := hTv21.below hb hTv21.lt
          have hDw9 : HoldsA w9 33 gD f0 f1 f2 f3 f4 f5 := hDv21.below hb hDv21.lt
          have hEw9 : HoldsA w9 33 gE t0 t1 t2 t3 t4 t5 := hEv21.below hb hEv21.lt
          have hGw9 : HoldsA w9 33 gG f0 f1 f2 f3 f4 f5 := hGv21.below hb hGv21.lt
          have hNw9 : Holds3 w9 39 (gG + 1) n0 n1 n2 := hNv21.below hb hNv21.lt
          have eKw9 : RdT w9 x1 K := eKv21.mv hb
          have hBw9 : Below w.heap.size w w9 := hBv21.trans (hb.mono hBv21.size)
          clear hSv21 hFv21 hMv21 hPv21 hTv21 hDv21 hEv21 hGv21 hNv21 eKv21 hb hBv21
          go_meet
          exact ⟨rfl, hSw9, eKw9, hBw9⟩
        case rest =>
          clear hSv21 hFv21 hMv21 hPv21 hTv21 hDv21 hEv21 hGv21 hNv21 eKv21 hBv21
          obtain ⟨rfl, hSZ22, eKZ22, hBZ22⟩ := hcut
          generalize hE : wc = Z22 at *
          clear hE wc
          clear O0 O1 O2 HMK hz
          go_wp2_with fail
          go_loopw [49] (fun i wr => ∃ q : Nat, q ≤ K.length ∧ q ≤ 12 ∧ i = .int .i64 (q : Int) ∧ HoldsA wr 33 gS a0 a1 a2 a3 a4 a5 ∧ RdT wr x1 K ∧ Below w.heap.size w wr) (fun i _ => 12 - (intOf i).toNat)
          case atStart => exact ⟨0, Nat.zero_le _, by omega, rfl, hSZ22, eKZ22, hBZ22⟩
          case round =>
            clear hSZ22 eKZ22 hBZ22
            obtain ⟨q, hq, hq12, rfl, hSwr, eKwr, hBwr⟩ := hrel
            by_cases hlt : q < K.length
            rotate_left
            · have e : q = K.length := by omega
              subst e
              go_wp2_with fail
              go_ret
              exact ⟨rfl, hBwr⟩
            have hlt' : (q : Int) < (K.length : Int) := by omega
            by_cases h12 : q < 12
            rotate_left
            · have h12' : ¬ (q : Int) < 12 := by omega
              go_wp2_with fail
              go_ret
              exact ⟨rfl, hBwr⟩
            have h12' : (q : Int) < 12 := by omega
            obtain ⟨hmv, b0, b1, b2, c0, c1, c2, hbe, ⟨jb, hjb, jb0, jb1, jb2⟩, hba, ⟨jc, hjc, jc0, jc1, jc2⟩⟩ := HIN.out q hlt
            have HMV := Lib.hid hmv
            have HBE := Lib.hid hbe
            have HBA := Lib.hid hba
            have JB0 := Lib.hid jb0
            have JB1 := Lib.hid jb1
            have JB2 := Lib.hid jb2
            have JC0 := Lib.hid jc0
            have JC1 := Lib.hid jc1
            have JC2 := Lib.hid jc2
            clear hmv hbe hba jb0 jb1 jb2 jc0 jc1 jc2
            rcases eKwr with e0 | ⟨gK, rfl, hgK, hcell⟩
            · rw [e0] at hlt; simp at hlt
            have HCELL := Lib.hid hcell
            clear hcell
            obtain ⟨l, hl⟩ : ∃ l, K.length - 1 = l := ⟨_, rfl⟩
            have HBE2 := HBE.out
            rw [hl] at HBE2
            have HBE := Lib.hid HBE2
            clear HBE2
            have hlK : l < K.length := by omega
            have q1 : (K.length : Int) - 1 = (l : Int) := by omega
            have q2 : (l : Int) < (K.length : Int) := by omega
            have q3 : (0 : Int) ≤ (l : Int) := by omega
            have w1 : wrap64 (l : Int) = (l : Int) := IntWalk.wrap64_in _ ⟨by omega, by omega⟩
            have w2 : IntKind.i64.wrap (l : Int) = (l : Int) := IntWalk.i64_in _ ⟨by omega, by omega⟩
            have q4 : ¬ (l : Int) < 0 := Int.not_lt.2 q3
            clear hl
            have cq0 := HCELL.out (q * 3) (by omega)
            have cq1 := HCELL.out (q * 3 + 1) (by omega)
            have cq2 := HCELL.out (q * 3 + 2) (by omega)
            have tq : Tri wr gK (q * 3) (trF K (q * 3)) (trF K (q * 3 + 1)) (trF K (q * 3 + 2)) := ⟨hgK, cq0, cq1, cq2⟩
            have lS := hSwr.lt
            have key : ∀ WF : World, Below wr.heap.size wr WF → (HoldsA WF 33 gS a0 a1 a2 a3 a4 a5 ∧ Below w.heap.size w WF) := fun WF hbF => ⟨hSwr.below hbF lS, hBwr.trans (hbF.mono hBwr.size)⟩
            have KEY := Lib.hid key
            clear key
            go_upto_region 35 with fail
            have cS0 := hSwr.c0
            have cS1 := hSwr.c1
            have cS2 := hSwr.c2
            have cS3 := hSwr.c3
            have cS4 := hSwr.c4
            have cS5 := hSwr.c5
            have cSf := hSwr.free
            go_cut [50, 51] from 328 to 336 (fun s50 s51 wx => s51 = .bool true ∧ ∃ gD : Nat, s50 = .pointer (some ⟨gD, 0, none⟩) ∧ HoldsA wx 33 gD a0 a1 a2 a3 a4 a5 ∧ Below wr.heap.size wr wx)
            case first =>
              go_region_held3 (fun w' => w'.cell? ⟨gS, 0, none⟩ = some (.int .i64 a0) ∧ w'.cell? ⟨gS, 1, none⟩ = some (.int .i64 a1) ∧ w'.cell? ⟨gS, 2, none⟩ = some (.int .i64 a2) ∧ w'.cell? ⟨gS, 3, none⟩ = some (.int .i64 a3) ∧ w'.cell? ⟨gS, 4, none⟩ = some (.int .i64 a4) ∧ w'.cell? ⟨gS, 5, none⟩ = some (.int .i64 a5) ∧ w'.cell? ⟨gK, q * 3, none⟩ = some (.int .i64 (trF K (q * 3))) ∧ w'.cell? ⟨gK, q * 3 + 1, none⟩ = some (.int .i64 (trF K (q * 3 + 1))) ∧ w'.cell? ⟨gK, q * 3 + 2, none⟩ = some (.int .i64 (trF K (q * 3 + 2)))) (simp [*, World.cell?_alloc_some, World.cell?_setCell_far, Nat.ne_of_gt, Nat.ne_of_lt]) (first | (go_at_call 35; (try simp only [List.getElem?_cons_succ, List.getElem?_cons_zero, Option.getD_some]); (with_reducible refine (HMV.out _).mono ?_); rintro e v ⟨rfl, hb⟩; have hbs := hb.size; (try simp only [World.size_alloc, World.size_drew, size_drewN] at hbs); have kS : HoldsA v 33 gS a0 a1 a2 a3 a4 a5 := HoldsA.below (by repeat (first | with_reducible assumption | (with_reducible refine HoldsA.made' ?_; (simp; done)) | with_reducible refine HoldsA.alloc ?_ _ | with_reducible refine HoldsA.drew ?_ | with_reducible refine HoldsA.drewN ?_ _)) hb (by first | (simp; done) | (simp; omega) | omega); have y0 := kS.c0; have y1 := kS.c1; have y2 := kS.c2; have y3 := kS.c3; have y4 := kS.c4; have y5 := kS.c5; have kT : Tri v gK (q * 3) (trF K (q * 3)) (trF K (q * 3 + 1)) (trF K (q * 3 + 2)) := Tri.below (by repeat (first | with_reducible assumption | with_reducible refine Tri.alloc ?_ _ | with_reducible refine Tri.drew ?_ | with_reducible refine Tri.drewN ?_ _)) hb (by first | (simp; done) | (simp; omega) | omega); have yq0 := kT.2.1; have yq1 := kT.2.2.1; have yq2 := kT.2.2.2; have lSv : gS < v.heap.size := (by omega); have lKv : gK < v.heap.size := (by omega); (try (have kE : HoldsA v 33 wr.heap.size 0 0 0 0 0 0 := HoldsA.below (by repeat (first | with_reducible assumption | (with_reducible refine HoldsA.made' ?_; (simp; done)) | with_reducible refine HoldsA.alloc ?_ _ | with_reducible refine HoldsA.drew ?_ | with_reducible refine HoldsA.drewN ?_ _)) hb (by first | (simp; done) | (simp; omega) | omega); have z0 := kE.c0; have z1 := kE.c1; have z2 := kE.c2; have z3 := kE.c3; have z4 := kE.c4; have z5 := kE.c5; have zf := kE.free))))
              all_goals
                go_wp2_with fail
                go_meet
                exact ⟨rfl, _, rfl, (by first | with_reducible exact HoldsA.made' (by simp) | with_reducible exact kE.store _ _ _ _ _ _), (by repeat (first | with_reducible exact Below.refl _ _ | with_reducible assumption | with_reducible refine Below.drew ?_ | with_reducible refine below_drewN ?_ _ | with_reducible refine Below.alloc ?_ ?_ _ | with_reducible refine Below.setCell ?_ ?_ _ | with_reducible refine Below.trans ?_ (Below.mono (by assumption) ?_) | omega | (simp <;> omega)))⟩
            case rest =>
              clear cS0 cS1 cS2 cS3 cS4 cS5 cSf
              obtain ⟨rfl, gD, rfl, hD1, hb1⟩ := hcut
              generalize hE : wc = V1 at *
              clear hE wc HMV
              have dq0 := (hb1.cell (p := ⟨gK, q * 3, none⟩) hgK).trans (HCELL.out (q * 3) (by omega))
              have dq1 := (hb1.cell (p := ⟨gK, q * 3 + 1, none⟩) hgK).trans (HCELL.out (q * 3 + 1) (by omega))
              have dq2 := (hb1.cell (p := ⟨gK, q * 3 + 2, none⟩) hgK).trans (HCELL.out (q * 3 + 2) (by omega))
              have dl0 := (hb1.cell (p := ⟨gK, l * 3, none⟩) hgK).trans (HCELL.out (l * 3) (by omega))
              have dl1 := (hb1.cell (p := ⟨gK, l * 3 + 1, none⟩) hgK).trans (HCELL.out (l * 3 + 1) (by omega))
              have dl2 := (hb1.cell (p := ⟨gK, l * 3 + 2, none⟩) hgK).trans (HCELL.out (l * 3 + 2) (by omega))
              have tq1 : Tri V1 gK (q * 3) (trF K (q * 3)) (trF K (q * 3 + 1)) (trF K (q * 3 + 2)) := tq.below hb1 hgK
              have tl1 : Tri V1 gK (l * 3) (trF K (l * 3)) (trF K (l * 3 + 1)) (trF K (l * 3 + 2)) := ⟨Nat.lt_of_lt_of_le hgK hb1.size, dl0, dl1, dl2⟩
              clear cq0 cq1 cq2 tq
              have lK1 : gK < V1.heap.size := Nat.lt_of_lt_of_le hgK hb1.size
              have lD1 := hD1.lt
              go_upto_region 36 with fail
              go_cut [52, 53] from 337 to 350 (fun s52 s53 wx => s53 = .bool true ∧ ∃ gE : Nat, s52 = .pointer (some ⟨gE, 0, none⟩) ∧ Holds3 wx 39 gE b0 b1 b2 ∧ Below V1.heap.size V1 wx)
              case first =>
                go_region_held3 (fun w' => w'.cell? ⟨gK, q * 3, none⟩ = some (.int .i64 (trF K (q * 3))) ∧ w'.cell? ⟨gK, q * 3 + 1, none⟩ = some (.int .i64 (trF K (q * 3 + 1))) ∧ w'.cell? ⟨gK, q * 3 + 2, none⟩ = some (.int .i64 (trF K (q * 3 + 2))) ∧ w'.cell? ⟨gK, l * 3, none⟩ = some (.int .i64 (trF K (l * 3))) ∧ w'.cell? ⟨gK, l * 3 + 1, none⟩ = some (.int .i64 (trF K (l * 3 + 1))) ∧ w'.cell? ⟨gK, l * 3 + 2, none⟩ = some (.int .i64 (trF K (l * 3 + 2)))) (simp [*, World.cell?_alloc_some, World.cell?_setCell_far, Nat.ne_of_gt, Nat.ne_of_lt]) (first | (go_at_call 30; (try simp only [List.getElem?_cons_succ, List.getElem?_cons_zero, Option.getD_some]); (with_reducible refine (HBE.out _).mono ?_); rintro e v ⟨rfl, hb⟩; have hbs := hb.size; (try simp only [World.size_alloc, World.size_drew, size_drewN] at hbs); have kq : Tri v gK (q * 3) (trF K (q * 3)) (trF K (q * 3 + 1)) (trF K (q * 3 + 2)) := Tri.below (by repeat (first | with_reducible assumption | with_reducible refine Tri.alloc ?_ _ | with_reducible refine Tri.drew ?_ | with_reducible refine Tri.drewN ?_ _)) hb (by first | (simp; done) | (simp; omega) | omega); have yq0 := kq.2.1; have yq1 := kq.2.2.1; have yq2 := kq.2.2.2; have kl : Tri v gK (l * 3) (trF K (l * 3)) (trF K (l * 3 + 1)) (trF K (l * 3 + 2)) := Tri.below (by repeat (first | with_reducible assumption | with_reducible refine Tri.alloc ?_ _ | with_reducible refine Tri.drew ?_ | with_reducible refine Tri.drewN ?_ _)) hb (by first | (simp; done) | (simp; omega) | omega); have yl0 := kl.2.1; have yl1 := kl.2.2.1; have yl2 := kl.2.2.2; have lKv : gK < v.heap.size := (by omega); (try (have kE : Holds3 v 39 V1.heap.size 0 0 0 := Holds3.below (by repeat (first | with_reducible assumption | (with_reducible refine Holds3.made' ?_; (simp; done)) | with_reducible refine Holds3.alloc ?_ _ | with_reducible refine Holds3.drew ?_ | with_reducible refine Holds3.drewN ?_ _)) hb (by first | (simp; done) | (simp; omega) | omega); have z0 := kE.c0; have z1 := kE.c1; have z2 := kE.c2; have zf := kE.free))))
                all_goals
                  go_wp2_with fail
                  go_meet
                  exact ⟨rfl, _, rfl, (by first | with_reducible exact Holds3.made' (by simp) | with_reducible exact kE.store _ _ _), (by repeat (first | with_reducible exact Below.refl _ _ | with_reducible assumption | with_reducible refine Below.drew ?_ | with_reducible refine below_drewN ?_ _ | with_reducible refine Below.alloc ?_ ?_ _ | with_reducible refine Below.setCell ?_ ?_ _ | with_reducible refine Below.trans ?_ (Below.mono (by assumption) ?_) | omega | (simp <;> omega)))⟩
              case rest =>
                obtain ⟨rfl, gE, rfl, hE2, hb2⟩ := hcut
                generalize hE : wc = V2 at *
                clear hE wc HBE
                have eq0 := (hb2.cell (p := ⟨gK, q * 3, none⟩) lK1).trans dq0
                have eq1 := (hb2.cell (p := ⟨gK, q * 3 + 1, none⟩) lK1).trans dq1
                have eq2 := (hb2.cell (p := ⟨gK, q * 3 + 2, none⟩) lK1).trans dq2
                have hD2 := hD1.below hb2 lD1
                have hb12 := hb1.trans (hb2.mono hb1.size)
                have lK2 : gK < V2.heap.size := Nat.lt_of_lt_of_le lK1 hb2.size
                clear hD1 hb1 hb2 dq0 dq1 dq2 dl0 dl1 dl2 tq1 tl1 lK1 lD1 q1 q2 q3 q4 w1 w2 hlK
                go_upto_region 38 with (go_at_call 33; (with_reducible refine (HBA.out _).mono ?_); rintro e V3 ⟨rfl, hb⟩)
                clear eq0 eq1 eq2 HBA
                have kX := hb.alloc hb.size (.cells #[.int .i64 c0, .int .i64 c1, .int .i64 c2] 39)
                have hD3 : HoldsA (V3.alloc (.cells #[.int .i64 c0, .int .i64 c1, .int .i64 c2] 39)) 33 gD a0 a1 a2 a3 a4 a5 := hD2.below kX hD2.lt
                have hE3 : Holds3 (V3.alloc (.cells #[.int .i64 c0, .int .i64 c1, .int .i64 c2] 39)) 39 gE b0 b1 b2 := hE2.below kX hE2.lt
                have hF3 : Holds3 (V3.alloc (.cells #[.int .i64 c0, .int .i64 c1, .int .i64 c2] 39)) 39 V3.heap.size c0 c1 c2 := Holds3.made' rfl
                have hb3 : Below wr.heap.size wr (V3.alloc (.cells #[.int .i64 c0, .int .i64 c1, .int .i64 c2] 39)) := hb12.trans (kX.mono hb12.size)
                clear hb kX hb12 hD2 hE2 lK2
                generalize hE : (V3.alloc (.cells #[.int .i64 c0, .int .i64 c1, .int .i64 c2] 39)) = V4 at *
                clear hE
                generalize V3.heap.size = gF at *
                have hS4 := (KEY.out V4 hb3).1
                have hB4 := (KEY.out V4 hb3).2
                have eK4 : RdT V4 (some ⟨gK, 0, none⟩) K := .inr ⟨gK, rfl, Nat.lt_of_lt_of_le hgK hb3.size, fun j hj => (hb3.cell (p := ⟨gK, j, none⟩) hgK).trans (HCELL.out j hj)⟩
                clear KEY HCELL hb3 hSwr hBwr lS hgK
                have hSV4 := hS4
                have hDV4 := hD3
                have hEV4 := hE3
                have hFV4 := hF3
                have hBV4 := hB4
                have eKV4 := eK4
                clear hS4 hD3 hE3 hF3 hB4 eK4
                go_cut [385] from 359 to 385 (fun s385 wx => s385 = .bool false ∧ HoldsA wx 33 gS a0 a1 a2 a3 a4 a5 ∧ RdT wx (some ⟨gK, 0, none⟩) K ∧ Below w.heap.size w wx)
                case first =>
                  have cD0 := hDV4.c0
                  have cD1 := hDV4.c1
                  have cD2 := hDV4.c2
                  have cD3 := hDV4.c3
                  have cD4 := hDV4.c4
                  have cD5 := hDV4.c5
                  have cDf := hDV4.free
                  have cS0 := hSV4.c0
                  have cS1 := hSV4.c1
                  have cS2 := hSV4.c2
                  have cS3 := hSV4.c3
                  have cS4 := hSV4.c4
                  have cS5 := hSV4.c5
                  have cSf := hSV4.free
                  have cE0 := hEV4.c0
                  have cE1 := hEV4.c1
                  have cE2 := hEV4.c2
                  have cEf := hEV4.free
                  have cF0 := hFV4.c0
                  have cF1 := hFV4.c1
                  have cF2 := hFV4.c2
                  have cFf := hFV4.free
                  go_wp2_with (first | (go_at_call 64; (with_reducible refine (vMotion_any (some ⟨gK, 0, none⟩) K cap1 b0 b1 b2 (by omega) _ (RdT.mv eKV4 (Below.refl _ _)) jb hjb JB0.out JB1.out JB2.out).mono ?_); rintro e w8 ⟨rfl, hq1⟩; have hFq := hFV4.below hq1 hFV4.lt; have k0 := hFq.c0; have k1 := hFq.c1; have k2 := hFq.c2; have kf := hFq.free) | (go_at_call 64; (with_reducible refine (vMotion_any (some ⟨gK, 0, none⟩) K cap1 c0 c1 c2 (by omega) _ (RdT.mv eKV4 hq1) jc hjc JC0.out JC1.out JC2.out).mono ?_); rintro e w9 ⟨rfl, hq2⟩))
                  clear cD0 cD1 cD2 cD3 cD4 cD5 cDf cS0 cS1 cS2 cS3 cS4 cS5 cSf cE0 cE1 cE2 cEf cF0 cF1 cF2 cFf
                  have hb := hq1.trans (hq2.mono hq1.size)
                  clear hq1 hq2 hFq k0 k1 k2 kf
                  have hSw9 : HoldsA w9 33 gS a0 a1 a2 a3 a4 a5 := hSV4.below hb hSV4.lt
                  have hDw9 : HoldsA w9 33 gD a0 a1 a2 a3 a4 a5 := hDV4.below hb hDV4.lt
                  have hEw9 : Holds3 w9 39 gE b0 b1 b2 := hEV4.below hb hEV4.lt
                  have hFw9 : Holds3 w9 39 gF c0 c1 c2 := hFV4.below hb hFV4.lt
                  have eKw9 : RdT w9 (some ⟨gK, 0, none⟩) K := eKV4.mv hb
                  have hBw9 : Below w.heap.size w w9 := hBV4.trans (hb.mono hBV4.size)
                  clear hSV4 hDV4 hEV4 hFV4 eKV4 hb hBV4
                  go_meet
                  exact ⟨rfl, hSw9, eKw9, hBw9⟩
                case rest =>
                  clear hSV4 hDV4 hEV4 hFV4 eKV4 hBV4
                  obtain ⟨rfl, hSZ23, eKZ23, hBZ23⟩ := hcut
                  generalize hE : wc = Z23 at *
                  clear hE wc
                  go_wp2_with fail
                  go_roundw
                  case rel => exact ⟨q + 1, by omega, by omega, by go_num, hSZ23, eKZ23, hBZ23⟩
                  case measure => simp [intOf]; omega
end Go.Proofs.Ytidaoalnngmoaaa
