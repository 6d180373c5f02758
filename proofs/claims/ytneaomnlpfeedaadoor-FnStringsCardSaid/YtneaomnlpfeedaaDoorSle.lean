/-
  FnStrings: the law's walk. Conditions: what the draws and the two sides answer.
-/
import Derived.Test.YtneaomnlpfeedaaDoorSld
import Derived.Deep.RegionWith
import Derived.StillTailTactics
import Derived.Lib.ConvBytes
namespace Go.Proofs.YtneaomnlpfeedaaDoor.PFnStrings
open Go.RowKit Go.Proofs.YtneaomnlpfeedaaDoorW.PrintWords Go.Proofs.YtneaomnlpfeedaaDoorW.PrintLast
set_option linter.unusedVariables false
set_option linter.unusedSimpArgs false

set_option maxRecDepth 100000 in
theorem law_big (A0 : Option Addr) (c0 : Nat) (l0 : List Int) (w : World) (hr0 : Kd.C (Kd.int .u8) w A0 l0.length l0) (hc0 : l0.length ≤ c0) (hB : laws_vBig.f l0 = some true) :
    Calls Tryd.prog 7 #[.slice A0 l0.length c0] w fun e w' => e = .returned (.bool true) ∧ Below w.heap.size w w' := by
  go_enter Tryd.func7, Tryd.ntmps7
  go_wp2_with (first | (go_at_call 16; ((with_reducible refine (laws_vBig.calls A0 c0 l0 true w hr0 hc0 hB).mono ?_); rintro e w1 ⟨rfl, hd⟩)))
  go_ret
  exact ⟨rfl, hd.below⟩
set_option maxRecDepth 100000 in
theorem law_open (A0 : Option Addr) (c0 : Nat) (l0 : List Int) (w : World) (hr0 : Kd.C (Kd.int .u8) w A0 l0.length l0) (hc0 : l0.length ≤ c0) (hV : laws_vBig.f l0 = some false) (hT : TabE w)
    (n : Int) (s : ByteArray) (ok : Bool) (t : ByteArray) (m : Int) (fine : Bool) (x : ByteArray) (back : Int) (there : Bool)
    (hN : spec_DrawFormatInt.f l0 = some n) (hF : impl_FormatInt.f n = some (s, ok)) (hG : spec_FormatInt.f 30 n = some (s, ok))
    (hP : spec_DrawParseInt.f l0 = some t) (hR : impl_ParseInt.f t = some (m, fine)) (hQ : spec_ParseInt.f 90 t = some (m, fine))
    (hX : spec_DrawAppendChecksum.f l0 = some x) (hA : impl_AppendChecksum.f 9000 x = some (⟨#[]⟩, false)) (hZ : spec_AppendChecksum.f 9000 x = some (⟨#[]⟩, false))
    (hI : impl_ParseInt.f s = some (back, there)) (hI2 : ok = true → there = true ∧ back = n) :
    Calls Tryd.prog 7 #[.slice A0 l0.length c0] w fun e w' => e = .returned (.bool true) ∧ Below w.heap.size w w' := by
  cases ok with
  | true =>
    obtain ⟨rfl, rfl⟩ := hI2 rfl
    clear hI2
    go_enter Tryd.func7, Tryd.ntmps7
    go_wp2_with (first | (go_at_call 16; ((with_reducible refine (laws_vBig.calls A0 c0 l0 false w hr0 hc0 hV).mono ?_); rintro e w1 ⟨rfl, hb1⟩; have hB1 := hb1.below)) | (go_at_call 17; ((with_reducible refine (spec_DrawFormatInt.calls A0 c0 l0 back w1 (Kd.C_below hr0 hB1) hc0 hN).mono ?_); rintro e w2 ⟨rfl, hb2⟩; have hB2 := below_step hB1 hb2)) | (go_at_call 9; ((with_reducible refine (impl_FormatInt.calls back s true w2 (hT.below hB2) hF).mono ?_); rintro e w3 ⟨rfl, hb3⟩; have hB3 := below_step hB2 hb3)) | (go_at_call 8; ((with_reducible refine (spec_FormatInt.calls 30 back s true w3 hG).mono ?_); rintro e w4 ⟨rfl, hb4⟩; have hB4 := below_step hB3 hb4)) | (go_at_call 18; ((with_reducible refine (spec_DrawParseInt.calls A0 c0 l0 t w4 (Kd.C_below hr0 hB4) hc0 hP).mono ?_); rintro e w5 ⟨rfl, hb5⟩; have hB5 := below_step hB4 hb5)) | (go_at_call 15; ((with_reducible refine (impl_ParseInt.calls t m fine w5 (hT.below hB5) hR).mono ?_); rintro e w6 ⟨rfl, hb6⟩; have hB6 := below_step hB5 hb6)) | (go_at_call 14; ((with_reducible refine (spec_ParseInt.calls 90 t m fine w6 hQ).mono ?_); rintro e w7 ⟨rfl, hb7⟩; have hB7 := below_step hB6 hb7)) | (go_at_call 19; ((with_reducible refine (spec_DrawAppendChecksum.calls A0 c0 l0 x w7 (Kd.C_below hr0 hB7) hc0 hX).mono ?_); rintro e w8 ⟨rfl, hb8⟩; have hB8 := below_step hB7 hb8)) | (go_at_call 11; ((with_reducible refine (impl_AppendChecksum.calls 9000 x ⟨#[]⟩ false w8 (hT.below hB8) hA).mono ?_); rintro e w9 ⟨rfl, hb9⟩; have hB9 := below_step hB8 hb9)) | (go_at_call 10; ((with_reducible refine (spec_AppendChecksum.calls 9000 x ⟨#[]⟩ false w9 hZ).mono ?_); rintro e w10 ⟨rfl, hb10⟩; have hB10 := below_step hB9 hb10)) | (go_at_call 15; ((with_reducible refine (impl_ParseInt.calls s back true w10 (hT.below hB10) hI).mono ?_); rintro e w11 ⟨rfl, hb11⟩; have hB11 := below_step hB10 hb11)))
    go_ret
    exact ⟨rfl, hB11⟩
  | false =>
    clear hI2
    go_enter Tryd.func7, Tryd.ntmps7
    go_wp2_with (first | (go_at_call 16; ((with_reducible refine (laws_vBig.calls A0 c0 l0 false w hr0 hc0 hV).mono ?_); rintro e w1 ⟨rfl, hb1⟩; have hB1 := hb1.below)) | (go_at_call 17; ((with_reducible refine (spec_DrawFormatInt.calls A0 c0 l0 n w1 (Kd.C_below hr0 hB1) hc0 hN).mono ?_); rintro e w2 ⟨rfl, hb2⟩; have hB2 := below_step hB1 hb2)) | (go_at_call 9; ((with_reducible refine (impl_FormatInt.calls n s false w2 (hT.below hB2) hF).mono ?_); rintro e w3 ⟨rfl, hb3⟩; have hB3 := below_step hB2 hb3)) | (go_at_call 8; ((with_reducible refine (spec_FormatInt.calls 30 n s false w3 hG).mono ?_); rintro e w4 ⟨rfl, hb4⟩; have hB4 := below_step hB3 hb4)) | (go_at_call 18; ((with_reducible refine (spec_DrawParseInt.calls A0 c0 l0 t w4 (Kd.C_below hr0 hB4) hc0 hP).mono ?_); rintro e w5 ⟨rfl, hb5⟩; have hB5 := below_step hB4 hb5)) | (go_at_call 15; ((with_reducible refine (impl_ParseInt.calls t m fine w5 (hT.below hB5) hR).mono ?_); rintro e w6 ⟨rfl, hb6⟩; have hB6 := below_step hB5 hb6)) | (go_at_call 14; ((with_reducible refine (spec_ParseInt.calls 90 t m fine w6 hQ).mono ?_); rintro e w7 ⟨rfl, hb7⟩; have hB7 := below_step hB6 hb7)) | (go_at_call 19; ((with_reducible refine (spec_DrawAppendChecksum.calls A0 c0 l0 x w7 (Kd.C_below hr0 hB7) hc0 hX).mono ?_); rintro e w8 ⟨rfl, hb8⟩; have hB8 := below_step hB7 hb8)) | (go_at_call 11; ((with_reducible refine (impl_AppendChecksum.calls 9000 x ⟨#[]⟩ false w8 (hT.below hB8) hA).mono ?_); rintro e w9 ⟨rfl, hb9⟩; have hB9 := below_step hB8 hb9)) | (go_at_call 10; ((with_reducible refine (spec_AppendChecksum.calls 9000 x ⟨#[]⟩ false w9 hZ).mono ?_); rintro e w10 ⟨rfl, hb10⟩; have hB10 := below_step hB9 hb10)) | (go_at_call 15; ((with_reducible refine (impl_ParseInt.calls s back there w10 (hT.below hB10) hI).mono ?_); rintro e w11 ⟨rfl, hb11⟩; have hB11 := below_step hB10 hb11)))
    go_ret
    exact ⟨rfl, hB11⟩
/-- the bytes of a text whose one byte has been changed, read back -/
theorem back_string (W : World) (g cap : Nat) (l : List UInt8) (hl : ∀ j, j < l.length → W.cell? ⟨g, j, none⟩ = some (.int .u8 (l.getD j 0).toNat)) (k : Nat) (hk : k < l.length) (v : UInt8) (q : Nat) :
    (convert 29 9 (.slice (some ⟨g, 0, none⟩) l.length cap)).run Tryd.prog ((W.drewN q).setCell ⟨g, k, none⟩ (.int .u8 v.toNat)) = .ok (.string ⟨(l.set k v).toArray⟩) ((W.drewN q).setCell ⟨g, k, none⟩ (.int .u8 v.toNat)) := by
  have h := run_convert_bytes_back (P := Tryd.prog) ((W.drewN q).setCell ⟨g, k, none⟩ (.int .u8 v.toNat)) 29 9 5 ⟨g, 0, none⟩ cap (l.set k v) Tryd.underlying29 Tryd.underlying5 Tryd.underlying9 (fun j hj => by
    rw [List.length_set] at hj
    have e : (⟨g, 0, none⟩ : Addr).add j = ⟨g, j, none⟩ := by
      unfold Addr.add
      split <;> simp_all
    rw [e, List.getElem_set]
    by_cases hjk : k = j
    · subst hjk
      rw [if_pos rfl]
      exact World.cell?_setCell_same _ _ _ (u := .int .u8 (l.getD k 0).toNat) (hl k hk)
    · rw [if_neg hjk]
      have h1 : (W.drewN q).cell? ⟨g, j, none⟩ = some (.int .u8 (l.getD j 0).toNat) := hl j hj
      rw [World.cell?_setCell_other _ _ _ _ (by simp [Ne.symm hjk]), h1, List.getD_eq_getElem?_getD, List.getElem?_eq_getElem hj]
      rfl)
  rw [List.length_set] at h
  exact h
set_option maxRecDepth 100000 in
theorem law_sealed_t (A0 : Option Addr) (c0 : Nat) (l0 : List Int) (w : World) (hr0 : Kd.C (Kd.int .u8) w A0 l0.length l0) (hc0 : l0.length ≤ c0) (hV : laws_vBig.f l0 = some false) (hT : TabE w)
    (n : Int) (s : ByteArray) (ok : Bool) (t : ByteArray) (m : Int) (fine : Bool) (x : ByteArray) (back : Int) (there : Bool)
    (hN : spec_DrawFormatInt.f l0 = some n) (hF : impl_FormatInt.f n = some (s, ok)) (hG : spec_FormatInt.f 30 n = some (s, ok))
    (hP : spec_DrawParseInt.f l0 = some t) (hR : impl_ParseInt.f t = some (m, fine)) (hQ : spec_ParseInt.f 90 t = some (m, fine))
    (hX : spec_DrawAppendChecksum.f l0 = some x) (hok : ok = true) (y : ByteArray) (hA : impl_AppendChecksum.f 9000 x = some (y, true)) (hZ : spec_AppendChecksum.f 9000 x = some (y, true))
    (hI : impl_ParseInt.f s = some (back, there)) (hI2 : ok = true → there = true ∧ back = n) (hO : impl_VerifyChecksum.f 9000 y = some (x, true))
    (i j : Int) (hK : laws_vAt.f l0 9 = some i) (hL : laws_vAt.f l0 10 = some j) (k : Nat) (hk : k < y.size) (hm : Int.tmod i ((y.size : Nat) : Int) = ((k : Nat) : Int)) (hs : y.size ≤ 4000)
    (g : Int) (hg : Int.tmod j 255 = g) (hg0 : 0 ≤ g) (hg1 : g < 255) (b : UInt8) (hb : y.data.toList.getD k 0 = b) (v : UInt8) (hv : bits .xor .u8 ((b.toNat : Nat) : Int) (1 + g) = ((v.toNat : Nat) : Int)) (r : ByteArray) (hC : impl_VerifyChecksum.f 9000 ⟨(y.data.toList.set k v).toArray⟩ = some (r, false)) :
    Calls Tryd.prog 7 #[.slice A0 l0.length c0] w fun e w' => e = .returned (.bool true) ∧ Below w.heap.size w w' := by
  subst hok
  obtain ⟨rfl, rfl⟩ := hI2 rfl
  clear hI2
  have hcv := fun W => Lib.run_convert_string_bytes (P := Tryd.prog) W 9 29 5 y Tryd.underlying9 Tryd.underlying29 Tryd.underlying5
  have z1 : ¬ ((y.size : Nat) : Int) = 0 := by omega
  have z2 : ((k : Nat) : Int) < ((y.size : Nat) : Int) := by omega
  have z5 : bits .xor .u8 ((b.toNat : Nat) : Int) (IntKind.u8.wrap (IntKind.i64.wrap (1 + g))) = ((v.toNat : Nat) : Int) := by
    have e1 : IntKind.i64.wrap (1 + g) = 1 + g := by unfold IntKind.wrap; simp [IntKind.bits, IntKind.signed]; omega
    have e2 : IntKind.u8.wrap (1 + g) = 1 + g := by unfold IntKind.wrap; simp [IntKind.bits, IntKind.signed]; omega
    rw [e1, e2]; exact hv
  have z6 : y.data.toList.length = y.size := Pure.len_data y
  obtain ⟨Z, hZ2⟩ : ∃ Z : ByteArray, Z = ⟨(y.data.toList.set k v).toArray⟩ := ⟨_, rfl⟩
  rw [← hZ2] at hC
  go_enter Tryd.func7, Tryd.ntmps7
  go_upto_region 22 with (first | (go_at_call 16; ((with_reducible refine (laws_vBig.calls A0 c0 l0 false w hr0 hc0 hV).mono ?_); rintro e w1 ⟨rfl, hb1⟩; have hB1 := hb1.below)) | (go_at_call 17; ((with_reducible refine (spec_DrawFormatInt.calls A0 c0 l0 back w1 (Kd.C_below hr0 hB1) hc0 hN).mono ?_); rintro e w2 ⟨rfl, hb2⟩; have hB2 := below_step hB1 hb2)) | (go_at_call 9; ((with_reducible refine (impl_FormatInt.calls back s true w2 (hT.below hB2) hF).mono ?_); rintro e w3 ⟨rfl, hb3⟩; have hB3 := below_step hB2 hb3)) | (go_at_call 8; ((with_reducible refine (spec_FormatInt.calls 30 back s true w3 hG).mono ?_); rintro e w4 ⟨rfl, hb4⟩; have hB4 := below_step hB3 hb4)) | (go_at_call 18; ((with_reducible refine (spec_DrawParseInt.calls A0 c0 l0 t w4 (Kd.C_below hr0 hB4) hc0 hP).mono ?_); rintro e w5 ⟨rfl, hb5⟩; have hB5 := below_step hB4 hb5)) | (go_at_call 15; ((with_reducible refine (impl_ParseInt.calls t m fine w5 (hT.below hB5) hR).mono ?_); rintro e w6 ⟨rfl, hb6⟩; have hB6 := below_step hB5 hb6)) | (go_at_call 14; ((with_reducible refine (spec_ParseInt.calls 90 t m fine w6 hQ).mono ?_); rintro e w7 ⟨rfl, hb7⟩; have hB7 := below_step hB6 hb7)) | (go_at_call 19; ((with_reducible refine (spec_DrawAppendChecksum.calls A0 c0 l0 x w7 (Kd.C_below hr0 hB7) hc0 hX).mono ?_); rintro e w8 ⟨rfl, hb8⟩; have hB8 := below_step hB7 hb8)) | (go_at_call 11; ((with_reducible refine (impl_AppendChecksum.calls 9000 x y true w8 (hT.below hB8) hA).mono ?_); rintro e w9 ⟨rfl, hb9⟩; have hB9 := below_step hB8 hb9)) | (go_at_call 10; ((with_reducible refine (spec_AppendChecksum.calls 9000 x y true w9 hZ).mono ?_); rintro e w10 ⟨rfl, hb10⟩; have hB10 := below_step hB9 hb10)) | (go_at_call 15; ((with_reducible refine (impl_ParseInt.calls s back true w10 (hT.below hB10) hI).mono ?_); rintro e w11 ⟨rfl, hb11⟩; have hB11 := below_step hB10 hb11)) | (go_at_call 13; ((with_reducible refine (impl_VerifyChecksum.calls 9000 y x true w11 (hT.below hB11) hO).mono ?_); rintro e w12 ⟨rfl, hb12⟩; have hB12 := below_step hB11 hb12)) | fail)
  go_at_call 20
  refine (laws_vAt.calls A0 c0 l0 9 i _ (Kd.C_below hr0 (below_step hB12 (Lib.bytesWorld_below _ _ _))) hc0 hK).mono ?_
  rintro e w13 ⟨rfl, nd, rfl⟩
  have hB13 := below_step (below_step hB12 (Lib.bytesWorld_below w12 5 y)) (Drawn0.step (Drawn0.refl (Lib.bytesWorld w12 5 y)) nd).below
  have hcell : ((Lib.bytesWorld w12 5 y).drewN nd).cell? ⟨w12.heap.size, k, none⟩ = some (.int .u8 b.toNat) := by rw [← hb]; exact Lib.bytesWorld_cell w12 _ y k hk
  have hall : ∀ j, j < y.data.toList.length → ((Lib.bytesWorld w12 5 y).drewN nd).cell? ⟨w12.heap.size, j, none⟩ = some (.int .u8 (y.data.toList.getD j 0).toNat) := fun j hj => Lib.bytesWorld_cell w12 _ y j (by omega)
  have hfro : ((Lib.bytesWorld w12 5 y).drewN nd).frozen? ⟨w12.heap.size, k, none⟩ = false := by
    show (Lib.bytesWorld w12 5 y).frozen? ⟨w12.heap.size, k, none⟩ = false
    unfold World.frozen?
    rw [Lib.bytesWorld_at_new]
    have : y.size ≤ (Lib.bytesCells w12 5 y).size := by simp [Lib.bytesCells]
    simp
    omega
  generalize (Lib.bytesWorld w12 5 y).drewN nd = w13 at *
  have hst := fun q => back_string w13 w12.heap.size (grownCap w12 y.size 0 5) y.data.toList hall k (by omega) v q
  rw [z6, ← hZ2] at hst
  have hge := hB12.size
  clear hall hb hv hZ2 hcv
  go_upto_region 22 with fail
  go_region_with (first | (go_at_call 20; ((with_reducible refine (laws_vAt.calls A0 c0 l0 10 j _ (Kd.C_drew (Kd.C_below hr0 hB13)) hc0 hL).mono ?_); rintro e w14 ⟨rfl, nd2, rfl⟩)))
  all_goals (go_wp2_with (go_at_call 13; ((with_reducible refine (impl_VerifyChecksum.calls 9000 Z r false _ (hT.below (below_set (pw_below_drewN hB13 (1 + nd2)) hge)) hC).mono ?_); rintro e w15 ⟨rfl, hb15⟩)))
  all_goals go_ret
  all_goals exact ⟨rfl, below_step (below_set (pw_below_drewN hB13 (1 + nd2)) hge) hb15⟩
set_option maxRecDepth 100000 in
theorem law_sealed_f (A0 : Option Addr) (c0 : Nat) (l0 : List Int) (w : World) (hr0 : Kd.C (Kd.int .u8) w A0 l0.length l0) (hc0 : l0.length ≤ c0) (hV : laws_vBig.f l0 = some false) (hT : TabE w)
    (n : Int) (s : ByteArray) (ok : Bool) (t : ByteArray) (m : Int) (fine : Bool) (x : ByteArray) (back : Int) (there : Bool)
    (hN : spec_DrawFormatInt.f l0 = some n) (hF : impl_FormatInt.f n = some (s, ok)) (hG : spec_FormatInt.f 30 n = some (s, ok))
    (hP : spec_DrawParseInt.f l0 = some t) (hR : impl_ParseInt.f t = some (m, fine)) (hQ : spec_ParseInt.f 90 t = some (m, fine))
    (hX : spec_DrawAppendChecksum.f l0 = some x) (hok : ok = false) (y : ByteArray) (hA : impl_AppendChecksum.f 9000 x = some (y, true)) (hZ : spec_AppendChecksum.f 9000 x = some (y, true))
    (hI : impl_ParseInt.f s = some (back, there)) (hI2 : ok = true → there = true ∧ back = n) (hO : impl_VerifyChecksum.f 9000 y = some (x, true))
    (i j : Int) (hK : laws_vAt.f l0 9 = some i) (hL : laws_vAt.f l0 10 = some j) (k : Nat) (hk : k < y.size) (hm : Int.tmod i ((y.size : Nat) : Int) = ((k : Nat) : Int)) (hs : y.size ≤ 4000)
    (g : Int) (hg : Int.tmod j 255 = g) (hg0 : 0 ≤ g) (hg1 : g < 255) (b : UInt8) (hb : y.data.toList.getD k 0 = b) (v : UInt8) (hv : bits .xor .u8 ((b.toNat : Nat) : Int) (1 + g) = ((v.toNat : Nat) : Int)) (r : ByteArray) (hC : impl_VerifyChecksum.f 9000 ⟨(y.data.toList.set k v).toArray⟩ = some (r, false)) :
    Calls Tryd.prog 7 #[.slice A0 l0.length c0] w fun e w' => e = .returned (.bool true) ∧ Below w.heap.size w w' := by
  subst hok
  clear hI2
  have hcv := fun W => Lib.run_convert_string_bytes (P := Tryd.prog) W 9 29 5 y Tryd.underlying9 Tryd.underlying29 Tryd.underlying5
  have z1 : ¬ ((y.size : Nat) : Int) = 0 := by omega
  have z2 : ((k : Nat) : Int) < ((y.size : Nat) : Int) := by omega
  have z5 : bits .xor .u8 ((b.toNat : Nat) : Int) (IntKind.u8.wrap (IntKind.i64.wrap (1 + g))) = ((v.toNat : Nat) : Int) := by
    have e1 : IntKind.i64.wrap (1 + g) = 1 + g := by unfold IntKind.wrap; simp [IntKind.bits, IntKind.signed]; omega
    have e2 : IntKind.u8.wrap (1 + g) = 1 + g := by unfold IntKind.wrap; simp [IntKind.bits, IntKind.signed]; omega
    rw [e1, e2]; exact hv
  have z6 : y.data.toList.length = y.size := Pure.len_data y
  obtain ⟨Z, hZ2⟩ : ∃ Z : ByteArray, Z = ⟨(y.data.toList.set k v).toArray⟩ := ⟨_, rfl⟩
  rw [← hZ2] at hC
  go_enter Tryd.func7, Tryd.ntmps7
  go_upto_region 22 with (first | (go_at_call 16; ((with_reducible refine (laws_vBig.calls A0 c0 l0 false w hr0 hc0 hV).mono ?_); rintro e w1 ⟨rfl, hb1⟩; have hB1 := hb1.below)) | (go_at_call 17; ((with_reducible refine (spec_DrawFormatInt.calls A0 c0 l0 n w1 (Kd.C_below hr0 hB1) hc0 hN).mono ?_); rintro e w2 ⟨rfl, hb2⟩; have hB2 := below_step hB1 hb2)) | (go_at_call 9; ((with_reducible refine (impl_FormatInt.calls n s false w2 (hT.below hB2) hF).mono ?_); rintro e w3 ⟨rfl, hb3⟩; have hB3 := below_step hB2 hb3)) | (go_at_call 8; ((with_reducible refine (spec_FormatInt.calls 30 n s false w3 hG).mono ?_); rintro e w4 ⟨rfl, hb4⟩; have hB4 := below_step hB3 hb4)) | (go_at_call 18; ((with_reducible refine (spec_DrawParseInt.calls A0 c0 l0 t w4 (Kd.C_below hr0 hB4) hc0 hP).mono ?_); rintro e w5 ⟨rfl, hb5⟩; have hB5 := below_step hB4 hb5)) | (go_at_call 15; ((with_reducible refine (impl_ParseInt.calls t m fine w5 (hT.below hB5) hR).mono ?_); rintro e w6 ⟨rfl, hb6⟩; have hB6 := below_step hB5 hb6)) | (go_at_call 14; ((with_reducible refine (spec_ParseInt.calls 90 t m fine w6 hQ).mono ?_); rintro e w7 ⟨rfl, hb7⟩; have hB7 := below_step hB6 hb7)) | (go_at_call 19; ((with_reducible refine (spec_DrawAppendChecksum.calls A0 c0 l0 x w7 (Kd.C_below hr0 hB7) hc0 hX).mono ?_); rintro e w8 ⟨rfl, hb8⟩; have hB8 := below_step hB7 hb8)) | (go_at_call 11; ((with_reducible refine (impl_AppendChecksum.calls 9000 x y true w8 (hT.below hB8) hA).mono ?_); rintro e w9 ⟨rfl, hb9⟩; have hB9 := below_step hB8 hb9)) | (go_at_call 10; ((with_reducible refine (spec_AppendChecksum.calls 9000 x y true w9 hZ).mono ?_); rintro e w10 ⟨rfl, hb10⟩; have hB10 := below_step hB9 hb10)) | (go_at_call 15; ((with_reducible refine (impl_ParseInt.calls s back there w10 (hT.below hB10) hI).mono ?_); rintro e w11 ⟨rfl, hb11⟩; have hB11 := below_step hB10 hb11)) | (go_at_call 13; ((with_reducible refine (impl_VerifyChecksum.calls 9000 y x true w11 (hT.below hB11) hO).mono ?_); rintro e w12 ⟨rfl, hb12⟩; have hB12 := below_step hB11 hb12)) | fail)
  go_at_call 20
  refine (laws_vAt.calls A0 c0 l0 9 i _ (Kd.C_below hr0 (below_step hB12 (Lib.bytesWorld_below _ _ _))) hc0 hK).mono ?_
  rintro e w13 ⟨rfl, nd, rfl⟩
  have hB13 := below_step (below_step hB12 (Lib.bytesWorld_below w12 5 y)) (Drawn0.step (Drawn0.refl (Lib.bytesWorld w12 5 y)) nd).below
  have hcell : ((Lib.bytesWorld w12 5 y).drewN nd).cell? ⟨w12.heap.size, k, none⟩ = some (.int .u8 b.toNat) := by rw [← hb]; exact Lib.bytesWorld_cell w12 _ y k hk
  have hall : ∀ j, j < y.data.toList.length → ((Lib.bytesWorld w12 5 y).drewN nd).cell? ⟨w12.heap.size, j, none⟩ = some (.int .u8 (y.data.toList.getD j 0).toNat) := fun j hj => Lib.bytesWorld_cell w12 _ y j (by omega)
  have hfro : ((Lib.bytesWorld w12 5 y).drewN nd).frozen? ⟨w12.heap.size, k, none⟩ = false := by
    show (Lib.bytesWorld w12 5 y).frozen? ⟨w12.heap.size, k, none⟩ = false
    unfold World.frozen?
    rw [Lib.bytesWorld_at_new]
    have : y.size ≤ (Lib.bytesCells w12 5 y).size := by simp [Lib.bytesCells]
    simp
    omega
  generalize (Lib.bytesWorld w12 5 y).drewN nd = w13 at *
  have hst := fun q => back_string w13 w12.heap.size (grownCap w12 y.size 0 5) y.data.toList hall k (by omega) v q
  rw [z6, ← hZ2] at hst
  have hge := hB12.size
  clear hall hb hv hZ2 hcv
  go_upto_region 22 with fail
  go_region_with (first | (go_at_call 20; ((with_reducible refine (laws_vAt.calls A0 c0 l0 10 j _ (Kd.C_drew (Kd.C_below hr0 hB13)) hc0 hL).mono ?_); rintro e w14 ⟨rfl, nd2, rfl⟩)))
  all_goals (go_wp2_with (go_at_call 13; ((with_reducible refine (impl_VerifyChecksum.calls 9000 Z r false _ (hT.below (below_set (pw_below_drewN hB13 (1 + nd2)) hge)) hC).mono ?_); rintro e w15 ⟨rfl, hb15⟩)))
  all_goals go_ret
  all_goals exact ⟨rfl, below_step (below_set (pw_below_drewN hB13 (1 + nd2)) hge) hb15⟩
end Go.Proofs.YtneaomnlpfeedaaDoor.PFnStrings
