/-
  Sums of lists of numbers bit by bit (a space over two elements): counting, independence, tables of a linear map. Plain mathematics, no program. No conditions.
-/
import Derived.Test.YtgjgefbcfcomcaaDoorMathQ
namespace Go.Proofs.YtgjgefbcfcomcaaDoor

/-- the sums of some of a list -/
def Sp : List Nat → Nat → Prop
  | [], x => x = 0
  | v :: l, x => Sp l x ∨ Sp l (x ^^^ v)
def alls : List Nat → List Nat
  | [] => [0]
  | v :: l => alls l ++ (alls l).map (fun x => x ^^^ v)
theorem xx (a b : Nat) : a ^^^ b ^^^ b = a := by rw [Nat.xor_assoc, Nat.xor_self, Nat.xor_zero]
theorem xor_cancel {a b c : Nat} (h : a ^^^ c = b ^^^ c) : a = b := by rw [← xx a c, h, xx]
theorem xor_eq0 {a b : Nat} (h : a ^^^ b = 0) : a = b := by
  have := xx a b
  rw [h, Nat.zero_xor] at this
  exact this.symm
theorem mem_alls : ∀ (l : List Nat) (x : Nat), x ∈ alls l ↔ Sp l x
  | [], x => by simp [alls, Sp]
  | v :: l, x => by
    show x ∈ alls l ++ (alls l).map (fun x => x ^^^ v) ↔ Sp l x ∨ Sp l (x ^^^ v)
    rw [List.mem_append, List.mem_map, mem_alls l x]
    refine or_congr Iff.rfl ⟨?_, fun h => ⟨x ^^^ v, (mem_alls l _).2 h, xx x v⟩⟩
    rintro ⟨a, ha, rfl⟩
    rw [xx]
    exact (mem_alls l a).1 ha
theorem alls_len : ∀ l : List Nat, (alls l).length = 2 ^ l.length
  | [] => rfl
  | v :: l => by
    show (alls l ++ (alls l).map (fun x => x ^^^ v)).length = 2 ^ (l.length + 1)
    rw [List.length_append, List.length_map, alls_len l, Nat.pow_succ]; omega
theorem sp_zero : ∀ l : List Nat, Sp l 0
  | [] => rfl
  | _ :: l => .inl (sp_zero l)
theorem x4 (x y v : Nat) : x ^^^ y ^^^ v = x ^^^ (y ^^^ v) := Nat.xor_assoc _ _ _
theorem xr (x y v : Nat) : x ^^^ v ^^^ y = x ^^^ y ^^^ v := by rw [Nat.xor_assoc, Nat.xor_comm v y, Nat.xor_assoc]
theorem sp_xor : ∀ (l : List Nat) (x y : Nat), Sp l x → Sp l y → Sp l (x ^^^ y)
  | [], x, y, hx, hy => by
    have e : x = 0 := hx
    have f : y = 0 := hy
    subst e f
    rfl
  | v :: l, x, y, hx, hy => by
    rcases hx with hx | hx <;> rcases hy with hy | hy
    · exact .inl (sp_xor l x y hx hy)
    · exact .inr (by rw [x4]; exact sp_xor l x _ hx hy)
    · exact .inr (by rw [← xr]; exact sp_xor l _ y hx hy)
    · exact .inl (by have := sp_xor l _ _ hx hy; rw [← Nat.xor_assoc, xr x y v, xx] at this; exact this)
theorem sp_mem : ∀ (l : List Nat) (v : Nat), v ∈ l → Sp l v
  | [], v, h => by cases h
  | a :: l, v, h => by
    rcases List.mem_cons.1 h with rfl | h
    · exact .inr (by rw [Nat.xor_self]; exact sp_zero l)
    · exact .inl (sp_mem l v h)
theorem sp_sub : ∀ (l m : List Nat) (x : Nat), (∀ v, v ∈ l → Sp m v) → Sp l x → Sp m x
  | [], m, x, _, hx => by
    have e : x = 0 := hx
    subst e
    exact sp_zero m
  | v :: l, m, x, h, hx => by
    rcases hx with hx | hx
    · exact sp_sub l m x (fun u hu => h u (List.mem_cons_of_mem _ hu)) hx
    · have := sp_sub l m _ (fun u hu => h u (List.mem_cons_of_mem _ hu)) hx
      have := sp_xor m _ _ this (h v List.mem_cons_self)
      rw [xx] at this
      exact this
theorem sp_app : ∀ (a b : List Nat) (x : Nat), Sp (a ++ b) x ↔ ∃ y z, Sp a y ∧ Sp b z ∧ x = y ^^^ z
  | [], b, x => ⟨fun h => ⟨0, x, rfl, h, by rw [Nat.zero_xor]⟩, by rintro ⟨y, z, hy, hz, rfl⟩; have e : y = 0 := hy; subst e; rw [Nat.zero_xor]; exact hz⟩
  | v :: a, b, x => by
    show Sp (a ++ b) x ∨ Sp (a ++ b) (x ^^^ v) ↔ _
    rw [sp_app a b x, sp_app a b (x ^^^ v)]
    constructor
    · rintro (⟨y, z, hy, hz, rfl⟩ | ⟨y, z, hy, hz, e⟩)
      · exact ⟨y, z, .inl hy, hz, rfl⟩
      · refine ⟨y ^^^ v, z, .inr (by rw [xx]; exact hy), hz, ?_⟩
        rw [xr y z v, ← e, xx]
    · rintro ⟨y, z, hy | hy, hz, rfl⟩
      · exact .inl ⟨y, z, hy, hz, rfl⟩
      · exact .inr ⟨_, z, hy, hz, by rw [xr y z v]⟩

theorem nodup_len : ∀ (l m : List Nat), l.Nodup → (∀ x, x ∈ l → x ∈ m) → l.length ≤ m.length
  | [], m, _, _ => Nat.zero_le _
  | a :: l, m, hn, hs => by
    have ha := hs a List.mem_cons_self
    obtain ⟨h1, h2⟩ := List.nodup_cons.1 hn
    have := nodup_len l (m.erase a) h2 (fun x hx => (List.mem_erase_of_ne (fun e : x = a => h1 (by rw [← e]; exact hx))).2 (hs x (List.mem_cons_of_mem _ hx)))
    rw [List.length_erase_of_mem ha] at this
    have := List.length_pos_of_mem ha
    rw [List.length_cons]; omega
theorem nodup_of_len : ∀ (l m : List Nat), l.Nodup → (∀ x, x ∈ l → x ∈ m) → m.length ≤ l.length → m.Nodup
  | [], m, _, _, h => by
    have := List.eq_nil_of_length_eq_zero (Nat.le_zero.1 h)
    subst this
    exact List.nodup_nil
  | a :: l, m, hn, hs, h => by
    have ha := hs a List.mem_cons_self
    obtain ⟨h1, h2⟩ := List.nodup_cons.1 hn
    have hsub : ∀ x, x ∈ l → x ∈ m.erase a := fun x hx => (List.mem_erase_of_ne (fun e : x = a => h1 (by rw [← e]; exact hx))).2 (hs x (List.mem_cons_of_mem _ hx))
    have hl := List.length_erase_of_mem ha
    have hp := List.length_pos_of_mem ha
    rw [List.length_cons] at h
    have hd := nodup_of_len l (m.erase a) h2 hsub (by omega)
    refine (List.perm_cons_erase ha).nodup_iff.2 (List.nodup_cons.2 ⟨fun hm => ?_, hd⟩)
    have := nodup_len (a :: l) (m.erase a) hn (fun x hx => by rcases List.mem_cons.1 hx with rfl | hx; exact hm; exact hsub x hx)
    rw [List.length_cons] at this; omega

/-- independent: no sum comes twice -/
def Ind (l : List Nat) : Prop := (alls l).Nodup
theorem ind_nil : Ind [] := by unfold Ind alls; simp
theorem ind_cons (v : Nat) (l : List Nat) : Ind (v :: l) ↔ Ind l ∧ ¬ Sp l v := by
  unfold Ind
  show (alls l ++ (alls l).map (fun x => x ^^^ v)).Nodup ↔ _
  rw [List.nodup_append]
  constructor
  · rintro ⟨h1, _, h3⟩
    refine ⟨h1, fun hv => ?_⟩
    exact h3 v ((mem_alls l v).2 hv) v (List.mem_map.2 ⟨0, (mem_alls l 0).2 (sp_zero l), Nat.zero_xor v⟩) rfl
  · rintro ⟨h1, h2⟩
    refine ⟨h1, ?_, ?_⟩
    · exact List.pairwise_map.2 (h1.imp fun hab e => hab (xor_cancel e))
    · intro a ha b hb e
      subst e
      obtain ⟨c, hc, rfl⟩ := List.mem_map.1 hb
      have := sp_xor l _ _ ((mem_alls l _).1 ha) ((mem_alls l c).1 hc)
      rw [Nat.xor_comm c v, xx] at this
      exact h2 this
theorem ind_right : ∀ (a b : List Nat), Ind (a ++ b) → Ind b
  | [], _, h => h
  | _ :: a, b, h => ind_right a b ((ind_cons _ _).1 h).1
theorem alls_sub {l m : List Nat} (h : ∀ v, v ∈ l → Sp m v) (x : Nat) (hx : x ∈ alls l) : x ∈ alls m := (mem_alls m x).2 (sp_sub l m x h ((mem_alls l x).1 hx))
theorem ind_le {l m : List Nat} (hi : Ind l) (h : ∀ v, v ∈ l → Sp m v) : l.length ≤ m.length := by
  have := nodup_len _ _ hi (alls_sub h)
  rw [alls_len, alls_len] at this
  exact (Nat.pow_le_pow_iff_right (by omega)).1 this
theorem ind_of_len {l m : List Nat} (hi : Ind l) (h : ∀ v, v ∈ l → Sp m v) (hl : m.length ≤ l.length) : Ind m :=
  nodup_of_len _ _ hi (alls_sub h) (by rw [alls_len, alls_len]; exact Nat.pow_le_pow_right (by omega) hl)
theorem ind_len {l m : List Nat} (hl : Ind l) (hm : Ind m) (h : ∀ x, Sp l x ↔ Sp m x) : l.length = m.length :=
  Nat.le_antisymm (ind_le hl fun v hv => (h v).1 (sp_mem l v hv)) (ind_le hm fun v hv => (h v).2 (sp_mem m v hv))

/-- rows with a place each: a row has its place, later rows don't have it -/
def Tri : List (Nat × Nat) → Prop
  | [] => True
  | r :: R => r.1.testBit r.2 = true ∧ (∀ s, s ∈ R → s.1.testBit r.2 = false) ∧ Tri R
theorem sp_clear (k : Nat) : ∀ (l : List Nat) (x : Nat), (∀ v, v ∈ l → v.testBit k = false) → Sp l x → x.testBit k = false
  | [], x, _, hx => by
    have e : x = 0 := hx
    subst e
    exact Nat.zero_testBit k
  | v :: l, x, h, hx => by
    rcases hx with hx | hx
    · exact sp_clear k l x (fun u hu => h u (List.mem_cons_of_mem _ hu)) hx
    · have := sp_clear k l _ (fun u hu => h u (List.mem_cons_of_mem _ hu)) hx
      rw [Nat.testBit_xor, h v List.mem_cons_self, Bool.xor_false] at this
      exact this
theorem tri_ind : ∀ R : List (Nat × Nat), Tri R → Ind (R.map (·.1))
  | [], _ => ind_nil
  | r :: R, h => by
    obtain ⟨h1, h2, h3⟩ := h
    refine (ind_cons _ _).2 ⟨tri_ind R h3, fun hs => ?_⟩
    have := sp_clear r.2 _ _ (fun v hv => by obtain ⟨s, hs, rfl⟩ := List.mem_map.1 hv; exact h2 s hs) hs
    rw [h1] at this
    cases this
theorem tri_clear : ∀ (R : List (Nat × Nat)) (x : Nat), Tri R → Sp (R.map (·.1)) x → (∀ r, r ∈ R → x.testBit r.2 = false) → x = 0
  | [], _, _, hx, _ => hx
  | r :: R, x, h, hx, hc => by
    obtain ⟨h1, h2, h3⟩ := h
    rcases hx with hx | hx
    · exact tri_clear R x h3 hx fun s hs => hc s (List.mem_cons_of_mem _ hs)
    · have := sp_clear r.2 _ _ (fun v hv => by obtain ⟨s, hs, rfl⟩ := List.mem_map.1 hv; exact h2 s hs) hx
      rw [Nat.testBit_xor, h1, hc r List.mem_cons_self] at this
      cases this
theorem tri_app : ∀ (R : List (Nat × Nat)) (r : Nat × Nat), Tri R → r.1.testBit r.2 = true → (∀ s, s ∈ R → r.1.testBit s.2 = false) → Tri (R ++ [r])
  | [], r, _, h, _ => ⟨h, (fun s hs => by cases hs), trivial⟩
  | a :: R, r, h, hr, hc => by
    obtain ⟨h1, h2, h3⟩ := h
    refine ⟨h1, fun s hs => ?_, tri_app R r h3 hr fun s hs => hc s (List.mem_cons_of_mem _ hs)⟩
    rcases List.mem_append.1 hs with hs | hs
    · exact h2 s hs
    · rw [List.mem_singleton.1 hs]
      exact hc a List.mem_cons_self
/-- places of rows are different -/
theorem tri_nodup : ∀ R : List (Nat × Nat), Tri R → (R.map (·.2)).Nodup
  | [], _ => List.nodup_nil
  | r :: R, h => by
    obtain ⟨h1, h2, h3⟩ := h
    refine List.nodup_cons.2 ⟨fun hm => ?_, tri_nodup R h3⟩
    obtain ⟨s, hs, e⟩ := List.mem_map.1 hm
    have a := h2 s hs
    have b : s.1.testBit s.2 = true := by
      clear h1 h2 hm e a
      induction R with
      | nil => cases hs
      | cons t R ih =>
        obtain ⟨g1, _, g3⟩ := h3
        rcases List.mem_cons.1 hs with rfl | hs
        · exact g1
        · exact ih g3 hs
    have e' : s.2 = r.2 := e
    rw [← e', b] at a
    cases a

/-- goes with sums -/
def Lin (F : Nat → Nat) : Prop := ∀ a b, F (a ^^^ b) = F a ^^^ F b
theorem Lin.zero {F : Nat → Nat} (h : Lin F) : F 0 = 0 := by
  have := h 0 0
  rw [Nat.xor_self, Nat.xor_self] at this
  exact this
theorem Lin.sp {F : Nat → Nat} (h : Lin F) : ∀ (l : List Nat) (y : Nat), Sp l y → Sp (l.map F) (F y)
  | [], y, hy => by
    have e : y = 0 := hy
    subst e
    exact h.zero
  | v :: l, y, hy => by
    rcases hy with hy | hy
    · exact .inl (h.sp l y hy)
    · have := h.sp l _ hy
      rw [h] at this
      exact .inr this
theorem Lin.sp_inv {F : Nat → Nat} (h : Lin F) : ∀ (l : List Nat) (z : Nat), Sp (l.map F) z → ∃ y, Sp l y ∧ F y = z
  | [], z, hz => ⟨0, rfl, by have e : z = 0 := hz; rw [e]; exact h.zero⟩
  | v :: l, z, hz => by
    rcases hz with hz | hz
    · obtain ⟨y, h1, h2⟩ := h.sp_inv l z hz
      exact ⟨y, .inl h1, h2⟩
    · obtain ⟨y, h1, h2⟩ := h.sp_inv l _ hz
      exact ⟨y ^^^ v, .inr (by rw [xx]; exact h1), by rw [h, h2, xx]⟩
theorem Lin.inj {F : Nat → Nat} (h : Lin F) : ∀ (l : List Nat) (y : Nat), Ind (l.map F) → Sp l y → F y = 0 → y = 0
  | [], _, _, hy, _ => hy
  | v :: l, y, hi, hy, h0 => by
    obtain ⟨h1, h2⟩ := (ind_cons _ _).1 hi
    rcases hy with hy | hy
    · exact h.inj l y h1 hy h0
    · have := h.sp l _ hy
      rw [h, h0, Nat.zero_xor] at this
      exact absurd this h2
theorem Lin.quiet {F : Nat → Nat} (h : Lin F) : ∀ (l : List Nat) (z : Nat), (∀ v, v ∈ l → F v = 0) → Sp l z → F z = 0
  | [], z, _, hz => by
    have e : z = 0 := hz
    rw [e]
    exact h.zero
  | v :: l, z, hq, hz => by
    rcases hz with hz | hz
    · exact h.quiet l z (fun u hu => hq u (List.mem_cons_of_mem _ hu)) hz
    · have := h.quiet l _ (fun u hu => hq u (List.mem_cons_of_mem _ hu)) hz
      rw [h, hq v List.mem_cons_self, Nat.xor_zero] at this
      exact this

/-- rows of presses with places in their prints, and quiet presses, made of generators -/
structure Tabl (F : Nat → Nat) (G : List Nat) (R : List (Nat × Nat)) (L : List Nat) : Prop where
  tri : Tri (R.map fun r => (F r.1, r.2))
  quiet : ∀ l, l ∈ L → F l = 0
  sp : ∀ x, Sp (R.map (·.1) ++ L) x ↔ Sp G x
  len : R.length + L.length = G.length
theorem Tabl.ind {F : Nat → Nat} {G : List Nat} {R : List (Nat × Nat)} {L : List Nat} (h : Tabl F G R L) (hG : Ind G) : Ind L :=
  ind_right _ _ (ind_of_len hG (fun v hv => (h.sp v).2 (sp_mem G v hv)) (by rw [List.length_append, List.length_map, h.len]; exact Nat.le_refl _))
theorem map_map1 (F : Nat → Nat) (R : List (Nat × Nat)) : (R.map fun r => (F r.1, r.2)).map (·.1) = (R.map (·.1)).map F := by simp
theorem Tabl.ker {F : Nat → Nat} {G : List Nat} {R : List (Nat × Nat)} {L : List Nat} (h : Tabl F G R L) (hF : Lin F) (x : Nat) : Sp L x ↔ Sp G x ∧ F x = 0 := by
  constructor
  · intro hx
    refine ⟨(h.sp x).1 ((sp_app _ _ _).2 ⟨0, x, sp_zero _, hx, by rw [Nat.zero_xor]⟩), hF.quiet L x h.quiet hx⟩
  · rintro ⟨hx, h0⟩
    obtain ⟨y, z, hy, hz, rfl⟩ := (sp_app _ _ _).1 ((h.sp x).2 hx)
    rw [hF, hF.quiet L z h.quiet hz, Nat.xor_zero] at h0
    have := hF.inj _ y (by rw [← map_map1]; exact tri_ind _ h.tri) hy h0
    subst this
    rw [Nat.zero_xor]
    exact hz
/-- two tables of one map out of alike generators have as many quiet presses -/
theorem Tabl.same {F : Nat → Nat} {G G' : List Nat} {R R' : List (Nat × Nat)} {L L' : List Nat} (h : Tabl F G R L) (h' : Tabl F G' R' L') (hF : Lin F) (hG : Ind G) (hG' : Ind G') (hs : ∀ x, Sp G x ↔ Sp G' x) :
    L.length = L'.length ∧ ∀ x, Sp L x ↔ Sp L' x := by
  have hk : ∀ x, Sp L x ↔ Sp L' x := fun x => by rw [h.ker hF, h'.ker hF, hs]
  exact ⟨ind_len (h.ind hG) (h'.ind hG') hk, hk⟩
/-- what is left of a target: nothing, just if it is a print -/
theorem Tabl.can {F : Nat → Nat} {G : List Nat} {R : List (Nat × Nat)} {L : List Nat} (h : Tabl F G R L) (hF : Lin F) {t p q : Nat} (hp : p = t ^^^ F q) (hq : Sp (R.map (·.1)) q) (hc : ∀ r, r ∈ R → p.testBit r.2 = false) :
    p = 0 ↔ ∃ y, Sp G y ∧ F y = t := by
  have hqG : ∀ y, Sp (R.map (·.1)) y → Sp G y := fun y hy => (h.sp y).1 ((sp_app _ _ _).2 ⟨y, 0, hy, sp_zero _, by rw [Nat.xor_zero]⟩)
  constructor
  · intro h0
    rw [h0] at hp
    exact ⟨q, hqG q hq, (xor_eq0 hp.symm).symm⟩
  · rintro ⟨y, hy, rfl⟩
    obtain ⟨a, b, ha, hb, rfl⟩ := (sp_app _ _ _).1 ((h.sp y).2 hy)
    rw [hF, hF.quiet L b h.quiet hb, Nat.xor_zero, ← hF] at hp
    refine tri_clear _ p h.tri ?_ (fun r hr => ?_)
    · rw [map_map1, hp]
      exact hF.sp _ _ (sp_xor _ _ _ ha hq)
    · obtain ⟨s, hs, rfl⟩ := List.mem_map.1 hr
      exact hc s hs
theorem Tabl.start (F : Nat → Nat) : Tabl F [] [] [] := ⟨trivial, (fun l hl => by cases hl), fun x => Iff.rfl, rfl⟩
theorem sp_swap {A B : List Nat} (hA : ∀ v, v ∈ A → Sp B v) (hB : ∀ v, v ∈ B → Sp A v) (x : Nat) : Sp A x ↔ Sp B x := ⟨sp_sub _ _ _ hA, sp_sub _ _ _ hB⟩
theorem sp_left {a b : List Nat} {x : Nat} (h : Sp a x) : Sp (a ++ b) x := (sp_app _ _ _).2 ⟨x, 0, h, sp_zero _, by rw [Nat.xor_zero]⟩
theorem sp_right {a b : List Nat} {x : Nat} (h : Sp b x) : Sp (a ++ b) x := (sp_app _ _ _).2 ⟨0, x, sp_zero _, h, by rw [Nat.zero_xor]⟩
/-- new quiet presses -/
theorem Tabl.add0 {F : Nat → Nat} {G : List Nat} {R : List (Nat × Nat)} {L : List Nat} (h : Tabl F G R L) {x q : Nat} (hq : Sp (R.map (·.1)) (x ^^^ q)) (h0 : F q = 0) : Tabl F (G ++ [x]) R (L ++ [q]) := by
  refine ⟨h.tri, fun l hl => ?_, fun z => sp_swap (fun v hv => ?_) (fun v hv => ?_) z, by rw [List.length_append, List.length_append, ← h.len]; simp; omega⟩
  · rcases List.mem_append.1 hl with hl | hl
    · exact h.quiet l hl
    · rw [List.mem_singleton.1 hl]
      exact h0
  · rw [← List.append_assoc] at hv
    rcases List.mem_append.1 hv with hv | hv
    · exact sp_left ((h.sp v).1 (sp_mem _ v hv))
    · rw [List.mem_singleton.1 hv]
      have := sp_xor (G ++ [x]) _ _ (sp_left (b := [x]) ((h.sp _).1 (sp_left hq))) (sp_mem _ x (List.mem_append_right _ List.mem_cons_self))
      rw [xr, Nat.xor_self, Nat.zero_xor] at this
      exact this
  · rw [← List.append_assoc]
    rcases List.mem_append.1 hv with hv | hv
    · exact sp_left ((h.sp v).2 (sp_mem _ v hv))
    · rw [List.mem_singleton.1 hv]
      have := sp_xor (R.map (·.1) ++ L ++ [q]) _ _ (sp_left (b := [q]) (sp_left (b := L) hq)) (sp_mem _ q (List.mem_append_right _ List.mem_cons_self))
      rw [xx] at this
      exact this
/-- a row more -/
theorem Tabl.add1 {F : Nat → Nat} {G : List Nat} {R : List (Nat × Nat)} {L : List Nat} (h : Tabl F G R L) {x q k : Nat} (hq : Sp (R.map (·.1)) (x ^^^ q)) (hk : (F q).testBit k = true) (hc : ∀ r, r ∈ R → (F q).testBit r.2 = false) :
    Tabl F (G ++ [x]) (R ++ [(q, k)]) L := by
  refine ⟨?_, h.quiet, fun z => sp_swap (fun v hv => ?_) (fun v hv => ?_) z, by rw [List.length_append, List.length_append, ← h.len]; simp; omega⟩
  · rw [List.map_append]
    refine tri_app _ _ h.tri hk fun s hs => ?_
    obtain ⟨r, hr, rfl⟩ := List.mem_map.1 hs
    exact hc r hr
  · rw [List.map_append] at hv
    rcases List.mem_append.1 hv with hv | hv
    · rcases List.mem_append.1 hv with hv | hv
      · exact sp_left ((h.sp v).1 (sp_left (sp_mem _ v hv)))
      · rw [List.mem_singleton.1 hv]
        have := sp_xor (G ++ [x]) _ _ (sp_left (b := [x]) ((h.sp _).1 (sp_left hq))) (sp_mem _ x (List.mem_append_right _ List.mem_cons_self))
        rw [xr, Nat.xor_self, Nat.zero_xor] at this
        exact this
    · exact sp_left ((h.sp v).1 (sp_right (sp_mem _ v hv)))
  · rw [List.map_append]
    rcases List.mem_append.1 hv with hv | hv
    · obtain ⟨a, b, ha, hb, rfl⟩ := (sp_app _ _ _).1 ((h.sp v).2 (sp_mem _ v hv))
      exact sp_xor _ _ _ (sp_left (sp_left ha)) (sp_right hb)
    · rw [List.mem_singleton.1 hv]
      have := sp_xor (R.map (·.1) ++ [(q, k)].map (·.1) ++ L) _ _ (sp_left (sp_left hq)) (sp_left (sp_right (sp_mem _ q List.mem_cons_self)))
      rw [xx] at this
      exact this
/-- a row more, added to some others -/
theorem Tabl.add2 {F : Nat → Nat} (hF : Lin F) {G : List Nat} {R : List (Nat × Nat)} {L : List Nat} (h : Tabl F G R L) {x q k : Nat} (hq : Sp (R.map (·.1)) (x ^^^ q)) (hk : (F q).testBit k = true) (hc : ∀ r, r ∈ R → (F q).testBit r.2 = false)
    (f : Nat × Nat → Bool) : Tabl F (G ++ [x]) ((R.map fun r => (if f r = true then r.1 ^^^ q else r.1, r.2)) ++ [(q, k)]) L := by
  have h1 := h.add1 hq hk hc
  refine ⟨?_, h.quiet, fun z => ?_, by have := h1.len; simpa using this⟩
  · have ht := h.tri
    rw [List.map_append]
    refine tri_app _ _ ?_ hk fun s hs => ?_
    · clear h h1 hq
      induction R with
      | nil => trivial
      | cons a R ih =>
        obtain ⟨g1, g2, g3⟩ := ht
        have ca := hc a List.mem_cons_self
        refine ⟨?_, fun s hs => ?_, ih (fun r hr => hc r (List.mem_cons_of_mem _ hr)) g3⟩
        · show (F (if f a = true then a.1 ^^^ q else a.1)).testBit a.2 = true
          split
          · rw [hF, Nat.testBit_xor, ca, Bool.xor_false]; exact g1
          · exact g1
        · obtain ⟨t, ht, rfl⟩ := List.mem_map.1 hs
          obtain ⟨r, hr, rfl⟩ := List.mem_map.1 ht
          have gr := g2 _ (List.mem_map.2 ⟨r, hr, rfl⟩)
          show (F (if f r = true then r.1 ^^^ q else r.1)).testBit a.2 = false
          split
          · rw [hF, Nat.testBit_xor, ca, Bool.xor_false]; exact gr
          · exact gr
    · obtain ⟨t, ht, rfl⟩ := List.mem_map.1 hs
      obtain ⟨r, hr, rfl⟩ := List.mem_map.1 ht
      exact hc r hr
  · rw [← h1.sp z]
    have hin : ∀ r, r ∈ R → Sp ((R ++ [(q, k)]).map (·.1) ++ L) r.1 := fun r hr => sp_mem _ _ (List.mem_append_left _ (List.mem_map.2 ⟨r, List.mem_append_left _ hr, rfl⟩))
    have hinq : Sp ((R ++ [(q, k)]).map (·.1) ++ L) q := sp_mem _ _ (List.mem_append_left _ (List.mem_map.2 ⟨(q, k), List.mem_append_right _ List.mem_cons_self, rfl⟩))
    refine sp_swap (fun v hv => ?_) (fun v hv => ?_) z
    · rcases List.mem_append.1 hv with hv | hv
      · obtain ⟨t, ht, rfl⟩ := List.mem_map.1 hv
        rcases List.mem_append.1 ht with ht | ht
        · obtain ⟨r, hr, rfl⟩ := List.mem_map.1 ht
          show Sp _ (if f r = true then r.1 ^^^ q else r.1)
          split
          · exact sp_xor _ _ _ (hin r hr) hinq
          · exact hin r hr
        · rw [List.mem_singleton.1 ht]
          exact hinq
      · exact sp_right (sp_mem _ v hv)
    · rcases List.mem_append.1 hv with hv | hv
      · obtain ⟨t, ht, rfl⟩ := List.mem_map.1 hv
        have hq2 : Sp (((R.map fun r => (if f r = true then r.1 ^^^ q else r.1, r.2)) ++ [(q, k)]).map (·.1) ++ L) q := sp_mem _ _ (List.mem_append_left _ (List.mem_map.2 ⟨(q, k), List.mem_append_right _ List.mem_cons_self, rfl⟩))
        rcases List.mem_append.1 ht with ht | ht
        · have hm := sp_mem (((R.map fun r => (if f r = true then r.1 ^^^ q else r.1, r.2)) ++ [(q, k)]).map (·.1) ++ L) (if f t = true then t.1 ^^^ q else t.1) (List.mem_append_left _ (List.mem_map.2 ⟨_, List.mem_append_left _ (List.mem_map.2 ⟨t, ht, rfl⟩), rfl⟩))
          split at hm
          · have := sp_xor _ _ _ hm hq2
            rw [xx] at this
            exact this
          · exact hm
        · rw [List.mem_singleton.1 ht]
          exact hq2
      · exact sp_right (sp_mem _ v hv)
end Go.Proofs.YtgjgefbcfcomcaaDoor
