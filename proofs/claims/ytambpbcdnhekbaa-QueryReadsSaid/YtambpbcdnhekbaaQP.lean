/- Reading queries: the plain law. -/
import Derived.Test.YtambpbcdnhekbaaRep
import Derived.Test.YtambpbcdnhekbaaQH
set_option linter.unusedSimpArgs false
set_option linter.unusedVariables false
set_option maxHeartbeats 4000000
set_option maxRecDepth 100000
namespace Go.Proofs.Ytambpbcdnhekbaa
open Go.Ev
def LIM : Int := 2147483647
def rng (x : Int) : Prop := 0 ≤ x ∧ x ≤ LIM
def putL (l : List Int) : List Int := l.flatMap fun n => digN n.toNat
/-- A number is read. -/
def numQ (s : RS) : Int × RS := match gv s.1 0 0 with
  | some (u, n) => if s.2 = true ∨ LIM < u then (0, s.1, true) else (u, s.1.drop n, false)
  | none => (0, s.1, true)
theorem numQ_sound {b : List Int} {bad : Bool} (hb : okB b) (h : (numQ (b, bad)).2.2 = false) : bad = false ∧ ∃ u b', numQ (b, bad) = (u, b', false) ∧ rng u ∧ b = digN u.toNat ++ b' ∧ okB b' := by
  unfold numQ at h ⊢
  cases e : gv b 0 0 with
  | none => simp [e] at h
  | some p =>
    obtain ⟨u, n⟩ := p
    simp only [e] at h ⊢
    by_cases c : bad = true ∨ LIM < u
    · rw [if_pos c] at h; simp at h
    · rw [if_neg c]
      obtain ⟨h5, h6⟩ := gv_inv0 hb e
      exact ⟨by simpa using fun h => c (.inl h), u, b.drop n, rfl, ⟨h5, by omega⟩, h6, fun x hx => hb x (List.mem_of_mem_drop hx)⟩
theorem numQ_full {u : Int} (hu : rng u) (r : List Int) : numQ (digN u.toNat ++ r, false) = (u, r, false) := by
  unfold rng LIM at hu
  have h := gv_all u.toNat r (by omega)
  unfold numQ
  simp only [h]
  rw [if_neg (by simp; unfold LIM; omega), List.drop_left, Int.toNat_of_nonneg hu.1]
theorem numQ_mono (s : RS) (h : (numQ s).2.2 = false) : s.2 = false := by
  unfold numQ at h
  split at h
  · split at h
    · simp at h
    · rename_i c; simpa using fun h => c (.inl h)
  · simp at h
/-- How many: as a number, perhaps no more than there are bytes. -/
structure CnP (cn : RS → Int × RS) : Prop where
  sound : ∀ s, (cn s).2.2 = false → cn s = numQ s
  full : ∀ (u : Int) (r : List Int), rng u → u ≤ r.length → cn (digN u.toNat ++ r, false) = (u, r, false)
def listF (x : List Int × RS) : List Int × RS := (x.1 ++ [(numQ x.2).1], (numQ x.2).2)
def listP (st : Bool → Bool) (n : Nat) (s : RS) : List Int × RS := rep st listF n ([], s)
def fixP (cn : RS → Int × RS) (st : Bool → Bool) (s : RS) : Fx × RS :=
  let d := numQ s
  let l := numQ d.2
  let k := cn l.2
  let ms := listP st k.1.toNat k.2
  (⟨d.1, l.1, ms.1⟩, ms.2)
def fixesF (cn : RS → Int × RS) (st : Bool → Bool) (x : List Fx × RS) : List Fx × RS := (x.1 ++ [(fixP cn st x.2).1], (fixP cn st x.2).2)
def fixesP (cn : RS → Int × RS) (st : Bool → Bool) (n : Nat) (s : RS) : List Fx × RS := rep st (fixesF cn st) n ([], s)
def bodyP (cn : RS → Int × RS) (st : Bool → Bool) (s : RS) : Qy × RS :=
  let n := cn s
  let F := fixesP cn st n.1.toNat n.2
  let t := numQ F.2
  let me := numQ t.2
  let fn := numQ me.2
  let li := numQ fn.2
  (⟨0, 0, 0, 0, F.1, t.1, me.1, fn.1, li.1⟩, li.2)
def readQ (cn : RS → Int × RS) (st : Bool → Bool) (b : List Int) : Option Qy :=
  if 4 ≤ b.length ∧ (bodyP cn st (b.drop 4, false)).2.2 = false ∧ (bodyP cn st (b.drop 4, false)).2.1 = [] then
    some { (bodyP cn st (b.drop 4, false)).1 with a := gI b 0, b := gI b 1, c := gI b 2, e := gI b 3 } else none
theorem putL_app (a b : List Int) : putL (a ++ b) = putL a ++ putL b := List.flatMap_append ..
theorem putL_cons (x : Int) (l : List Int) : putL (x :: l) = digN x.toNat ++ putL l := List.flatMap_cons ..
theorem putL_ge (l : List Int) : l.length ≤ (putL l).length := by
  induction l with
  | nil => simp
  | cons x l ih => rw [putL_cons, List.length_append, List.length_cons]; have := digN_pos x.toNat; omega
section
variable {cn : RS → Int × RS} {st : Bool → Bool}
theorem listF_mono (s : List Int × RS) (h : (listF s).2.2 = false) : s.2.2 = false := numQ_mono s.2 h
theorem list_sound (hst : st false = false) {n : Nat} {b : List Int} {bad : Bool} (hb : okB b) (h : (listP st n (b, bad)).2.2 = false) :
    ∃ l b', listP st n (b, bad) = (l, b', false) ∧ l.length = n ∧ b = putL l ++ b' ∧ okB b' ∧ ∀ x ∈ l, rng x := by
  obtain ⟨xs, b', h1, h2, h3, h4, h5⟩ := rep_sound (β := Unit) hst listF_mono (fun n => digN n.toNat) (fun _ x => rng x) (fun l b bad hb hs => by
    obtain ⟨h0, u, b', e1, e2, e3, e4⟩ := numQ_sound hb (h := hs)
    subst h0
    exact ⟨u, b', by simp only [listF, e1], e3, e2⟩) n [] b bad hb h
  refine ⟨xs, b', by unfold listP; rw [h1]; rfl, h2, h3, h4, fun x hx => ?_⟩
  obtain ⟨i, hi, rfl⟩ := List.getElem_of_mem hx
  exact h5 i hi
theorem list_full (hst : st false = false) (l : List Int) (hl : ∀ x ∈ l, rng x) (r : List Int) : listP st l.length (putL l ++ r, false) = (l, r, false) := by
  have := rep_full (st := st) (f := listF) hst (fun n => digN n.toNat) (fun _ x => rng x) (fun l x r hx => by
    simp only [listF, numQ_full hx r]) l [] r (fun i hi => hl _ (List.getElem_mem _))
  exact this
def rngF (f : Fx) : Prop := ∀ x ∈ numsF f, rng x
theorem listP_mono (n : Nat) (s : RS) (h : (listP st n s).2.2 = false) : s.2 = false := rep_mono listF_mono n ([], s) h
theorem cn_mono (hc : CnP cn) (s : RS) (h : (cn s).2.2 = false) : s.2 = false := by
  have := hc.sound s h
  rw [this] at h
  exact numQ_mono s h
theorem fixP_mono (hc : CnP cn) (s : RS) (h : (fixP cn st s).2.2 = false) : s.2 = false := numQ_mono s (numQ_mono _ (cn_mono hc _ (listP_mono _ _ h)))
theorem fix_sound (hc : CnP cn) (hst : st false = false) {b : List Int} {bad : Bool} (hb : okB b) (h : (fixP cn st (b, bad)).2.2 = false) :
    ∃ f b', fixP cn st (b, bad) = (f, b', false) ∧ b = putL (numsF f) ++ b' ∧ okB b' ∧ rngF f := by
  have h3 := listP_mono _ _ h
  have h2 := cn_mono hc _ h3
  have h1 := numQ_mono _ h2
  obtain ⟨-, d, b1, e1, r1, w1, ok1⟩ := numQ_sound hb h1
  unfold fixP at h h2 h3 ⊢
  simp only [e1] at h h2 h3 ⊢
  obtain ⟨-, l, b2, e2, r2, w2, ok2⟩ := numQ_sound ok1 h2
  simp only [e2] at h h3 ⊢
  have e3' := hc.sound _ h3
  rw [e3'] at h h3 ⊢
  obtain ⟨-, k, b3, e3, r3, w3, ok3⟩ := numQ_sound ok2 h3
  simp only [e3] at h ⊢
  obtain ⟨ms, b4, e4, l4, w4, ok4, r4⟩ := list_sound hst ok3 h
  rw [e4]
  have hk : (ms.length : Int) = k := by rw [l4]; exact Int.toNat_of_nonneg r3.1
  refine ⟨⟨d, l, ms⟩, b4, rfl, ?_, ok4, ?_⟩
  · rw [w1, w2, w3, w4]
    simp only [numsF, putL_cons, hk, List.append_assoc]
  · intro x hx
    simp only [numsF, List.mem_cons, hk] at hx
    rcases hx with rfl | rfl | rfl | hx
    · exact r1
    · exact r2
    · exact r3
    · exact r4 x hx
theorem fix_full (hc : CnP cn) (hst : st false = false) (f : Fx) (hf : rngF f) (r : List Int) : fixP cn st (putL (numsF f) ++ r, false) = (f, r, false) := by
  obtain ⟨d, l, ms⟩ := f
  have r1 := hf d (by simp [numsF])
  have r2 := hf l (by simp [numsF])
  have r3 := hf ms.length (by simp [numsF])
  have r4 : ∀ x ∈ ms, rng x := fun x hx => hf x (by simp [numsF, hx])
  have hge := putL_ge ms
  unfold fixP
  simp only [numsF, putL_cons, List.append_assoc]
  simp only [numQ_full r1, numQ_full r2]
  rw [hc.full _ _ r3 (by rw [List.length_append]; omega)]
  simp only [Int.toNat_natCast]
  rw [list_full hst ms r4 r]
theorem fixesF_mono (hc : CnP cn) (s : List Fx × RS) (h : (fixesF cn st s).2.2 = false) : s.2.2 = false := fixP_mono hc s.2 h
theorem fixesP_mono (hc : CnP cn) (n : Nat) (s : RS) (h : (fixesP cn st n s).2.2 = false) : s.2 = false := rep_mono (fixesF_mono hc) n ([], s) h
theorem fixes_sound (hc : CnP cn) (hst : st false = false) {n : Nat} {b : List Int} {bad : Bool} (hb : okB b) (h : (fixesP cn st n (b, bad)).2.2 = false) :
    ∃ F b', fixesP cn st n (b, bad) = (F, b', false) ∧ F.length = n ∧ b = putL (F.flatMap numsF) ++ b' ∧ okB b' ∧ ∀ f ∈ F, rngF f := by
  obtain ⟨xs, b', h1, h2, h3, h4, h5⟩ := rep_sound (β := Unit) hst (fixesF_mono hc) (fun f => putL (numsF f)) (fun _ f => rngF f) (fun l b bad hb hs => by
    obtain ⟨f, b', e1, e2, e3, e4⟩ := fix_sound hc hst hb (h := hs)
    exact ⟨f, b', by simp only [fixesF, e1], e2, e4⟩) n [] b bad hb h
  refine ⟨xs, b', by unfold fixesP; rw [h1]; rfl, h2, ?_, h4, fun x hx => ?_⟩
  · rw [h3]
    congr 1
    unfold putL
    rw [List.flatMap_assoc]
  · obtain ⟨i, hi, rfl⟩ := List.getElem_of_mem hx
    exact h5 i hi
theorem fixes_full (hc : CnP cn) (hst : st false = false) (F : List Fx) (hF : ∀ f ∈ F, rngF f) (r : List Int) : fixesP cn st F.length (putL (F.flatMap numsF) ++ r, false) = (F, r, false) := by
  have := rep_full (st := st) (f := fixesF cn st) hst (fun f => putL (numsF f)) (fun _ f => rngF f) (fun l x r hx => by
    simp only [fixesF, fix_full hc hst x hx r]) F [] r (fun i hi => hF _ (List.getElem_mem _))
  rw [show putL (F.flatMap numsF) = F.flatMap fun f => putL (numsF f) from by unfold putL; rw [List.flatMap_assoc]]
  exact this
def rngQ (q : Qy) : Prop := ∀ x ∈ numsQ q, rng x
theorem body_sound (hc : CnP cn) (hst : st false = false) {b : List Int} {bad : Bool} (hb : okB b) (h : (bodyP cn st (b, bad)).2.2 = false) :
    ∃ q b', bodyP cn st (b, bad) = (q, b', false) ∧ b = putL (numsQ q) ++ b' ∧ rngQ q ∧ q.a = 0 ∧ q.b = 0 ∧ q.c = 0 ∧ q.e = 0 := by
  have hfn := numQ_mono _ h
  have hme := numQ_mono _ hfn
  have ht := numQ_mono _ hme
  have hF := numQ_mono _ ht
  have hn := fixesP_mono hc _ _ hF
  have e1' := hc.sound _ hn
  unfold bodyP
  unfold bodyP at h
  rw [e1'] at h hfn hme ht hF hn ⊢
  obtain ⟨-, n, b1, e1, r1, w1, ok1⟩ := numQ_sound hb hn
  simp only [e1] at h hfn hme ht hF ⊢
  obtain ⟨F, b2, e2, l2, w2, ok2, r2⟩ := fixes_sound hc hst ok1 hF
  simp only [e2] at h hfn hme ht ⊢
  have hF : (F.length : Int) = n := by rw [l2]; exact Int.toNat_of_nonneg r1.1
  obtain ⟨-, t, b3, e3, r3, w3, ok3⟩ := numQ_sound ok2 ht
  simp only [e3] at h hfn hme ⊢
  obtain ⟨-, me, b4, e4, r4, w4, ok4⟩ := numQ_sound ok3 hme
  simp only [e4] at h hfn ⊢
  obtain ⟨-, fn, b5, e5, r5, w5, ok5⟩ := numQ_sound ok4 hfn
  simp only [e5] at h ⊢
  obtain ⟨-, li, b6, e6, r6, w6, ok6⟩ := numQ_sound ok5 h
  simp only [e6]
  refine ⟨_, b6, rfl, ?_, ?_, rfl, rfl, rfl, rfl⟩
  · rw [w1, w2, w3, w4, w5, w6]
    simp only [numsQ, putL_cons, putL_app, hF, List.append_assoc]
    simp [putL]
  · intro x hx
    simp only [numsQ, List.mem_cons, List.mem_append, hF, List.not_mem_nil, or_false] at hx
    rcases hx with rfl | hx | rfl | rfl | rfl | rfl
    · exact r1
    · obtain ⟨f, hf, hx⟩ := List.mem_flatMap.1 hx
      exact r2 f hf x hx
    · exact r3
    · exact r4
    · exact r5
    · exact r6
theorem body_full (hc : CnP cn) (hst : st false = false) (q : Qy) (hq : rngQ q) (r : List Int) : bodyP cn st (putL (numsQ q) ++ r, false) = (⟨0, 0, 0, 0, q.F, q.t, q.me, q.fn, q.li⟩, r, false) := by
  obtain ⟨a, b, c, e, F, t, me, fn, li⟩ := q
  have r1 := hq F.length (by simp [numsQ])
  have r2 : ∀ f ∈ F, rngF f := fun f hf x hx => hq x (by simp only [numsQ, List.mem_cons, List.mem_append]; exact .inr (.inl (List.mem_flatMap.2 ⟨f, hf, hx⟩)))
  have r3 := hq t (by simp [numsQ])
  have r4 := hq me (by simp [numsQ])
  have r5 := hq fn (by simp [numsQ])
  have r6 := hq li (by simp [numsQ])
  have hge : F.length ≤ (putL (F.flatMap numsF)).length := by
    have h1 := putL_ge (F.flatMap numsF)
    have h2 : F.length ≤ (F.flatMap numsF).length := by
      clear hq r1 r2 h1
      induction F with
      | nil => simp
      | cons f F ih => rw [List.flatMap_cons, List.length_append, List.length_cons]; simp only [numsF, List.length_cons]; omega
    omega
  unfold bodyP
  simp only [numsQ, putL_cons, putL_app, List.append_assoc]
  rw [hc.full _ _ r1 (by rw [List.length_append]; omega)]
  simp only [Int.toNat_natCast]
  rw [fixes_full hc hst F r2]
  simp only [numQ_full r3, numQ_full r4, numQ_full r5, putL, List.flatMap_nil, List.nil_append, numQ_full r6]
theorem read_iff (hc : CnP cn) (hst : st false = false) {b : List Int} (hb : okB b) (q : Qy) : readQ cn st b = some q ↔ rngQ q ∧ b = q.n ++ putL (numsQ q) := by
  unfold readQ
  constructor
  · intro h
    split at h
    · rename_i c
      obtain ⟨c1, c2, c3⟩ := c
      obtain ⟨p, b', e1, e2, e3, h0, h1, h2, h3⟩ := body_sound hc hst (b := b.drop 4) (fun x hx => hb x (List.mem_of_mem_drop hx)) c2
      rw [e1] at h c3
      simp only at h c3
      subst c3
      cases h
      refine ⟨e3, ?_⟩
      have h4 : b.take 4 = [gI b 0, gI b 1, gI b 2, gI b 3] := by
        match b, c1 with
        | x0 :: x1 :: x2 :: x3 :: b, _ => rfl
      have h5 := List.take_append_drop 4 b
      rw [h4, e2, List.append_nil] at h5
      exact h5.symm
    · cases h
  · rintro ⟨h1, rfl⟩
    have e := body_full hc hst q h1 []
    rw [List.append_nil] at e
    have hd : (q.n ++ putL (numsQ q)).drop 4 = putL (numsQ q) := rfl
    rw [hd, e]
    rw [if_pos ⟨by rw [List.length_append]; simp [Qy.n], rfl, rfl⟩]
    rfl
end
end Go.Proofs.Ytambpbcdnhekbaa
