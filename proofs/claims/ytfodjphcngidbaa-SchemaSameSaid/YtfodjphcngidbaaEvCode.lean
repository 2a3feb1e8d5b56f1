/- Code. -/
import Derived.Test.YtfodjphcngidbaaEvReg
set_option linter.unusedSimpArgs false
set_option linter.unusedVariables false
namespace Go.Ev
variable {P : Program} {E : Env} {cf : CallF}

/-- A step, as it is seen from objects below m. -/
structure StepM (m : Nat) (E E' : Env) : Prop where
  F : E'.F = E.F
  obj : ∀ (i : Nat) (o : AObj), i < m → E.H[i]? = some o → ∃ o' : AObj, E'.H[i]? = some o' ∧ o.ver ≤ o'.ver ∧ (o'.ver = o.ver → sameShape o.body o'.body ∧ E'.ρ[i]? = E.ρ[i]?)
  w : Wst E.Mut E'.Mut E.w E'.w
theorem StepM.refl (m : Nat) (E : Env) : StepM m E E := ⟨rfl, fun _ o _ h => ⟨o, h, Nat.le_refl _, fun _ => ⟨.refl _, rfl⟩⟩, .refl _ _⟩
theorem StepM.trans {m : Nat} {A B C : Env} (h : StepM m A B) (k : StepM m B C) : StepM m A C where
  F := k.F.trans h.F
  obj i o hi ho := by
    obtain ⟨o1, h1, l1, s1⟩ := h.obj i o hi ho
    obtain ⟨o2, h2, l2, s2⟩ := k.obj i o1 hi h1
    refine ⟨o2, h2, by omega, fun e => ?_⟩
    obtain ⟨a1, a2⟩ := s1 (by omega)
    obtain ⟨b1, b2⟩ := s2 (by omega)
    exact ⟨a1.trans b1, b2.trans a2⟩
  w := h.w.trans k.w
theorem Step.toM {E E' : Env} (h : Step E E') (m : Nat) : StepM m E E' := ⟨h.F, fun i o _ ho => h.obj i o ho, h.w⟩

/-! ### The head of a loop -/
theorem fixObjs_ok {m : Nat} {ids : List Nat} {H : List AObj} : ∀ {L L' : List AObj} {k : Nat}, fixObjs m ids H k L = some L' →
    L'.length = L.length ∧ ∀ (j : Nat) (o : AObj), L[j]? = some o → ∃ o' : AObj, L'[j]? = some o' ∧
      ((k + j < m ∧ ∃ b, fixBody m ids H o.body = some b ∧ o' = ⟨o.ver, b⟩) ∨ (m ≤ k + j ∧ ids.contains (k + j) = true ∧ ∃ b, fixBody m ids H o.body = some b ∧ o' = ⟨0, b⟩) ∨ (m ≤ k + j ∧ ids.contains (k + j) = false ∧ o' = ⟨0, .none⟩))
  | [], L', k, h => by simp only [fixObjs, Option.some.injEq] at h; subst h; exact ⟨rfl, fun j o h => by simp at h⟩
  | o :: L, L', k, h => by
    simp only [fixObjs] at h
    split at h
    · rename_i o' r' h1 h2
      cases h
      obtain ⟨k1, k2⟩ := fixObjs_ok h2
      refine ⟨by simp [k1], fun j q hq => ?_⟩
      cases j with
      | zero =>
        simp at hq; subst hq
        refine ⟨o', rfl, ?_⟩
        simp only [Nat.add_zero]
        split at h1
        · rename_i hlt
          obtain ⟨b, hb, rfl⟩ := Option.map_eq_some_iff.1 h1
          exact .inl ⟨hlt, b, hb, rfl⟩
        · rename_i hge
          split at h1
          · rename_i hc
            obtain ⟨b, hb, rfl⟩ := Option.map_eq_some_iff.1 h1
            exact .inr (.inl ⟨by omega, hc, b, hb, rfl⟩)
          · rename_i hc
            cases h1
            exact .inr (.inr ⟨by omega, by simpa using hc, rfl⟩)
      | succ j =>
        have := k2 j q (by simpa using hq)
        rw [show k + 1 + j = k + (j + 1) by omega] at this
        simpa using this
    · cases h

theorem fixBody_mut {m : Nat} {ids : List Nat} {H : List AObj} {b b' : ABody} (h : fixBody m ids H b = some b') : b'.isMut = b.isMut ∧ sameShape b b' := by
  cases b with
  | none => simp only [fixBody, Option.some.injEq] at h; subst h; exact ⟨rfl, trivial⟩
  | var cs =>
    simp only [fixBody] at h
    split at h
    · cases h; exact ⟨rfl, by simp [sameShape]⟩
    · cases h
  | row mu sz cs => simp only [fixBody, Option.some.injEq] at h; subst h; exact ⟨rfl, rfl, rfl⟩

section
variable {m : Nat} {ids : List Nat} {H' : List AObj}

def nEnv (E : Env) (H' : List AObj) : Env := ⟨E.F, H', E.ρ, E.w⟩

theorem n_get (hf : fixObjs m ids E.H 0 E.H = some H') {i : Nat} {o : AObj} (h : E.H[i]? = some o) : ∃ o' : AObj, H'[i]? = some o' ∧
      ((i < m ∧ ∃ b, fixBody m ids E.H o.body = some b ∧ o' = ⟨o.ver, b⟩) ∨ (m ≤ i ∧ ids.contains i = true ∧ ∃ b, fixBody m ids E.H o.body = some b ∧ o' = ⟨0, b⟩) ∨ (m ≤ i ∧ ids.contains i = false ∧ o' = ⟨0, .none⟩)) := by
  have := (fixObjs_ok hf).2 i o h
  simpa using this
theorem n_old (hf : fixObjs m ids E.H 0 E.H = some H') {i : Nat} {o' : AObj} (h : H'[i]? = some o') : ∃ o : AObj, E.H[i]? = some o := by
  have h1 := (fixObjs_ok hf).1
  have h2 := (List.getElem?_eq_some_iff.1 h).1
  exact ⟨_, List.getElem?_eq_getElem (by omega)⟩

theorem n_mut (hf : fixObjs m ids E.H 0 E.H = some H') {i b : Nat} (h : (nEnv E H').mutAt i b) : E.mutAt i b := by
  obtain ⟨o', base, h1, h2, h3⟩ := h
  obtain ⟨o, ho⟩ := n_old hf h1
  obtain ⟨o'', h4, h5⟩ := n_get hf ho
  have : o'' = o' := Option.some.inj (h4.symm.trans h1)
  subst this
  refine ⟨o, base, ho, ?_, h3⟩
  rcases h5 with ⟨_, b', h5, rfl⟩ | ⟨_, _, b', h5, rfl⟩ | ⟨_, _, rfl⟩
  · rw [← (fixBody_mut h5).1]; exact h2
  · rw [← (fixBody_mut h5).1]; exact h2
  · cases h2
theorem n_X (hf : fixObjs m ids E.H 0 E.H = some H') {b : Nat} (h : ¬ E.X b) : ¬ (nEnv E H').X b := by
  rintro (q | ⟨i, q⟩)
  · exact h (.inl q)
  · exact h (.inr ⟨i, n_mut hf q⟩)
theorem n_keep (hf : fixObjs m ids E.H 0 E.H = some H') : ∀ b, b < E.w.heap.size → ¬ E.X b → ¬ (nEnv E H').X b ∧ ∀ o, (nEnv E H').w.cell? ⟨b, o, none⟩ = E.w.cell? ⟨b, o, none⟩ :=
  fun b _ h => ⟨n_X hf h, fun _ => rfl⟩

theorem n_own (hf : fixObjs m ids E.H 0 E.H = some H') {i ver ver' off len sz : Nat} {v : Value} {o o' : AObj} (ho : E.H[i]? = some o) (ho' : H'[i]? = some o') (hsh : sameShape o.body o'.body)
    (hv : ver' ≤ o'.ver) (hvv : ver' = o'.ver → ver = o.ver) (h : ORel E i ver off len sz v) : ORel (nEnv E H') i ver' off len sz v := by
  obtain ⟨a, cap, h1, h2, h3, q, hq, hle, hfact⟩ := h
  rw [ho] at hq; cases hq
  refine ⟨a, cap, h1, h2, h3, o', ho', hv, fun e => ?_⟩
  have hfact := hfact (hvv e)
  cases ob : o.body with
  | none => rw [ob] at hfact; exact hfact.elim
  | var cs =>
    cases ob' : o'.body <;> rw [ob, ob'] at hsh <;> simp only [sameShape] at hsh
    rw [ob] at hfact
    exact ⟨by have := hfact.1; omega, hfact.2⟩
  | row mu s cs =>
    cases ob' : o'.body <;> rw [ob, ob'] at hsh <;> simp only [sameShape] at hsh
    rw [ob] at hfact
    refine ⟨by have := hfact.1; omega, hfact.2.imp id fun ⟨h2, h3⟩ => ⟨?_, h3⟩⟩
    have := hsh.2
    rw [h2] at this
    exact List.length_eq_zero_iff.1 this.symm
theorem n_ptr {i ver ver' off : Nat} {v : Value} {o o' : AObj} (ho : E.H[i]? = some o) (ho' : H'[i]? = some o')
    (hv : ver' ≤ o'.ver) (hvv : ver' = o'.ver → ver = o.ver) (h : PRel E i ver off v) : PRel (nEnv E H') i ver' off v := by
  obtain ⟨a, h1, q, hq, hle, hfact⟩ := h
  rw [ho] at hq; cases hq
  exact ⟨a, h1, o', ho', hv, fun e => hfact (hvv e)⟩

theorem fixCell_rel (hf : fixObjs m ids E.H 0 E.H = some H') {a : AV} {v : Value} (h : VRel E a v) : VRel (nEnv E H') (fixCell m ids E.H a) v := by
  cases a
  case own i ver off len sz =>
    simp only [fixCell]
    split
    · rename_i hlt
      simp only [VRel] at h ⊢
      have h' := h
      obtain ⟨_, _, _, _, _, q, hq, hle, _⟩ := h'
      obtain ⟨o', ho', hc⟩ := n_get hf hq
      rcases hc with ⟨_, b, hb, rfl⟩ | ⟨hm, _⟩ | ⟨hm, _⟩
      · exact n_own hf hq ho' (fixBody_mut hb).2 hle (fun e => e) h
      · omega
      · omega
    · rename_i hge
      split
      · rename_i o ho
        split
        · rename_i hc
          simp only [VRel] at h ⊢
          obtain ⟨o', ho', hcc⟩ := n_get hf ho
          rcases hcc with ⟨hm, _⟩ | ⟨_, _, b, hb, rfl⟩ | ⟨_, hm, _⟩
          · omega
          · exact n_own hf ho ho' (fixBody_mut hb).2 (Nat.le_refl _) (fun _ => hc.2.symm) h
          · rw [hc.1] at hm; cases hm
        · trivial
      · trivial
  case ptr i ver off =>
    simp only [fixCell]
    split
    · rename_i hlt
      simp only [VRel] at h ⊢
      have h' := h
      obtain ⟨_, _, q, hq, hle, _⟩ := h'
      obtain ⟨o', ho', hc⟩ := n_get hf hq
      rcases hc with ⟨_, b, hb, rfl⟩ | ⟨hm, _⟩ | ⟨hm, _⟩
      · exact n_ptr hq ho' hle (fun e => e) h
      · omega
      · omega
    · rename_i hge
      split
      · rename_i o ho
        split
        · rename_i hc
          simp only [VRel] at h ⊢
          obtain ⟨o', ho', hcc⟩ := n_get hf ho
          rcases hcc with ⟨hm, _⟩ | ⟨_, _, b, hb, rfl⟩ | ⟨_, hm, _⟩
          · omega
          · exact n_ptr ho ho' (Nat.le_refl _) (fun _ => hc.2.symm) h
          · rw [hc.1] at hm; cases hm
        · trivial
      · trivial
  case agg cs => trivial
  case tup cs => trivial
  case fn f xs ys => trivial
  all_goals exact VRel.keepT (n_keep hf) _ _ rfl h

theorem fixCells_rel (hf : fixObjs m ids E.H 0 E.H = some H') {cs : List AV} {vs : List Value} (h : LRel E cs vs) : LRel (nEnv E H') (cs.map (fixCell m ids E.H)) vs := by
  refine LRel.of (by simp [h.length]) fun j c v hc hv => ?_
  simp only [List.getElem?_map] at hc
  obtain ⟨c0, h0, rfl⟩ := Option.map_eq_some_iff.1 hc
  obtain ⟨u, hu, hr⟩ := h.get j c0 h0
  rw [hv] at hu; cases hu
  exact fixCell_rel hf hr

theorem fixV_rel (hf : fixObjs m ids E.H 0 E.H = some H') {a : AV} {v : Value} (h : VRel E a v) : VRel (nEnv E H') (fixV m ids E.H a) v := by
  cases a
  case agg cs =>
    simp only [fixV, VRel] at h ⊢
    obtain ⟨arr, rfl, h⟩ := h
    exact ⟨arr, rfl, fixCells_rel hf h⟩
  case fn f xs ys =>
    simp only [fixV, VRel] at h ⊢
    obtain ⟨a1, a2, rfl, h1, h2⟩ := h
    exact ⟨a1, a2, rfl, fixCells_rel hf h1, fixCells_rel hf h2⟩
  all_goals exact fixCell_rel hf h

theorem fixSlots_rel (hf : fixObjs m ids E.H 0 E.H = some H') {lv : List Nat} : ∀ {k : Nat} {sl : List AV} {vs : List Value}, LRel E sl vs → LRel (nEnv E H') (fixSlots m lv ids E.H k sl) vs
  | k, [], vs, h => h
  | k, c :: sl, vs, h => by
    simp only [LRel] at h
    obtain ⟨v, r, rfl, h1, h2⟩ := h
    refine ⟨v, r, rfl, ?_, fixSlots_rel hf h2⟩
    split
    · exact fixV_rel hf h1
    · trivial

theorem n_objrel (hf : fixObjs m ids E.H 0 E.H = some H') {i ver ver' : Nat} {bd bd' : ABody} (hb : fixBody m ids E.H bd = some bd') (h : ObjRel E i ⟨ver, bd⟩) : ObjRel (nEnv E H') i ⟨ver', bd'⟩ := by
  unfold ObjRel at h ⊢
  cases bd with
  | none => simp only [fixBody, Option.some.injEq] at hb; subst hb; trivial
  | var cs =>
    simp only [fixBody] at hb
    split at hb
    · rename_i hat
      cases hb
      obtain ⟨b, base, h1, h2, h3⟩ := h
      refine ⟨b, base, h1, by rw [List.length_map]; exact h2, fun j c hj => ?_⟩
      simp only [List.getElem?_map] at hj
      obtain ⟨c0, h0, rfl⟩ := Option.map_eq_some_iff.1 hj
      obtain ⟨_, v, hv, hr⟩ := h3 j c0 h0
      exact ⟨List.all_eq_true.1 hat _ (List.mem_map_of_mem (List.mem_of_getElem? h0)), v, hv, fixCell_rel hf hr⟩
    · cases hb
  | row mu sz cs =>
    simp only [fixBody, Option.some.injEq] at hb
    subst hb
    rcases h with h | ⟨b, base, h1, h2, h3, h4⟩
    · exact .inl h
    · exact .inr ⟨b, base, h1, h2, CRel.keepT (n_keep hf) cs b base (fun _ => rfl) h3, fun hm => n_X hf (h4 hm)⟩

theorem n_wrel (hw : WRel E) (hf : fixObjs m ids E.H 0 E.H = some H') : WRel (nEnv E H') where
  len := hw.len.trans (fixObjs_ok hf).1.symm
  obj i o' ho' := by
    obtain ⟨o, ho⟩ := n_old hf ho'
    obtain ⟨o'', h4, h5⟩ := n_get hf ho
    have : o'' = o' := Option.some.inj (h4.symm.trans ho')
    subst this
    have hold := hw.obj i o ho
    rcases h5 with ⟨_, b', h5, rfl⟩ | ⟨_, _, b', h5, rfl⟩ | ⟨_, _, rfl⟩
    · exact n_objrel hf h5 hold
    · exact n_objrel hf h5 hold
    · trivial
  inj i j b hi hj := hw.inj i j b (n_mut hf hi) (n_mut hf hj)
  fNot i b hm := hw.fNot i b (n_mut hf hm)
  fOld := hw.fOld

theorem n_step (hf : fixObjs m ids E.H 0 E.H = some H') : StepM m E (nEnv E H') where
  F := rfl
  obj i o hi ho := by
    obtain ⟨o', ho', hc⟩ := n_get hf ho
    rcases hc with ⟨_, b, hb, rfl⟩ | ⟨hm, _⟩ | ⟨hm, _⟩
    · exact ⟨_, ho', Nat.le_refl _, fun _ => ⟨(fixBody_mut hb).2, rfl⟩⟩
    · omega
    · omega
  w := ⟨rfl, rfl, rfl, Nat.le_refl _, fun b _ hn => ⟨rfl, fun ⟨i, q⟩ => hn ⟨i, n_mut hf q⟩⟩, fun b arr e f h => ⟨arr, h, rfl⟩⟩
end

/-! ### Code -/
def exK : MExit → Exit
  | .normal => .normal
  | .exit id => .exit id
  | .ret => .ret
def GoodM (m : Nat) (E : Env) (a : Act) (st : St) (K : Act → World → Prop) : Prop :=
  ∀ (E' : Env) (a' : Act), E'.H = st.H → WRel E' → ARel E' st.sl a' → StepM m E E' → a'.defers = a.defers → K a' E'.w
def CodeSat (P : Program) (cf : CallF) (m fuel : Nat) (mc : MCode) (c : Code) : Prop :=
  ∀ ⦃E : Env⦄ ⦃a : Act⦄ ⦃sl : List AV⦄ ⦃ex : MExit⦄ ⦃st' : St⦄ ⦃Q : Exit → Act → World → Prop⦄, WRel E → ARel E sl a → evalCode cf m fuel mc ⟨sl, E.H⟩ = some (ex, st') → GoodM m E a st' (Q (exK ex)) → c.wp P Q a E.w

theorem loop_sound {m fuel : Nat} {mc : MCode} {c : Code} (IH : CodeSat P cf m fuel mc c) {lv ids : List Nat} : ∀ {n : Nat} {E : Env} {a : Act} {sl : List AV} {ex : MExit} {st' : St} {Q : Exit → Act → World → Prop}, WRel E → ARel E sl a →
    iter (evalCode cf m fuel mc) (norm m lv ids) n ⟨sl, E.H⟩ = some (ex, st') → GoodM m E a st' (Q (exK ex)) → Code.rounds P c Q n a E.w
  | 0, E, a, sl, ex, st', Q, hw, hs, h, hK => by simp [iter] at h
  | n + 1, E, a, sl, ex, st', Q, hw, hs, h, hK => by
    rw [rounds_succ]
    simp only [iter] at h
    split at h
    · cases h
    · rename_i st hn
      simp only [norm] at hn
      split at hn
      · rename_i H' hf
        cases hn
        have hw1 := n_wrel hw hf
        have hs1 : ARel (nEnv E H') (fixSlots m lv ids E.H 0 sl) a := fixSlots_rel hf hs
        have hst1 := n_step hf
        split at h
        · rename_i st1 hb
          refine IH (E := nEnv E H') (Q := Exit.then (Code.rounds P c Q n) Q) hw1 hs1 hb fun E2 a2 q1 q2 q3 q4 q5 => ?_
          exact loop_sound IH q2 q3 (by rw [q1]; exact h) fun E3 a3 r1 r2 r3 r4 r5 => hK E3 a3 r1 r2 r3 (hst1.trans (q4.trans r4)) (r5.trans q5)
        · rename_i hne
          refine IH (E := nEnv E H') (Q := Exit.then (Code.rounds P c Q n) Q) hw1 hs1 h fun E2 a2 q1 q2 q3 q4 q5 => ?_
          have := hK E2 a2 q1 q2 q3 (hst1.trans q4) q5
          cases ex with
          | normal => exact absurd h (hne _)
          | exit id => exact this
          | ret => exact this
      · cases hn

theorem code_sound (hcf : CfSound P cf) (m fuel : Nat) : ∀ (mc : MCode) (c : Code), chkCode P mc c = true → CodeSat P cf m fuel mc c
  | .skip, c, hc => by
    cases c <;> simp only [chkCode, Bool.false_eq_true] at hc
    intro E a sl ex st' Q hw hs h hK
    simp only [evalCode, Option.some.injEq, Prod.mk.injEq] at h
    obtain ⟨rfl, rfl⟩ := h
    exact wp_skip (hK E a rfl hw hs (.refl _ _) rfl)
  | .region d ms, c, hc => by
    cases c <;> simp only [chkCode, Bool.false_eq_true] at hc
    rename_i id ops d'
    intro E a sl ex st' Q hw hs h hK
    have hd : d = d' := by simp only [Bool.and_eq_true, beq_iff_eq] at hc; exact hc.1.1.1
    subst hd
    simp only [evalCode] at h
    split at h
    · rename_i st1 h1
      cases h
      refine region_sound hcf (by simpa only [chkCode] using hc) hw hs h1 fun E' a' q1 q2 q3 q4 q5 => hK E' a' q1 q2 q3 (q4.toM m) q5
    · cases h
  | .seq x y, c, hc => by
    cases c <;> simp only [chkCode, Bool.false_eq_true, Bool.and_eq_true] at hc
    rename_i c1 c2
    intro E a sl ex st' Q hw hs h hK
    simp only [evalCode] at h
    refine wp_seq ?_
    split at h
    · rename_i st1 h1
      refine code_sound hcf m fuel x c1 hc.1 hw hs h1 fun E1 a1 q1 q2 q3 q4 q5 => ?_
      exact code_sound hcf m fuel y c2 hc.2 q2 q3 (by rw [q1]; exact h) fun E2 a2 r1 r2 r3 r4 r5 => hK E2 a2 r1 r2 r3 (q4.trans r4) (r5.trans q5)
    · rename_i hne
      refine code_sound hcf m fuel x c1 hc.1 hw hs h fun E1 a1 q1 q2 q3 q4 q5 => ?_
      have := hK E1 a1 q1 q2 q3 q4 q5
      cases ex with
      | normal => exact absurd h (hne _)
      | exit id => exact this
      | ret => exact this
  | .cond x y z, c, hc => by
    cases c <;> simp only [chkCode, Bool.false_eq_true, Bool.and_eq_true] at hc
    rename_i c0 c1 c2
    intro E a sl ex st' Q hw hs h hK
    have hx := ev_rel hs hc.1.1
    simp only [evalCode] at h
    split at h
    · rename_i e
      rw [e] at hx
      exact wp_cond_true (by simpa only [VRel] using hx) (code_sound hcf m fuel y c1 hc.1.2 hw hs h hK)
    · rename_i e
      rw [e] at hx
      exact wp_cond_false (by simpa only [VRel] using hx) (code_sound hcf m fuel z c2 hc.2 hw hs h hK)
    · cases h
  | .block id x, c, hc => by
    cases c <;> simp only [chkCode, Bool.false_eq_true, Bool.and_eq_true, beq_iff_eq] at hc
    rename_i id' c1
    obtain ⟨rfl, hc⟩ := hc
    intro E a sl ex st' Q hw hs h hK
    refine wp_block ?_
    simp only [evalCode] at h
    split at h
    · rename_i id' st1 h1
      refine code_sound hcf m fuel x c1 hc hw hs h1 fun E1 a1 q1 q2 q3 q4 q5 => ?_
      simp only [exK, Exit.inBlock]
      split at h
      · rename_i e
        cases h
        rw [if_pos e]
        exact hK E1 a1 q1 q2 q3 q4 q5
      · rename_i e
        cases h
        rw [if_neg e]
        exact hK E1 a1 q1 q2 q3 q4 q5
    · rename_i hne
      refine code_sound hcf m fuel x c1 hc hw hs h fun E1 a1 q1 q2 q3 q4 q5 => ?_
      have := hK E1 a1 q1 q2 q3 q4 q5
      cases ex with
      | normal => exact this
      | exit id => exact absurd h (hne _ _)
      | ret => exact this
  | .loop lv ids x, c, hc => by
    cases c <;> simp only [chkCode, Bool.false_eq_true] at hc
    rename_i c1
    intro E a sl ex st' Q hw hs h hK
    simp only [evalCode] at h
    exact wp_loop_rounds fuel (loop_sound (code_sound hcf m fuel x c1 hc) hw hs h hK)
  | .exit id, c, hc => by
    cases c <;> simp only [chkCode, Bool.false_eq_true, beq_iff_eq] at hc
    subst hc
    intro E a sl ex st' Q hw hs h hK
    simp only [evalCode, Option.some.injEq, Prod.mk.injEq] at h
    obtain ⟨rfl, rfl⟩ := h
    exact wp_exit (hK E a rfl hw hs (.refl _ _) rfl)
  | .ret, c, hc => by
    cases c <;> simp only [chkCode, Bool.false_eq_true] at hc
    intro E a sl ex st' Q hw hs h hK
    simp only [evalCode, Option.some.injEq, Prod.mk.injEq] at h
    obtain ⟨rfl, rfl⟩ := h
    exact wp_ret (hK E a rfl hw hs (.refl _ _) rfl)

end Go.Ev
