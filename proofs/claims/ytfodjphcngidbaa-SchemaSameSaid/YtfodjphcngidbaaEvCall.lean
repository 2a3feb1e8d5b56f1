/- Calls: what goes along, what comes back. -/
import Derived.Test.YtfodjphcngidbaaEvOpsA
set_option linter.unusedSimpArgs false
set_option linter.unusedVariables false
namespace Go.Ev
variable {P : Program} {E E0 E1 : Env}

def AV.noref : AV → Bool
  | .own _ _ _ _ _ | .ptr _ _ _ | .agg _ | .tup _ | .fn _ _ _ => false
  | _ => true
theorem AV.tree_noref {a : AV} (h : a.tree = true) : a.noref = true := by cases a <;> simp_all [AV.tree, AV.noref]

mutual
theorem VRel.keepT {E E' : Env} (hX : ∀ b, b < E.w.heap.size → ¬ E.X b → ¬ E'.X b ∧ ∀ o, E'.w.cell? ⟨b, o, none⟩ = E.w.cell? ⟨b, o, none⟩) : ∀ (a : AV) (v : Value), a.noref = true → VRel E a v → VRel E' a v
  | .undef, _, _, _ => trivial
  | .bool _, _, _, hr => hr
  | .int _ _, _, _, hr => hr
  | .str _, _, _, hr => hr
  | .nilptr, _, _, hr => hr
  | .nilsl, _, _, hr => hr
  | .nilfn, _, _, hr => hr
  | .emp _, _, _, hr => hr
  | .ro n cs, v, _, hr => by
    simp only [VRel] at hr ⊢
    obtain ⟨a, cap, h1, h2, h3, h4⟩ := hr
    refine ⟨a, cap, h1, h2, h3, ?_⟩
    rcases h4 with h4 | ⟨b, off, h5, h6, h7⟩
    · exact .inl h4
    · cases cs with
      | nil => exact .inl rfl
      | cons c cs =>
        have hb : b < E.w.heap.size := by
          simp only [CRel] at h7
          obtain ⟨⟨_, u, hu, _⟩, _⟩ := h7
          exact lt_of_cell hu
        obtain ⟨k1, k2⟩ := hX b hb h6
        exact .inr ⟨b, off, h5, k1, CRel.keepT hX (c :: cs) b off k2 h7⟩
  | .rptr cs, v, _, hr => by
    simp only [VRel] at hr ⊢
    obtain ⟨a, h1, h4⟩ := hr
    refine ⟨a, h1, ?_⟩
    rcases h4 with h4 | ⟨b, off, h5, h6, h7⟩
    · exact .inl h4
    · cases cs with
      | nil => exact .inl rfl
      | cons c cs =>
        have hb : b < E.w.heap.size := by
          simp only [CRel] at h7
          obtain ⟨⟨_, u, hu, _⟩, _⟩ := h7
          exact lt_of_cell hu
        obtain ⟨k1, k2⟩ := hX b hb h6
        exact .inr ⟨b, off, h5, k1, CRel.keepT hX (c :: cs) b off k2 h7⟩
  | .own _ _ _ _ _, _, h, _ => by simp [AV.noref] at h
  | .ptr _ _ _, _, h, _ => by simp [AV.noref] at h
  | .agg _, _, h, _ => by simp [AV.noref] at h
  | .tup _, _, h, _ => by simp [AV.noref] at h
  | .fn _ _ _, _, h, _ => by simp [AV.noref] at h
theorem CRel.keepT {E E' : Env} (hX : ∀ b, b < E.w.heap.size → ¬ E.X b → ¬ E'.X b ∧ ∀ o, E'.w.cell? ⟨b, o, none⟩ = E.w.cell? ⟨b, o, none⟩) : ∀ (cs : List AV) (b o : Nat), (∀ o, E'.w.cell? ⟨b, o, none⟩ = E.w.cell? ⟨b, o, none⟩) → CRel E cs b o → CRel E' cs b o
  | [], _, _, _, _ => trivial
  | c :: cs, b, o, hc, hr => by
    simp only [CRel] at hr ⊢
    obtain ⟨⟨h1, v, h2, h3⟩, h4⟩ := hr
    exact ⟨⟨h1, v, (hc o).trans h2, VRel.keepT hX c v (AV.tree_noref h1) h3⟩, CRel.keepT hX cs b (o + 1) hc h4⟩
end

/-! ### The callee's environment -/
def inEnv (E : Env) (objs fzs : List Nat) (H0 : List AObj) : Env :=
  ⟨fun b => E.F b ∨ ∃ i, i ∉ objs ∧ i ∉ fzs ∧ E.mutAt i b, H0, objs.map fun i => (E.ρ[i]?).join, E.w⟩

theorem join_get {ρ : List (Option (Nat × Nat))} {i : Nat} (h : i < ρ.length) : ρ[i]? = some ((ρ[i]?).join) := by
  rw [List.getElem?_eq_getElem h]; rfl

structure InOk (E : Env) (objs fzs : List Nat) (H0 : List AObj) : Prop where
  nodup : objs.Nodup
  apart : ∀ i ∈ fzs, i ∉ objs
  len : H0.length = objs.length
  body : ∀ (k i : Nat), objs[k]? = some i → ∃ o b, E.H[i]? = some o ∧ passBody E.H objs fzs o.body = some b ∧ H0[k]? = some ⟨0, b⟩

theorem passObjs_ok {H : List AObj} {objs fzs : List Nat} : ∀ {l : List Nat} {H0 : List AObj}, passObjs H objs fzs l = some H0 →
    H0.length = l.length ∧ ∀ (k i : Nat), l[k]? = some i → ∃ o b, H[i]? = some o ∧ passBody H objs fzs o.body = some b ∧ H0[k]? = some ⟨0, b⟩
  | [], H0, h => by simp only [passObjs, Option.some.injEq] at h; subst h; exact ⟨rfl, fun k i h => by simp at h⟩
  | j :: l, H0, h => by
    simp only [passObjs] at h
    split at h
    · rename_i o ho
      split at h
      · rename_i b l' hb hl'
        cases h
        obtain ⟨h1, h2⟩ := passObjs_ok hl'
        refine ⟨by simp [h1], fun k i hk => ?_⟩
        cases k with
        | zero => simp at hk; subst hk; exact ⟨o, b, ho, hb, rfl⟩
        | succ k => exact h2 k i (by simpa using hk)
      · cases h
    · cases h

theorem idx_some {objs : List Nat} {i k : Nat} (h : objs.idxOf? i = some k) : objs[k]? = some i := by
  rw [List.idxOf?_eq_some_iff] at h
  obtain ⟨h1, h2, _⟩ := h
  rw [List.getElem?_eq_getElem h1, h2]
theorem idx_none {objs : List Nat} {i : Nat} (h : objs.idxOf? i = none) : i ∉ objs := by
  simpa using h
theorem idx_inj {objs : List Nat} (hn : objs.Nodup) {i j k : Nat} (h1 : objs[j]? = some i) (h2 : objs[k]? = some i) : j = k := by
  exact (List.getElem?_inj (List.getElem?_eq_some_iff.1 h1).1 hn).1 (h1.trans h2.symm)

section
variable {objs fzs : List Nat} {H0 : List AObj}

theorem in_ρ (hw : WRel E) (hk : InOk E objs fzs H0) {k i : Nat} (h : objs[k]? = some i) : (inEnv E objs fzs H0).ρ[k]? = E.ρ[i]? := by
  obtain ⟨o, b, h1, _⟩ := hk.body k i h
  have hlt : i < E.ρ.length := by rw [hw.len]; exact (List.getElem?_eq_some_iff.1 h1).1
  simp only [inEnv, List.getElem?_map, h, Option.map_some]
  exact (join_get hlt).symm

theorem passBody_mut {H : List AObj} {b b' : ABody} (h : passBody H objs fzs b = some b') : b'.isMut = b.isMut ∧ sameShape b b' := by
  cases b with
  | none => simp [passBody] at h
  | var cs =>
    simp only [passBody] at h
    obtain ⟨l, hl, rfl⟩ := Option.map_eq_some_iff.1 h
    exact ⟨rfl, (mapO_len hl).symm⟩
  | row m s cs => simp only [passBody, Option.some.injEq] at h; subst h; exact ⟨rfl, rfl, rfl⟩

theorem in_mut (hw : WRel E) (hk : InOk E objs fzs H0) {k b : Nat} (h : (inEnv E objs fzs H0).mutAt k b) : ∃ i, objs[k]? = some i ∧ E.mutAt i b := by
  obtain ⟨o, base, h1, h2, h3⟩ := h
  have hlt : k < objs.length := by rw [← hk.len]; exact (List.getElem?_eq_some_iff.1 h1).1
  obtain ⟨o', b', h4, h5, h6⟩ := hk.body k _ (List.getElem?_eq_getElem hlt)
  have h1' : H0[k]? = some o := h1
  rw [h6] at h1'
  cases h1'
  refine ⟨objs[k], List.getElem?_eq_getElem hlt, o', base, h4, ?_, ?_⟩
  · rw [← (passBody_mut h5).1]; exact h2
  · rw [← in_ρ hw hk (List.getElem?_eq_getElem hlt)]; exact h3
theorem mut_in (hw : WRel E) (hk : InOk E objs fzs H0) {k i b : Nat} (hi : objs[k]? = some i) (h : E.mutAt i b) : (inEnv E objs fzs H0).mutAt k b := by
  obtain ⟨o, base, h1, h2, h3⟩ := h
  obtain ⟨o', b', h4, h5, h6⟩ := hk.body k i hi
  rw [h1] at h4
  cases h4
  exact ⟨⟨0, b'⟩, base, h6, by rw [(passBody_mut h5).1]; exact h2, by rw [in_ρ hw hk hi]; exact h3⟩

theorem in_X (hw : WRel E) (hk : InOk E objs fzs H0) {b : Nat} (h : ¬ E.X b) : ¬ (inEnv E objs fzs H0).X b := by
  rintro ((h1 | ⟨i, _, _, h1⟩) | ⟨k, h1⟩)
  · exact h (.inl h1)
  · exact h (.inr ⟨i, h1⟩)
  · obtain ⟨i, _, h2⟩ := in_mut hw hk h1
    exact h (.inr ⟨i, h2⟩)
theorem in_keep (hw : WRel E) (hk : InOk E objs fzs H0) : ∀ b, b < E.w.heap.size → ¬ E.X b → ¬ (inEnv E objs fzs H0).X b ∧ ∀ o, (inEnv E objs fzs H0).w.cell? ⟨b, o, none⟩ = E.w.cell? ⟨b, o, none⟩ :=
  fun _ _ h => ⟨in_X hw hk h, fun _ => rfl⟩

/-- The block of an object that is told as it stands is nobody's in the callee. -/
theorem in_snap (hw : WRel E) (hk : InOk E objs fzs H0) {i b base : Nat} {q : AObj} (hq : E.H[i]? = some q) (hρ : E.ρ[i]? = some (some (b, base))) (hi : i ∈ fzs) (hb : q.body.isMut = true ∨ ¬ E.X b) :
    ¬ (inEnv E objs fzs H0).X b := by
  rcases hb with hb | hb
  · have hm : E.mutAt i b := ⟨q, base, hq, hb, hρ⟩
    rintro ((h1 | ⟨j, _, h2, h1⟩) | ⟨k, h1⟩)
    · exact hw.fNot i b hm h1
    · exact h2 (by rw [← hw.inj i j b hm h1]; exact hi)
    · obtain ⟨j, h2, h3⟩ := in_mut hw hk h1
      have := hw.inj i j b hm h3
      subst this
      exact hk.apart i hi (List.mem_of_getElem? h2)
  · exact in_X hw hk hb

theorem passCell_rel (hw : WRel E) (hk : InOk E objs fzs H0) {a a' : AV} {v : Value} (h : passCell E.H objs fzs a = some a') (hv : VRel E a v) : VRel (inEnv E objs fzs H0) a' v ∧ (a.atom = true → a'.atom = true) := by
  cases a <;> simp only [passCell, reduceCtorEq, Option.some.injEq] at h
  case undef => subst h; exact ⟨trivial, id⟩
  case bool => subst h; exact ⟨VRel.keepT (in_keep hw hk) _ _ rfl hv, id⟩
  case int => subst h; exact ⟨VRel.keepT (in_keep hw hk) _ _ rfl hv, id⟩
  case str => subst h; exact ⟨VRel.keepT (in_keep hw hk) _ _ rfl hv, id⟩
  case nilptr => subst h; exact ⟨VRel.keepT (in_keep hw hk) _ _ rfl hv, id⟩
  case nilfn => subst h; exact ⟨VRel.keepT (in_keep hw hk) _ _ rfl hv, id⟩
  case emp => subst h; exact ⟨VRel.keepT (in_keep hw hk) _ _ rfl hv, id⟩
  case ro => subst h; exact ⟨VRel.keepT (in_keep hw hk) _ _ rfl hv, id⟩
  case rptr => subst h; exact ⟨VRel.keepT (in_keep hw hk) _ _ rfl hv, id⟩
  case nilsl =>
    subst h
    refine ⟨?_, fun _ => rfl⟩
    simp only [VRel] at hv ⊢
    exact ⟨none, 0, hv, Nat.le_refl _, fun h => by omega, .inl trivial⟩
  case own i ver off len sz =>
    split at h
    · rename_i k hidx
      have hki := idx_some hidx
      split at h
      · rename_i o ho
        split at h
        · rename_i hver
          cases h
          refine ⟨?_, fun _ => rfl⟩
          obtain ⟨o', b', h4, h5, h6⟩ := hk.body k i hki
          rw [ho] at h4
          cases h4
          simp only [VRel] at hv ⊢
          obtain ⟨ad, cap, rfl, hle, h7, q, hq, hvq, hf⟩ := hv
          rw [ho] at hq
          cases hq
          have hf := hf hver.symm
          refine ⟨ad, cap, rfl, hle, h7, ⟨0, b'⟩, h6, Nat.le_refl _, fun _ => ?_⟩
          have hρ := in_ρ hw hk hki
          have hpl : PlacedS E i off cap sz ad → PlacedS (inEnv E objs fzs H0) k off cap sz ad := by
            rintro ⟨b, base, p1, p2, p3⟩
            exact ⟨b, base, hρ.trans p1, p2, p3⟩
          have hsh := (passBody_mut h5).2
          cases hb : o.body with
          | none => rw [hb] at hf; exact hf.elim
          | var cs =>
            rw [hb] at hf hsh
            cases hb' : b' <;> rw [hb'] at hsh <;> simp only [sameShape] at hsh
            exact ⟨by omega, hpl hf.2⟩
          | row m s cs =>
            rw [hb] at hf hsh
            cases hb' : b' <;> rw [hb'] at hsh <;> simp only [sameShape] at hsh
            refine ⟨by omega, ?_⟩
            rcases hf.2 with h | ⟨h1, h2, h3, h4⟩
            · exact .inl (hpl h)
            · refine .inr ⟨?_, hρ.trans h2, h3, h4⟩
              have := hsh.2
              rw [h1] at this
              exact List.length_eq_zero_iff.1 this.symm
        · cases h
      · cases h
    · rename_i hidx
      split at h
      · rename_i hi
        have hi : i ∈ fzs := by simpa using hi
        split at h
        · rename_i cs hoc
          split at h
          · rename_i hle
            split at h
            · rename_i htr
              cases h
              refine ⟨?_, fun _ => rfl⟩
              obtain ⟨ad, cap, rfl, hlc, _, hpl⟩ := ORel.cells hw (by simpa only [VRel] using hv) hoc
              obtain ⟨q, hq, hqv, hqb, _⟩ := objCells_rel hw hoc
              simp only [VRel]
              refine ⟨ad, cap, rfl, hlc, ?_, ?_⟩
              · rcases hpl with ⟨rfl, _, rfl, rfl, _⟩ | ⟨b, base, _, rfl, _⟩
                · intro h; omega
                · intro _; rfl
              · rcases hpl with ⟨rfl, _⟩ | ⟨b, base, hρ, rfl, _, _, hvc, hvd⟩
                · exact .inl (by simp)
                · refine .inr ⟨b, base + off, rfl, in_snap hw hk hq hρ hi ?_, ?_⟩
                  · cases hb : q.body with
                    | none => rw [hb] at hqb; cases hqb
                    | var _ => exact .inl rfl
                    | row m s ds =>
                      cases m with
                      | true => exact .inl rfl
                      | false =>
                        have := hw.obj i q hq
                        unfold ObjRel at this
                        rw [hb] at this
                        rcases this with ⟨_, h2⟩ | ⟨b', base', h1, _, _, h4⟩
                        · rw [hρ] at h2; cases h2
                        · rw [hρ] at h1; cases h1; exact .inr (h4 rfl)
                  · exact CRel.keepT (in_keep hw hk) _ b (base + off) (fun _ => rfl) ((hvd.take _).toC htr)
            · cases h
          · cases h
        · cases h
      · cases h
  case ptr i ver off =>
    split at h
    · rename_i k hidx
      have hki := idx_some hidx
      split at h
      · rename_i o ho
        split at h
        · rename_i hver
          cases h
          refine ⟨?_, fun _ => rfl⟩
          obtain ⟨o', b', h4, h5, h6⟩ := hk.body k i hki
          rw [ho] at h4
          cases h4
          simp only [VRel] at hv ⊢
          obtain ⟨ad, rfl, q, hq, hvq, hf⟩ := hv
          rw [ho] at hq
          cases hq
          obtain ⟨b, base, p1, p2⟩ := hf hver.symm
          exact ⟨ad, rfl, ⟨0, b'⟩, h6, Nat.le_refl _, fun _ => ⟨b, base, (in_ρ hw hk hki).trans p1, p2⟩⟩
        · cases h
      · cases h
    · cases h

theorem passCells_rel (hw : WRel E) (hk : InOk E objs fzs H0) : ∀ {cs cs' : List AV} {vs : List Value}, mapO (passCell E.H objs fzs) cs = some cs' → LRel E cs vs → LRel (inEnv E objs fzs H0) cs' vs
  | [], cs', vs, h, hr => by simp only [mapO, Option.some.injEq] at h; subst h; exact hr
  | c :: cs, cs', vs, h, hr => by
    simp only [LRel] at hr
    obtain ⟨v, r, rfl, h1, h2⟩ := hr
    simp only [mapO] at h
    split at h
    · rename_i b hb
      obtain ⟨l, hl, rfl⟩ := Option.map_eq_some_iff.1 h
      exact ⟨v, r, rfl, (passCell_rel hw hk hb h1).1, passCells_rel hw hk hl h2⟩
    · cases h
theorem passV_rel (hw : WRel E) (hk : InOk E objs fzs H0) {a a' : AV} {v : Value} (h : passV E.H objs fzs a = some a') (hv : VRel E a v) : VRel (inEnv E objs fzs H0) a' v := by
  cases a with
  | agg cs =>
    simp only [passV] at h
    obtain ⟨l, hl, rfl⟩ := Option.map_eq_some_iff.1 h
    simp only [VRel] at hv ⊢
    obtain ⟨arr, rfl, hv⟩ := hv
    exact ⟨arr, rfl, passCells_rel hw hk hl hv⟩
  | fn f xs ys =>
    simp only [passV] at h
    split at h
    · rename_i x y hx hy
      cases h
      simp only [VRel] at hv ⊢
      obtain ⟨a1, a2, rfl, h1, h2⟩ := hv
      exact ⟨a1, a2, rfl, passCells_rel hw hk hx h1, passCells_rel hw hk hy h2⟩
    · cases h
  | _ => exact (passCell_rel hw hk (by simpa only [passV] using h) hv).1
theorem passVs_rel (hw : WRel E) (hk : InOk E objs fzs H0) : ∀ {cs cs' : List AV} {vs : List Value}, mapO (passV E.H objs fzs) cs = some cs' → LRel E cs vs → LRel (inEnv E objs fzs H0) cs' vs
  | [], cs', vs, h, hr => by simp only [mapO, Option.some.injEq] at h; subst h; exact hr
  | c :: cs, cs', vs, h, hr => by
    simp only [LRel] at hr
    obtain ⟨v, r, rfl, h1, h2⟩ := hr
    simp only [mapO] at h
    split at h
    · rename_i b hb
      obtain ⟨l, hl, rfl⟩ := Option.map_eq_some_iff.1 h
      exact ⟨v, r, rfl, passV_rel hw hk hb h1, passVs_rel hw hk hl h2⟩
    · cases h
theorem passVC_rel (hw : WRel E) (hk : InOk E objs fzs H0) : ∀ {cs cs' : List AV} {b o : Nat}, mapO (passCell E.H objs fzs) cs = some cs' → VCells E cs b o → VCells (inEnv E objs fzs H0) cs' b o
  | [], cs', b, o, h, _ => by simp only [mapO, Option.some.injEq] at h; subst h; exact fun j c hj => by simp at hj
  | c :: cs, cs', b, o, h, hr => by
    simp only [mapO] at h
    split at h
    · rename_i c' hb
      obtain ⟨l, hl, rfl⟩ := Option.map_eq_some_iff.1 h
      have hrest := passVC_rel (b := b) (o := o + 1) hw hk hl (fun j x hj => by
        have := hr (j + 1) x (by simpa using hj)
        rwa [show o + (j + 1) = o + 1 + j by omega] at this)
      intro j x hj
      cases j with
      | zero =>
        simp at hj; subst hj
        obtain ⟨h1, v, h2, h3⟩ := hr 0 c rfl
        have := passCell_rel hw hk hb h3
        exact ⟨this.2 h1, v, h2, this.1⟩
      | succ j =>
        have := hrest j x (by simpa using hj)
        rwa [show o + 1 + j = o + (j + 1) by omega] at this
    · cases h

theorem in_wrel (hw : WRel E) (hk : InOk E objs fzs H0) : WRel (inEnv E objs fzs H0) where
  len := by simp [inEnv, hk.len]
  obj k q hq := by
    have hlt : k < objs.length := by rw [← hk.len]; exact (List.getElem?_eq_some_iff.1 hq).1
    have hki := List.getElem?_eq_getElem hlt
    obtain ⟨o, b', h4, h5, h6⟩ := hk.body k _ hki
    have hq' : H0[k]? = some q := hq
    rw [h6] at hq'
    cases hq'
    have hold := hw.obj _ o h4
    have hρ := in_ρ hw hk hki
    unfold ObjRel at hold ⊢
    cases hb : o.body with
    | none => rw [hb] at h5; simp [passBody] at h5
    | var cs =>
      rw [hb] at h5 hold
      simp only [passBody] at h5
      obtain ⟨l, hl, rfl⟩ := Option.map_eq_some_iff.1 h5
      obtain ⟨b, base, h1, h2, h3⟩ := hold
      exact ⟨b, base, hρ.trans h1, by rw [mapO_len hl]; exact h2, passVC_rel hw hk hl h3⟩
    | row m s cs =>
      rw [hb] at h5 hold
      simp only [passBody, Option.some.injEq] at h5
      subst h5
      rcases hold with ⟨h1, h2⟩ | ⟨b, base, h1, h2, h3, h7⟩
      · exact .inl ⟨h1, hρ.trans h2⟩
      · exact .inr ⟨b, base, hρ.trans h1, h2, CRel.keepT (in_keep hw hk) cs b base (fun _ => rfl) h3, fun hm => in_X hw hk (h7 hm)⟩
  inj j k b hj hk' := by
    obtain ⟨i1, a1, b1⟩ := in_mut hw hk hj
    obtain ⟨i2, a2, b2⟩ := in_mut hw hk hk'
    have := hw.inj i1 i2 b b1 b2
    subst this
    exact idx_inj hk.nodup a1 a2
  fNot k b hm := by
    obtain ⟨i, h1, h2⟩ := in_mut hw hk hm
    rintro (h | ⟨j, h3, _, h4⟩)
    · exact hw.fNot i b h2 h
    · have := hw.inj i j b h2 h4
      subst this
      exact h3 (List.mem_of_getElem? h1)
  fOld b hF := by
    rcases hF with h | ⟨j, _, _, q, base, h1, h2, h3⟩
    · exact hw.fOld b h
    · exact hw.block_lt h1 h2 h3
end

end Go.Ev
