/- Calls: the caller's environment behind the call. -/
import Derived.Test.YtfodjphcngidbaaEvBack
set_option linter.unusedSimpArgs false
set_option linter.unusedVariables false
namespace Go.Ev
variable {P : Program} {E E1 Ef : Env} {objs fzs : List Nat} {H0 : List AObj} {ret : List (Nat × Nat)} {ups ads : List (Nat × AObj)} {frz : Bool}

section

theorem bk_fm (B : Bk E Ef E1 objs fzs H0 ret ups ads frz) {i b : Nat} (h : E.mutAt i b) (hi : i ∉ fzs) : Ef.mutAt i b := by
  obtain ⟨q, base, h1, h2, h3⟩ := h
  exact ⟨q, base, by rw [B.Hf i hi]; exact h1, h2, by rw [B.Fρ]; exact h3⟩

theorem bk_in0 (B : Bk E Ef E1 objs fzs H0 ret ups ads frz) {b : Nat} (h : ¬ Ef.Mut b) : ¬ (inEnv E objs fzs H0).Mut b := by
  rintro ⟨k, hk⟩
  obtain ⟨i, h1, h2⟩ := in_mut B.hw B.hin hk
  exact h ⟨i, bk_fm B h2 fun hf => B.hin.apart i hf (List.mem_of_getElem? h1)⟩

theorem bk_step' (B : Bk E Ef E1 objs fzs H0 ret ups ads frz) : Step Ef (bkEnv E Ef E1 objs ret ups ads) where
  F := B.hEf.F.symm ▸ rfl
  w := by
    refine ⟨by rw [B.Fw]; exact B.s1.w.os, by rw [B.Fw]; exact B.s1.w.tape, by rw [B.Fw]; exact B.s1.w.output, by rw [B.Fw]; exact B.s1.w.size, fun b hb hn => ?_, fun b arr e f h => B.s1.w.blk b arr e f (by rw [B.Fw] at h; exact h)⟩
    rw [B.Fw] at hb ⊢
    obtain ⟨h1, h2⟩ := B.s1.w.keep b hb (bk_in0 B hn)
    refine ⟨h1, fun ⟨i, hm⟩ => ?_⟩
    rcases bk_mut B hm with ⟨k, _, hk⟩ | ⟨k, _, hk⟩ | ⟨_, _, h5⟩
    · exact h2 ⟨k, hk⟩
    · exact h2 ⟨k, hk⟩
    · exact hn ⟨i, h5⟩
  obj i o ho := by
    by_cases hf : i ∈ fzs
    · have hi : i ∉ objs := fun h => B.hin.apart i hf h
      have hr : i ∉ ret.map (·.2) := fun h => by
        obtain ⟨p, hp, rfl⟩ := List.mem_map.1 h
        exact (B.rapart p hp).2.1 hf
      obtain ⟨a1, a2⟩ := bk_oth B hi hr
      exact ⟨o, a1.trans ho, Nat.le_refl _, fun _ => ⟨.refl _, by rw [a2, B.Fρ]⟩⟩
    · rw [B.Hf i hf] at ho
      obtain ⟨o', h1, h2, h3⟩ := (bk_step B).obj i o ho
      exact ⟨o', h1, h2, fun e => ⟨(h3 e).1, by rw [(h3 e).2, B.Fρ]⟩⟩

theorem bk_tree (B : Bk E Ef E1 objs fzs H0 ret ups ads frz) {c : AV} {v : Value} (ht : c.tree = true) (hg : frz = true ∨ c.flat1 = true) (hv : VRel E1 c v) : VRel (bkEnv E Ef E1 objs ret ups ads) c v := by
  cases c <;> simp only [AV.tree, Bool.false_eq_true] at ht
  case ro n cs =>
    exact (backCell_rel B (a := .ro n cs) (a' := .ro n cs) rfl hv hg).1
  case nilsl => simp only [VRel] at hv ⊢; exact hv
  all_goals (simp only [VRel] at hv ⊢; exact hv)

theorem bk_crel (B : Bk E Ef E1 objs fzs H0 ret ups ads frz) {cs : List AV} {b o : Nat} (hg : frz = true ∨ cs.all AV.flat1 = true) (h : CRel E1 cs b o) : CRel (bkEnv E Ef E1 objs ret ups ads) cs b o :=
  CRel.of fun j c hj => by
    obtain ⟨h1, v, h2, h3⟩ := h.get j c hj
    exact ⟨h1, v, h2, bk_tree B h1 (hg.imp id fun h => all_get h hj) h3⟩

theorem backVC_rel (B : Bk E Ef E1 objs fzs H0 ret ups ads frz) : ∀ {cs cs' : List AV} {b o : Nat}, mapO (backCell E.H E1.H objs ret) cs = some cs' → (frz = true ∨ cs.all AV.flat1 = true) → VCells E1 cs b o → VCells (bkEnv E Ef E1 objs ret ups ads) cs' b o
  | [], cs', b, o, h, _, _ => by simp only [mapO, Option.some.injEq] at h; subst h; exact fun j c hj => by simp at hj
  | c :: cs, cs', b, o, h, hg, hr => by
    simp only [mapO] at h
    split at h
    · rename_i c' hb
      obtain ⟨l, hl, rfl⟩ := Option.map_eq_some_iff.1 h
      have hg1 : frz = true ∨ c.flat1 = true := hg.imp id fun h => by simp only [List.all_cons, Bool.and_eq_true] at h; exact h.1
      have hg2 : frz = true ∨ cs.all AV.flat1 = true := hg.imp id fun h => by simp only [List.all_cons, Bool.and_eq_true] at h; exact h.2
      have hrest := backVC_rel B (b := b) (o := o + 1) hl hg2 (fun j x hj => by
        have := hr (j + 1) x (by simpa using hj)
        rwa [show o + (j + 1) = o + 1 + j by omega] at this)
      intro j x hj
      cases j with
      | zero =>
        simp at hj; subst hj
        obtain ⟨h1, v, h2, h3⟩ := hr 0 c rfl
        have := backCell_rel B hb h3 hg1
        exact ⟨this.2 h1, v, h2, this.1⟩
      | succ j =>
        have := hrest j x (by simpa using hj)
        rwa [show o + 1 + j = o + (j + 1) by omega] at this
    · cases h

theorem backCells_rel (B : Bk E Ef E1 objs fzs H0 ret ups ads frz) : ∀ {cs cs' : List AV} {vs : List Value}, mapO (backCell E.H E1.H objs ret) cs = some cs' → (frz = true ∨ cs.all AV.flat1 = true) → LRel E1 cs vs → LRel (bkEnv E Ef E1 objs ret ups ads) cs' vs
  | [], cs', vs, h, _, hr => by simp only [mapO, Option.some.injEq] at h; subst h; exact hr
  | c :: cs, cs', vs, h, hg, hr => by
    simp only [LRel] at hr
    obtain ⟨v, r, rfl, h1, h2⟩ := hr
    simp only [mapO] at h
    split at h
    · rename_i b hb
      obtain ⟨l, hl, rfl⟩ := Option.map_eq_some_iff.1 h
      have hg1 : frz = true ∨ c.flat1 = true := hg.imp id fun h => by simp only [List.all_cons, Bool.and_eq_true] at h; exact h.1
      have hg2 : frz = true ∨ cs.all AV.flat1 = true := hg.imp id fun h => by simp only [List.all_cons, Bool.and_eq_true] at h; exact h.2
      exact ⟨v, r, rfl, (backCell_rel B hb h1 hg1).1, backCells_rel B hl hg2 h2⟩
    · cases h

def flatV : AV → Bool
  | .agg cs => cs.all AV.flat1
  | a => a.flat1
theorem flat_tup {vs : List AV} (h : (AV.tup vs).flat = true) : vs.all flatV = true := by
  simp only [AV.flat] at h
  refine List.all_eq_true.2 fun a ha => ?_
  have := List.all_eq_true.1 h a ha
  cases a <;> simpa [flatV] using this

theorem backV_rel (B : Bk E Ef E1 objs fzs H0 ret ups ads frz) {a a' : AV} {v : Value} (h : backV E.H E1.H objs ret a = some a') (hg : frz = true ∨ flatV a = true) (hv : VRel E1 a v) : VRel (bkEnv E Ef E1 objs ret ups ads) a' v := by
  cases a with
  | agg cs =>
    simp only [backV] at h
    obtain ⟨l, hl, rfl⟩ := Option.map_eq_some_iff.1 h
    simp only [VRel] at hv ⊢
    obtain ⟨arr, rfl, hv⟩ := hv
    exact ⟨arr, rfl, backCells_rel B hl (by simpa only [flatV] using hg) hv⟩
  | _ => exact (backCell_rel B (by simpa only [backV] using h) hv (by simpa only [flatV] using hg)).1
theorem backVs_rel (B : Bk E Ef E1 objs fzs H0 ret ups ads frz) : ∀ {cs cs' : List AV} {vs : List Value}, mapO (backV E.H E1.H objs ret) cs = some cs' → (frz = true ∨ cs.all flatV = true) → LRel E1 cs vs → LRel (bkEnv E Ef E1 objs ret ups ads) cs' vs
  | [], cs', vs, h, _, hr => by simp only [mapO, Option.some.injEq] at h; subst h; exact hr
  | c :: cs, cs', vs, h, hg, hr => by
    simp only [LRel] at hr
    obtain ⟨v, r, rfl, h1, h2⟩ := hr
    simp only [mapO] at h
    split at h
    · rename_i b hb
      obtain ⟨l, hl, rfl⟩ := Option.map_eq_some_iff.1 h
      have hg1 : frz = true ∨ flatV c = true := hg.imp id fun h => by simp only [List.all_cons, Bool.and_eq_true] at h; exact h.1
      have hg2 : frz = true ∨ cs.all flatV = true := hg.imp id fun h => by simp only [List.all_cons, Bool.and_eq_true] at h; exact h.2
      exact ⟨v, r, rfl, backV_rel B hb hg1 h1, backVs_rel B hl hg2 h2⟩
    · cases h
theorem backR_rel (B : Bk E Ef E1 objs fzs H0 ret ups ads frz) {a a' : AV} {v : Value} (h : backR E.H E1.H objs ret a = some a') (hg : frz = true ∨ a.flat = true) (hv : VRel E1 a v) : VRel (bkEnv E Ef E1 objs ret ups ads) a' v := by
  cases a with
  | tup vs =>
    simp only [backR] at h
    obtain ⟨l, hl, rfl⟩ := Option.map_eq_some_iff.1 h
    simp only [VRel] at hv ⊢
    obtain ⟨arr, rfl, hv⟩ := hv
    exact ⟨arr, rfl, backVs_rel B hl (hg.imp id flat_tup) hv⟩
  | agg cs => exact backV_rel B (by simpa only [backR] using h) (by simpa only [AV.flat, flatV] using hg) hv
  | _ => exact backV_rel B (by simpa only [backR] using h) (by simpa only [AV.flat, flatV] using hg) hv

theorem bk_wrel (B : Bk E Ef E1 objs fzs H0 ret ups ads frz) (hfl : frz = true ∨ ∀ k o, k < objs.length → E1.H[k]? = some o → bodyFlat o.body = true) : WRel (bkEnv E Ef E1 objs ret ups ads) where
  len := by simp [bkEnv, backρ, layAll_len, bk_len B, B.hw.len]
  obj i q hq := by
    by_cases hi : i ∈ objs
    · obtain ⟨k, hk⟩ := List.mem_iff_getElem?.1 hi
      obtain ⟨oi, o, b', a1, a2, a3, a4, a5⟩ := bk_obj B hk
      rw [a4] at hq
      cases hq
      have hold := B.h1.obj k o a2
      have hflk : frz = true ∨ bodyFlat o.body = true := hfl.imp id fun h => h k o (List.getElem?_eq_some_iff.1 hk).1 a2
      unfold ObjRel at hold ⊢
      cases hb : o.body with
      | none => rw [hb] at a3; simp [backBody] at a3
      | var cs =>
        rw [hb] at a3 hold hflk
        simp only [backBody] at a3
        obtain ⟨l, hl, rfl⟩ := Option.map_eq_some_iff.1 a3
        obtain ⟨b, base, h1, h2, h3⟩ := hold
        exact ⟨b, base, a5.trans h1, by rw [mapO_len hl]; exact h2, backVC_rel B hl (by simpa only [bodyFlat] using hflk) h3⟩
      | row m s cs =>
        rw [hb] at a3 hold hflk
        simp only [backBody, Option.some.injEq] at a3
        subst a3
        simp only [bodyFlat, Bool.and_eq_true] at hflk
        rcases hold with ⟨h1, h2⟩ | ⟨b, base, h1, h2, h3, h4⟩
        · exact .inl ⟨h1, a5.trans h2⟩
        · refine .inr ⟨b, base, a5.trans h1, h2, bk_crel B (hflk.imp id And.right) h3, fun hm => ?_⟩
          rcases hflk with hz | hz
          · exact bk_X B hz (h4 hm)
          · rw [hm] at hz; cases hz.1
    · by_cases hr : i ∈ ret.map (·.2)
      · obtain ⟨p, hp, rfl⟩ := List.mem_map.1 hr
        obtain ⟨v, m, sz, cs, ot, a1, a2, a3, a4⟩ := bk_ret B (k := p.1) (t := p.2) hp
        rw [a3] at hq
        cases hq
        have hz : frz = true := by
          cases frz with
          | true => rfl
          | false => rw [B.Hnf rfl] at hp; cases hp
        have hold := B.h1.obj p.1 _ a1
        unfold ObjRel at hold ⊢
        simp only at hold ⊢
        rcases hold with ⟨h1, h2⟩ | ⟨b, base, h1, h2, h3, h4⟩
        · exact .inl ⟨h1, a4.trans h2⟩
        · exact .inr ⟨b, base, a4.trans h1, h2, bk_crel B (.inl hz) h3, fun hm => bk_X B hz (h4 hm)⟩
      · obtain ⟨a1, a2⟩ := bk_oth B hi hr
        rw [a1] at hq
        have hold := B.hf.obj i q hq
        have hst := bk_step' B
        have hρ : (bkEnv E Ef E1 objs ret ups ads).ρ[i]? = Ef.ρ[i]? := by rw [a2, B.Fρ]
        have hkeep : ∀ b base, Ef.ρ[i]? = some (some (b, base)) → (q.body.isMut = true ∨ ¬ Ef.X b) → b < Ef.w.heap.size → ∀ x, (bkEnv E Ef E1 objs ret ups ads).w.cell? ⟨b, x, none⟩ = Ef.w.cell? ⟨b, x, none⟩ := by
          intro b base h1 h2 h3 x
          rw [B.Fw] at h3 ⊢
          refine cell?_of_heap (B.s1.w.keep b h3 ?_).1 x
          rintro ⟨k, hk⟩
          obtain ⟨j, c1, c2⟩ := in_mut B.hw B.hin hk
          have hj : Ef.mutAt j b := bk_fm B c2 fun hf => B.hin.apart j hf (List.mem_of_getElem? c1)
          rcases h2 with h2 | h2
          · have := B.hf.inj i j b ⟨q, base, hq, h2, h1⟩ hj
            subst this
            exact hi (List.mem_of_getElem? c1)
          · exact h2 (.inr ⟨j, hj⟩)
        unfold ObjRel at hold ⊢
        cases hb : q.body with
        | none => trivial
        | var cs =>
          rw [hb] at hold
          obtain ⟨b, base, h1, h2, h3⟩ := hold
          exact ⟨b, base, hρ.trans h1, h2.mono hst.w, h3.keeps hst.keeps (hkeep b base h1 (.inl (by rw [hb]; rfl)) h2.lt)⟩
        | row m s cs =>
          rw [hb] at hold
          rcases hold with ⟨h1, h2⟩ | ⟨b, base, h1, h2, h3, h4⟩
          · exact .inl ⟨h1, hρ.trans h2⟩
          · refine .inr ⟨b, base, hρ.trans h1, h2.mono hst.w, CRel.keeps hst.keeps cs b base (hkeep b base h1 ?_ h2.lt) h3, fun hm => (hst.x h2.lt (h4 hm)).1⟩
            cases m with
            | true => exact .inl (by rw [hb]; rfl)
            | false => exact .inr (h4 rfl)
  inj i j b hi hj := by
    rcases bk_mut B hi with ⟨k, c1, c2⟩ | ⟨k, c1, c2⟩ | ⟨c1, c2, c3⟩ <;> rcases bk_mut B hj with ⟨k', d1, d2⟩ | ⟨k', d1, d2⟩ | ⟨d1, d2, d3⟩
    · have := B.h1.inj k k' b c2 d2
      subst this
      rw [c1] at d1; exact Option.some.inj d1
    · have := B.h1.inj k k' b c2 d2
      subst this
      have h1 := (List.getElem?_eq_some_iff.1 c1).1
      have h2 := (B.rapart _ d1).2.2
      simp only at h2
      omega
    · exact absurd ⟨k, c2⟩ (bk_alien B (B.Fm _ _ d3) d1)
    · have := B.h1.inj k k' b c2 d2
      subst this
      have h1 := (List.getElem?_eq_some_iff.1 d1).1
      have h2 := (B.rapart _ c1).2.2
      simp only at h2
      omega
    · have := B.h1.inj k k' b c2 d2
      subst this
      have := nodup_inj1 B.rkeys c1 d1 rfl
      cases this
      rfl
    · exact absurd ⟨k, c2⟩ (bk_alien B (B.Fm _ _ d3) d1)
    · exact absurd ⟨k', d2⟩ (bk_alien B (B.Fm _ _ c3) c1)
    · exact absurd ⟨k', d2⟩ (bk_alien B (B.Fm _ _ c3) c1)
    · exact B.hf.inj i j b c3 d3
  fNot i b hm := by
    rcases bk_mut B hm with ⟨k, _, c2⟩ | ⟨k, _, c2⟩ | ⟨_, _, c3⟩
    · exact bk_nF B c2
    · exact bk_nF B c2
    · exact B.hw.fNot i b (B.Fm _ _ c3)
  fOld b hF := Nat.lt_of_lt_of_le (B.hw.fOld b hF) B.s1.w.size
end

end Go.Ev
