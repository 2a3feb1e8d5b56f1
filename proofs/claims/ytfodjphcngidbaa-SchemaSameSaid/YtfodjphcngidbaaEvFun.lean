/- Functions. -/
import Derived.Test.YtfodjphcngidbaaEvCode
set_option linter.unusedSimpArgs false
set_option linter.unusedVariables false
namespace Go.Ev
variable {P : Program} {E : Env} {cf : CallF}

/-! ### Where a function begins -/
def inFun (E : Env) (no : Nat) : Env := ⟨E.F, E.H ++ List.replicate no ⟨0, .none⟩, E.ρ ++ List.replicate no none, E.w⟩

theorem inFun_mut (hw : WRel E) {no i b : Nat} : (inFun E no).mutAt i b ↔ E.mutAt i b := by
  unfold Env.mutAt inFun
  by_cases hi : i < E.H.length
  · have hi' : i < E.ρ.length := by rw [hw.len]; exact hi
    simp only [List.getElem?_append_left hi, List.getElem?_append_left hi']
  · constructor
    · rintro ⟨o, base, h1, h2, h3⟩
      rw [List.getElem?_append_right (by omega)] at h1
      have := List.mem_of_getElem? h1
      rw [List.mem_replicate] at this
      rw [this.2] at h2
      cases h2
    · rintro ⟨o, base, h1, _⟩
      exact absurd (List.getElem?_eq_some_iff.1 h1).1 hi
theorem inFun_step (hw : WRel E) (no : Nat) : Step E (inFun E no) where
  F := rfl
  obj i o ho := by
    have hi := (List.getElem?_eq_some_iff.1 ho).1
    have hi' : i < E.ρ.length := by rw [hw.len]; exact hi
    exact ⟨o, by rw [← ho]; exact List.getElem?_append_left hi, Nat.le_refl _, fun _ => ⟨.refl _, List.getElem?_append_left hi'⟩⟩
  w := ⟨rfl, rfl, rfl, Nat.le_refl _, fun b _ hn => ⟨rfl, fun ⟨i, q⟩ => hn ⟨i, (inFun_mut hw).1 q⟩⟩, fun b arr e f h => ⟨arr, h, rfl⟩⟩
theorem inFun_wrel (hw : WRel E) (no : Nat) : WRel (inFun E no) where
  len := by simp [inFun, hw.len]
  obj i o ho := by
    by_cases hi : i < E.H.length
    · have hi' : i < E.ρ.length := by rw [hw.len]; exact hi
      have ho' : E.H[i]? = some o := by rw [← ho]; exact (List.getElem?_append_left hi).symm
      have hold := hw.obj i o ho'
      have hρ : (inFun E no).ρ[i]? = E.ρ[i]? := List.getElem?_append_left hi'
      have hst := inFun_step hw no
      unfold ObjRel at hold ⊢
      cases hb : o.body with
      | none => trivial
      | var cs =>
        rw [hb] at hold
        obtain ⟨b, base, h1, h2, h3⟩ := hold
        exact ⟨b, base, hρ.trans h1, h2, h3.keeps hst.keeps (fun _ => rfl)⟩
      | row m s cs =>
        rw [hb] at hold
        rcases hold with ⟨h1, h2⟩ | ⟨b, base, h1, h2, h3, h4⟩
        · exact .inl ⟨h1, hρ.trans h2⟩
        · exact .inr ⟨b, base, hρ.trans h1, h2, CRel.keeps hst.keeps cs b base (fun _ => rfl) h3, fun hm => (hst.x h2.lt (h4 hm)).1⟩
    · have ho' : (E.H ++ List.replicate no (⟨0, .none⟩ : AObj))[i]? = some o := ho
      rw [List.getElem?_append_right (by omega)] at ho'
      have := List.mem_of_getElem? ho'
      rw [List.mem_replicate] at this
      unfold ObjRel
      rw [this.2]
      trivial
  inj i j b hi hj := hw.inj i j b ((inFun_mut hw).1 hi) ((inFun_mut hw).1 hj)
  fNot i b hm := hw.fNot i b ((inFun_mut hw).1 hm)
  fOld := hw.fOld

theorem LRel.undefs (E : Env) : ∀ n, LRel E (List.replicate n (.tup [])) (List.replicate n undef)
  | 0 => rfl
  | n + 1 => ⟨undef, List.replicate n undef, rfl, undef_rel E, LRel.undefs E n⟩

/-! ### Results -/
theorem resV_run (hw : WRel E) {sl : List AV} {a : Act} (hs : ARel E sl a) {r : MRes} {x : AV} (h : resV ⟨sl, E.H⟩ r = some x) :
    match r with
    | .slot n => VRel E x (a.tmps.getD n undef)
    | .cell s _ k => ∀ t, loadB P k t = true → ∃ v, ((do loadVar t (← asAddr (a.tmps.getD s undef))) : Sem Value).run P E.w = .ok v E.w ∧ VRel E x v := by
  have hget : ∀ n, VRel E (sl.getD n .undef) (a.tmps.getD n undef) := fun n => by
    simp only [List.getD_eq_getElem?_getD]
    cases hg : sl[n]? with
    | none => trivial
    | some c =>
      obtain ⟨v, hv, hr⟩ := LRel.get hs n c hg
      have : a.tmps[n]? = some v := by simpa using hv
      simpa [this] using hr
  cases r with
  | slot n =>
    simp only [resV, Option.some.injEq] at h
    subst h
    exact hget n
  | cell s o k =>
    intro t ht
    have hx := hget s
    cases k with
    | none =>
      simp only [resV] at h
      obtain ⟨b, off, u, e1, _, hu, hr⟩ := load1_rel hw h hx
      refine ⟨u, ?_, hr⟩
      rw [e1]
      have := run_loadVar_one (P := P) (t := t) E.w ht hu
      simpa [asAddr] using this
    | some n =>
      simp only [resV] at h
      obtain ⟨cs, hl, rfl⟩ := Option.map_eq_some_iff.1 h
      simp only [loadB, Bool.and_eq_true, decide_eq_true_eq] at ht
      obtain ⟨b, off, e1, hv, hlen⟩ := loadCells_rel hw hl hx ht.2
      obtain ⟨vs, hr, hrange, _⟩ := hv.vals
      obtain ⟨d, hu, hd⟩ := aggB_row ht.1.1
      obtain ⟨i, hi, hisz⟩ := szB_info ht.1.2
      have := run_loadAt_mid (P := P) E.w b off t vs d hrange hu hd (by rw [hi]; simp [hisz, hr.length, hlen])
      refine ⟨.agg vs.toArray, ?_, ?_⟩
      · rw [e1]
        simpa [Instr.loadAt, Instr.sureAddr, asAddr] using this
      · simp only [VRel]
        exact ⟨_, rfl, by simpa using hr⟩

theorem resVs_run (hw : WRel E) {sl : List AV} {a : Act} (hs : ARel E sl a) :
    ∀ {rs : List MRes} {vars : List ResultVar} {xs : List AV}, chkRes P rs vars = true → resVs ⟨sl, E.H⟩ rs = some xs → ∃ vs, LRel E xs vs ∧ ∀ (f : ResultVar → Sem Value), (∀ u, f (.tmp u) = pure (a.tmps.getD u undef)) →
      (∀ s t, f (.cell s t) = (do loadVar t (← asAddr (a.tmps.getD s undef)))) → (vars.mapM f).run P E.w = .ok vs E.w
  | [], [], xs, _, h => by
    simp only [resVs, Option.some.injEq] at h
    subst h
    exact ⟨[], rfl, fun f _ _ => by simp⟩
  | [], _ :: _, _, hc, _ => by simp [chkRes] at hc
  | .slot _ :: _, [], _, hc, _ => by simp [chkRes] at hc
  | .cell _ _ _ :: _, [], _, hc, _ => by simp [chkRes] at hc
  | .slot n :: rs, .tmp t :: vars, xs, hc, h => by
    simp only [chkRes, Bool.and_eq_true, beq_iff_eq] at hc
    obtain ⟨rfl, hc⟩ := hc
    simp only [resVs] at h
    split at h
    · rename_i x l h1 h2
      cases h
      obtain ⟨vs, hl, hr⟩ := resVs_run hw hs hc h2
      have := resV_run (P := P) hw hs h1
      simp only at this
      exact ⟨_ :: vs, ⟨_, _, rfl, this, hl⟩, fun f hf1 hf2 => by simp [List.mapM_cons, hf1, hr f hf1 hf2]⟩
    · cases h
  | .slot n :: rs, .cell _ _ :: vars, xs, hc, h => by simp [chkRes] at hc
  | .cell n o k :: rs, .tmp _ :: vars, xs, hc, h => by simp [chkRes] at hc
  | .cell n o k :: rs, .cell t ty :: vars, xs, hc, h => by
    simp only [chkRes, Bool.and_eq_true, beq_iff_eq] at hc
    obtain ⟨⟨rfl, hld⟩, hc⟩ := hc
    simp only [resVs] at h
    split at h
    · rename_i x l h1 h2
      cases h
      obtain ⟨vs, hl, hr⟩ := resVs_run hw hs hc h2
      have := resV_run (P := P) hw hs h1
      simp only at this
      obtain ⟨v, hv, hvr⟩ := this ty hld
      refine ⟨v :: vs, ⟨_, _, rfl, hvr, hl⟩, fun f hf1 hf2 => ?_⟩
      rw [List.mapM_cons, hf2, Sem.run_bind, hv]
      simp [hr f hf1 hf2]
    · cases h

theorem results_run (hw : WRel E) {sl : List AV} {a : Act} (hs : ARel E sl a) {fn : Func} {rs : List MRes} (hc : chkRes P rs fn.results.toList = true) {x : AV} (h : results ⟨sl, E.H⟩ rs = some x) :
    ∃ v, (Go.results fn a.tmps).run P E.w = .ok v E.w ∧ VRel E x v := by
  unfold results at h
  have hm : ∀ f : ResultVar → Sem Value, fn.results.mapM f = List.toArray <$> fn.results.toList.mapM f := fun f => Array.mapM_eq_mapM_toList ..
  unfold Go.results
  split at h
  · rename_i y hy
    cases h
    obtain ⟨vs, hl, hr⟩ := resVs_run hw hs hc hy
    simp only [LRel] at hl
    obtain ⟨v, r, rfl, h1, rfl⟩ := hl
    refine ⟨v, ?_, h1⟩
    rw [hm]
    simp only [Sem.run_bind, Sem.run_map]
    rw [hr]
    · simp
    · intro u; rfl
    · intro s t; rfl
  · rename_i l hne hy
    cases h
    obtain ⟨vs, hl, hr⟩ := resVs_run hw hs hc hy
    refine ⟨.tuple vs.toArray, ?_, ?_⟩
    · rw [hm]
      have : vs.length ≠ 1 := by
        rw [hl.length]
        intro e
        obtain ⟨y, rfl⟩ := List.length_eq_one_iff.1 e
        exact hne y rfl
      simp only [Sem.run_bind, Sem.run_map]
      rw [hr]
      · simp [this]
      · intro u; rfl
      · intro s t; rfl
    · simp only [VRel]
      exact ⟨_, rfl, by simpa using hl⟩
  · cases h

/-! ### Functions -/
structure TabOk (P : Program) (M : Tab) : Prop where
  fn : ∀ f mf, M.fn f = some mf → ∃ fn, P.funcs[f]? = some fn ∧ chkFun P mf fn = true
  ext : CfSound P M.ext

theorem evalFun_sound {M : Tab} (hM : TabOk P M) : ∀ k, CfSound P (evalFun M k)
  | 0 => fun f args H r H1 h => by simp [evalFun] at h
  | k + 1 => fun f args H r H1 h => by
    simp only [evalFun] at h
    split at h
    · exact hM.ext f args H r H1 h
    · rename_i mf hmf
      obtain ⟨fn, hfn, hc⟩ := hM.fn f mf hmf
      simp only [chkFun, Bool.and_eq_true, bne_iff_ne, ne_eq, beq_iff_eq, decide_eq_true_eq] at hc
      obtain ⟨⟨⟨⟨hname, hnt⟩, hnp⟩, hres⟩, hbody⟩ := hc
      split at hbody
      · rename_i c hfb
        refine ⟨⟨fn, hfn, hname, by rw [hfb]; rfl⟩, fun E vals hw hH hargs => ?_⟩
        split at h
        · cases h
        · rename_i hlen
          have hlen : args.length = mf.np := by simpa using hlen
          subst hH
          have hsz : vals.size = args.length := by rw [← hargs.length]; simp
          have hw0 := inFun_wrel hw mf.no
          have hst0 := inFun_step hw mf.no
          have hs0 : ARel (inFun E mf.no) (args ++ List.replicate (mf.nt - args.length) (.tup [])) { tmps := vals ++ Array.replicate (fn.ntmps - vals.size) undef, defers := [] } := by
            unfold ARel
            simp only [Array.toList_append, Array.toList_replicate]
            rw [← hnt, hsz]
            exact (hargs.mono hst0).app (LRel.undefs _ _)
          refine calls_of_wp hfn hfb ?_
          have hgo : ∀ ex st', evalCode (evalFun M k) E.H.length k mf.body ⟨args ++ List.replicate (mf.nt - args.length) (.tup []), E.H ++ List.replicate mf.no ⟨0, .none⟩⟩ = some (ex, st') → (ex = .normal ∨ ex = .ret) →
              (results st' mf.res).map (fun r => (r, st'.H)) = some (r, H1) → c.wp P (bodyPost P fn (CfPost E r H1)) { tmps := vals ++ Array.replicate (fn.ntmps - vals.size) undef, defers := [] } (inFun E mf.no).w := by
            intro ex st' he hex hr
            obtain ⟨x, hx, hxe⟩ := Option.map_eq_some_iff.1 hr
            cases hxe
            refine code_sound (evalFun_sound hM k) E.H.length k mf.body c hbody hw0 hs0 he fun E' a' q1 q2 q3 q4 q5 => ?_
            have hst' : st' = ⟨st'.sl, E'.H⟩ := by rw [q1]
            rw [hst'] at hx
            obtain ⟨v, hv1, hv2⟩ := results_run q2 q3 hres hx
            have hstep : Step E E' := by
              refine ⟨q4.F, fun i o ho => ?_, ⟨q4.w.os, q4.w.tape, q4.w.output, q4.w.size, fun b hb hn => q4.w.keep b hb fun ⟨i, q⟩ => hn ⟨i, (inFun_mut hw).1 q⟩, q4.w.blk⟩⟩
              have hi := (List.getElem?_eq_some_iff.1 ho).1
              obtain ⟨o', h1, h2, h3⟩ := q4.obj i o hi (by rw [← ho]; exact List.getElem?_append_left hi)
              have hi' : i < E.ρ.length := by rw [hw.len]; exact hi
              exact ⟨o', h1, h2, fun e => ⟨(h3 e).1, (h3 e).2.trans (List.getElem?_append_left hi')⟩⟩
            have hpost : CfPost E r st'.H (.returned v) E'.w := ⟨v, rfl, E', rfl, q1, q2, hv2, hstep⟩
            rcases hex with rfl | rfl
            · exact ⟨q5, v, hv1, hpost⟩
            · exact ⟨q5, v, hv1, hpost⟩
          split at h
          · rename_i st' he
            exact hgo .normal st' he (.inl rfl) h
          · rename_i st' he
            exact hgo .ret st' he (.inr rfl) h
          · cases h
      · cases hbody

end Go.Ev
