/- The evaluator, its soundness (texts put together: EvBack2 EvStep EvComm EvAny EvReg EvCode EvFun). -/
import Derived.Test.YtpohmfihpnineaaEvGb
set_option linter.unusedSimpArgs false
set_option linter.unusedVariables false
section
namespace Go.Ev
variable {P : Program} {E E1 Ef : Env} {objs fzs : List Nat} {H0 : List AObj} {ret : List (Nat × Nat)} {ups ads : List (Nat × AObj)} {frz : Bool}

section

theorem bk_fm (B : Bk E Ef E1 objs fzs H0 ret ups ads frz) {i b : Nat} (h : E.mutAt i b) (hi : i ∉ fzs) : Ef.mutAt i b := by
  obtain ⟨q, base, h1, h2, h3⟩ := h
  exact ⟨q, base, by rw [B.Hf i hi]; exact h1, h2, by rw [B.Fρ]; exact h3⟩

theorem bk_in0 (B : Bk E Ef E1 objs fzs H0 ret ups ads frz) {b : Nat} (h : ¬ Ef.Mut b) : ¬ (inEnv E objs fzs H0).Mut b := by
  rintro ⟨k, hk⟩
  obtain ⟨i, h1, h2⟩ := in_mut B.hw B.hin hk
  exact h ⟨i, bk_fm B h2 fun hf => B.hin.apart i hf (List.mem_of_getElem? h1)⟩

theorem bk_step' (B : Bk E Ef E1 objs fzs H0 ret ups ads frz) : Step Ef (bkEnv E Ef E1 objs ret ups ads) where
  F := B.hEf.F.symm ▸ rfl
  w := by
    refine ⟨by rw [B.Fw]; exact B.s1.w.os, by rw [B.Fw]; exact B.s1.w.tape, by rw [B.Fw]; exact B.s1.w.output, by rw [B.Fw]; exact B.s1.w.size, fun b hb hn => ?_, fun b arr e f h => B.s1.w.blk b arr e f (by rw [B.Fw] at h; exact h), by rw [B.Fw]; exact B.s1.w.drawn⟩
    rw [B.Fw] at hb ⊢
    obtain ⟨h1, h2⟩ := B.s1.w.keep b hb (bk_in0 B hn)
    refine ⟨h1, fun ⟨i, hm⟩ => ?_⟩
    rcases bk_mut B hm with ⟨k, _, hk⟩ | ⟨k, _, hk⟩ | ⟨_, _, h5⟩
    · exact h2 ⟨k, hk⟩
    · exact h2 ⟨k, hk⟩
    · exact hn ⟨i, h5⟩
  obj i o ho := by
    by_cases hf : i ∈ fzs
    · have hi : i ∉ objs := fun h => B.hin.apart i hf h
      have hr : i ∉ ret.map (·.2) := fun h => by
        obtain ⟨p, hp, rfl⟩ := List.mem_map.1 h
        exact (B.rapart p hp).2.1 hf
      obtain ⟨a1, a2⟩ := bk_oth B hi hr
      exact ⟨o, a1.trans ho, Nat.le_refl _, fun _ => ⟨.refl _, by rw [a2, B.Fρ]⟩⟩
    · rw [B.Hf i hf] at ho
      obtain ⟨o', h1, h2, h3⟩ := (bk_step B).obj i o ho
      exact ⟨o', h1, h2, fun e => ⟨(h3 e).1, by rw [(h3 e).2, B.Fρ]⟩⟩

theorem bk_tree (B : Bk E Ef E1 objs fzs H0 ret ups ads frz) {c : AV} {v : Value} (ht : c.tree = true) (hg : frz = true ∨ c.flat1 = true) (hv : VRel E1 c v) : VRel (bkEnv E Ef E1 objs ret ups ads) c v := by
  cases c <;> simp only [AV.tree, Bool.false_eq_true] at ht
  case ro n cs =>
    exact (backCell_rel B (a := .ro n cs) (a' := .ro n cs) rfl hv hg).1
  case nilsl => simp only [VRel] at hv ⊢; exact hv
  all_goals (simp only [VRel] at hv ⊢; exact hv)

theorem bk_crel (B : Bk E Ef E1 objs fzs H0 ret ups ads frz) {cs : List AV} {b o : Nat} (hg : frz = true ∨ cs.all AV.flat1 = true) (h : CRel E1 cs b o) : CRel (bkEnv E Ef E1 objs ret ups ads) cs b o :=
  CRel.of fun j c hj => by
    obtain ⟨h1, v, h2, h3⟩ := h.get j c hj
    exact ⟨h1, v, h2, bk_tree B h1 (hg.imp id fun h => all_get h hj) h3⟩

theorem backVC_rel (B : Bk E Ef E1 objs fzs H0 ret ups ads frz) : ∀ {cs cs' : List AV} {b o : Nat}, mapO (backCell E.H E1.H objs ret) cs = some cs' → (frz = true ∨ cs.all AV.flat1 = true) → VCells E1 cs b o → VCells (bkEnv E Ef E1 objs ret ups ads) cs' b o
  | [], cs', b, o, h, _, _ => by simp only [mapO, Option.some.injEq] at h; subst h; exact fun j c hj => by simp at hj
  | c :: cs, cs', b, o, h, hg, hr => by
    simp only [mapO] at h
    split at h
    · rename_i c' hb
      obtain ⟨l, hl, rfl⟩ := Option.map_eq_some_iff.1 h
      have hg1 : frz = true ∨ c.flat1 = true := hg.imp id fun h => by simp only [List.all_cons, Bool.and_eq_true] at h; exact h.1
      have hg2 : frz = true ∨ cs.all AV.flat1 = true := hg.imp id fun h => by simp only [List.all_cons, Bool.and_eq_true] at h; exact h.2
      have hrest := backVC_rel B (b := b) (o := o + 1) hl hg2 (fun j x hj => by
        have := hr (j + 1) x (by simpa using hj)
        rwa [show o + (j + 1) = o + 1 + j by omega] at this)
      intro j x hj
      cases j with
      | zero =>
        simp at hj; subst hj
        obtain ⟨h1, v, h2, h3⟩ := hr 0 c rfl
        have := backCell_rel B hb h3 hg1
        exact ⟨this.2 h1, v, h2, this.1⟩
      | succ j =>
        have := hrest j x (by simpa using hj)
        rwa [show o + 1 + j = o + (j + 1) by omega] at this
    · cases h

theorem backCells_rel (B : Bk E Ef E1 objs fzs H0 ret ups ads frz) : ∀ {cs cs' : List AV} {vs : List Value}, mapO (backCell E.H E1.H objs ret) cs = some cs' → (frz = true ∨ cs.all AV.flat1 = true) → LRel E1 cs vs → LRel (bkEnv E Ef E1 objs ret ups ads) cs' vs
  | [], cs', vs, h, _, hr => by simp only [mapO, Option.some.injEq] at h; subst h; exact hr
  | c :: cs, cs', vs, h, hg, hr => by
    simp only [LRel] at hr
    obtain ⟨v, r, rfl, h1, h2⟩ := hr
    simp only [mapO] at h
    split at h
    · rename_i b hb
      obtain ⟨l, hl, rfl⟩ := Option.map_eq_some_iff.1 h
      have hg1 : frz = true ∨ c.flat1 = true := hg.imp id fun h => by simp only [List.all_cons, Bool.and_eq_true] at h; exact h.1
      have hg2 : frz = true ∨ cs.all AV.flat1 = true := hg.imp id fun h => by simp only [List.all_cons, Bool.and_eq_true] at h; exact h.2
      exact ⟨v, r, rfl, (backCell_rel B hb h1 hg1).1, backCells_rel B hl hg2 h2⟩
    · cases h

def flatV : AV → Bool
  | .agg cs => cs.all AV.flat1
  | a => a.flat1
theorem flat_tup {vs : List AV} (h : (AV.tup vs).flat = true) : vs.all flatV = true := by
  simp only [AV.flat] at h
  refine List.all_eq_true.2 fun a ha => ?_
  have := List.all_eq_true.1 h a ha
  cases a <;> simpa [flatV] using this

theorem backV_rel (B : Bk E Ef E1 objs fzs H0 ret ups ads frz) {a a' : AV} {v : Value} (h : backV E.H E1.H objs ret a = some a') (hg : frz = true ∨ flatV a = true) (hv : VRel E1 a v) : VRel (bkEnv E Ef E1 objs ret ups ads) a' v := by
  cases a with
  | agg cs =>
    simp only [backV] at h
    obtain ⟨l, hl, rfl⟩ := Option.map_eq_some_iff.1 h
    simp only [VRel] at hv ⊢
    obtain ⟨arr, rfl, hv⟩ := hv
    exact ⟨arr, rfl, backCells_rel B hl (by simpa only [flatV] using hg) hv⟩
  | _ => exact (backCell_rel B (by simpa only [backV] using h) hv (by simpa only [flatV] using hg)).1
theorem backVs_rel (B : Bk E Ef E1 objs fzs H0 ret ups ads frz) : ∀ {cs cs' : List AV} {vs : List Value}, mapO (backV E.H E1.H objs ret) cs = some cs' → (frz = true ∨ cs.all flatV = true) → LRel E1 cs vs → LRel (bkEnv E Ef E1 objs ret ups ads) cs' vs
  | [], cs', vs, h, _, hr => by simp only [mapO, Option.some.injEq] at h; subst h; exact hr
  | c :: cs, cs', vs, h, hg, hr => by
    simp only [LRel] at hr
    obtain ⟨v, r, rfl, h1, h2⟩ := hr
    simp only [mapO] at h
    split at h
    · rename_i b hb
      obtain ⟨l, hl, rfl⟩ := Option.map_eq_some_iff.1 h
      have hg1 : frz = true ∨ flatV c = true := hg.imp id fun h => by simp only [List.all_cons, Bool.and_eq_true] at h; exact h.1
      have hg2 : frz = true ∨ cs.all flatV = true := hg.imp id fun h => by simp only [List.all_cons, Bool.and_eq_true] at h; exact h.2
      exact ⟨v, r, rfl, backV_rel B hb hg1 h1, backVs_rel B hl hg2 h2⟩
    · cases h
theorem backR_rel (B : Bk E Ef E1 objs fzs H0 ret ups ads frz) {a a' : AV} {v : Value} (h : backR E.H E1.H objs ret a = some a') (hg : frz = true ∨ a.flat = true) (hv : VRel E1 a v) : VRel (bkEnv E Ef E1 objs ret ups ads) a' v := by
  cases a with
  | tup vs =>
    simp only [backR] at h
    obtain ⟨l, hl, rfl⟩ := Option.map_eq_some_iff.1 h
    simp only [VRel] at hv ⊢
    obtain ⟨arr, rfl, hv⟩ := hv
    exact ⟨arr, rfl, backVs_rel B hl (hg.imp id flat_tup) hv⟩
  | agg cs => exact backV_rel B (by simpa only [backR] using h) (by simpa only [AV.flat, flatV] using hg) hv
  | _ => exact backV_rel B (by simpa only [backR] using h) (by simpa only [AV.flat, flatV] using hg) hv

theorem bk_body (B : Bk E Ef E1 objs fzs H0 ret ups ads frz) {k i v : Nat} {o : AObj} {b' : ABody} (a2 : E1.H[k]? = some o) (a3 : backBody E.H E1.H objs ret o.body = some b')
    (a5 : (bkEnv E Ef E1 objs ret ups ads).ρ[i]? = E1.ρ[k]?) (hflk : frz = true ∨ bodyFlat o.body = true) : ObjRel (bkEnv E Ef E1 objs ret ups ads) i ⟨v, b'⟩ := by
  have hold := B.h1.obj k o a2
  unfold ObjRel at hold ⊢
  cases hb : o.body with
  | none => rw [hb] at a3; simp only [backBody, Option.some.injEq] at a3; subst a3; trivial
  | map clk es =>
    rw [hb] at a3 hold
    simp only [backBody, Option.some.injEq] at a3
    subst a3
    obtain ⟨b, h1, h2⟩ := hold
    exact ⟨b, a5.trans h1, h2⟩
  | var cs =>
    rw [hb] at a3 hold hflk
    simp only [backBody] at a3
    obtain ⟨l, hl, rfl⟩ := Option.map_eq_some_iff.1 a3
    obtain ⟨b, base, h1, h2, h3⟩ := hold
    exact ⟨b, base, a5.trans h1, by rw [mapO_len hl]; exact h2, backVC_rel B hl (by simpa only [bodyFlat] using hflk) h3⟩
  | row m s cs =>
    rw [hb] at a3 hold hflk
    simp only [backBody, Option.some.injEq] at a3
    subst a3
    simp only [bodyFlat, Bool.and_eq_true] at hflk
    rcases hold with ⟨h1, h2⟩ | ⟨b, base, h1, h2, h3, h4⟩
    · exact .inl ⟨h1, a5.trans h2⟩
    · refine .inr ⟨b, base, a5.trans h1, h2, bk_crel B (hflk.imp id And.right) h3, fun hm => ?_⟩
      rcases hflk with hz | hz
      · exact bk_X B hz (h4 hm)
      · rw [hm] at hz; cases hz.1

theorem bk_wrel (B : Bk E Ef E1 objs fzs H0 ret ups ads frz) (hfl : frz = true ∨ ∀ k o, k < objs.length → E1.H[k]? = some o → bodyFlat o.body = true) : WRel (bkEnv E Ef E1 objs ret ups ads) where
  len := by simp [bkEnv, backρ, layAll_len, bk_len B, B.hw.len]
  obj i q hq := by
    by_cases hi : i ∈ objs
    · obtain ⟨k, hk⟩ := List.mem_iff_getElem?.1 hi
      obtain ⟨oi, o, b', a1, a2, a3, a4, a5⟩ := bk_obj B hk
      rw [a4] at hq
      cases hq
      exact bk_body B a2 a3 a5 (hfl.imp id fun h => h k o (List.getElem?_eq_some_iff.1 hk).1 a2)
    · by_cases hr : i ∈ ret.map (·.2)
      · obtain ⟨p, hp, rfl⟩ := List.mem_map.1 hr
        obtain ⟨o, bb, ot, a1, ab, a2, a3, a4⟩ := bk_ret B (k := p.1) (t := p.2) hp
        rw [a3] at hq
        cases hq
        have hz : frz = true := by
          cases frz with
          | true => rfl
          | false => rw [B.Hnf rfl] at hp; cases hp
        exact bk_body B a1 ab a4 (.inl hz)
      · obtain ⟨a1, a2⟩ := bk_oth B hi hr
        rw [a1] at hq
        have hold := B.hf.obj i q hq
        have hst := bk_step' B
        have hρ : (bkEnv E Ef E1 objs ret ups ads).ρ[i]? = Ef.ρ[i]? := by rw [a2, B.Fρ]
        have hkeep : ∀ b base, Ef.ρ[i]? = some (some (b, base)) → (q.body.isMut = true ∨ ¬ Ef.X b) → b < Ef.w.heap.size → ∀ x, (bkEnv E Ef E1 objs ret ups ads).w.cell? ⟨b, x, none⟩ = Ef.w.cell? ⟨b, x, none⟩ := by
          intro b base h1 h2 h3 x
          rw [B.Fw] at h3 ⊢
          refine cell?_of_heap (B.s1.w.keep b h3 ?_).1 x
          rintro ⟨k, hk⟩
          obtain ⟨j, c1, c2⟩ := in_mut B.hw B.hin hk
          have hj : Ef.mutAt j b := bk_fm B c2 fun hf => B.hin.apart j hf (List.mem_of_getElem? c1)
          rcases h2 with h2 | h2
          · have := B.hf.inj i j b ⟨q, base, hq, h2, h1⟩ hj
            subst this
            exact hi (List.mem_of_getElem? c1)
          · exact h2 (.inr ⟨j, hj⟩)
        unfold ObjRel at hold ⊢
        cases hb : q.body with
        | none => trivial
        | map clk es =>
          rw [hb] at hold
          obtain ⟨b, h1, h2⟩ := hold
          refine ⟨b, hρ.trans h1, (?_ : (bkEnv E Ef E1 objs ret ups ads).w.heap[b]? = Ef.w.heap[b]?).trans h2⟩
          have h3 := mapAt_lt h2
          rw [B.Fw] at h3 ⊢
          refine (B.s1.w.keep b h3 ?_).1
          rintro ⟨k, hk⟩
          obtain ⟨j, c1, c2⟩ := in_mut B.hw B.hin hk
          have hj : Ef.mutAt j b := bk_fm B c2 fun hf => B.hin.apart j hf (List.mem_of_getElem? c1)
          have := B.hf.inj i j b ⟨q, 0, hq, by rw [hb]; rfl, h1⟩ hj
          subst this
          exact hi (List.mem_of_getElem? c1)
        | var cs =>
          rw [hb] at hold
          obtain ⟨b, base, h1, h2, h3⟩ := hold
          exact ⟨b, base, hρ.trans h1, h2.mono hst.w, h3.keeps hst.keeps (hkeep b base h1 (.inl (by rw [hb]; rfl)) h2.lt)⟩
        | row m s cs =>
          rw [hb] at hold
          rcases hold with ⟨h1, h2⟩ | ⟨b, base, h1, h2, h3, h4⟩
          · exact .inl ⟨h1, hρ.trans h2⟩
          · refine .inr ⟨b, base, hρ.trans h1, h2.mono hst.w, CRel.keeps hst.keeps cs b base (hkeep b base h1 ?_ h2.lt) h3, fun hm => (hst.x h2.lt (h4 hm)).1⟩
            cases m with
            | true => exact .inl (by rw [hb]; rfl)
            | false => exact .inr (h4 rfl)
  inj i j b hi hj := by
    rcases bk_mut B hi with ⟨k, c1, c2⟩ | ⟨k, c1, c2⟩ | ⟨c1, c2, c3⟩ <;> rcases bk_mut B hj with ⟨k', d1, d2⟩ | ⟨k', d1, d2⟩ | ⟨d1, d2, d3⟩
    · have := B.h1.inj k k' b c2 d2
      subst this
      rw [c1] at d1; exact Option.some.inj d1
    · have := B.h1.inj k k' b c2 d2
      subst this
      have h1 := (List.getElem?_eq_some_iff.1 c1).1
      have h2 := (B.rapart _ d1).2.2
      simp only at h2
      omega
    · exact absurd ⟨k, c2⟩ (bk_alien B (B.Fm _ _ d3) d1)
    · have := B.h1.inj k k' b c2 d2
      subst this
      have h1 := (List.getElem?_eq_some_iff.1 d1).1
      have h2 := (B.rapart _ c1).2.2
      simp only at h2
      omega
    · have := B.h1.inj k k' b c2 d2
      subst this
      have := nodup_inj1 B.rkeys c1 d1 rfl
      cases this
      rfl
    · exact absurd ⟨k, c2⟩ (bk_alien B (B.Fm _ _ d3) d1)
    · exact absurd ⟨k', d2⟩ (bk_alien B (B.Fm _ _ c3) c1)
    · exact absurd ⟨k', d2⟩ (bk_alien B (B.Fm _ _ c3) c1)
    · exact B.hf.inj i j b c3 d3
  fNot i b hm := by
    rcases bk_mut B hm with ⟨k, _, c2⟩ | ⟨k, _, c2⟩ | ⟨_, _, c3⟩
    · exact bk_nF B c2
    · exact bk_nF B c2
    · exact B.hw.fNot i b (B.Fm _ _ c3)
  fOld b hF := Nat.lt_of_lt_of_le (B.hw.fOld b hF) B.s1.w.size
end

end Go.Ev
end
section
namespace Go.Ev
variable {P : Program} {E : Env}

def CallOk (P : Program) (f : FuncId) : Prop := ∃ fn : Func, P.funcs[f]? = some fn ∧ fn.name ≠ "runtime.NumGoroutine" ∧ fn.body.isSome = true

def CfPost (E : Env) (r : AV) (H1 : List AObj) (e : Ending) (w' : World) : Prop :=
  ∃ v, e = .returned v ∧ ∃ E' : Env, E'.w = w' ∧ E'.H = H1 ∧ WRel E' ∧ VRel E' r v ∧ Step E E'

def CfSound (P : Program) (cf : CallF) : Prop := ∀ f args H r H1, cf f args H = some (r, H1) →
  CallOk P f ∧ ∀ (E : Env) (vals : Array Value), WRel E → E.H = H → LRel E args vals.toList → Calls P f vals E.w (CfPost E r H1)

theorem callFunc_run {f : FuncId} (h : CallOk P f) (args : Array Value) (w : World) : (callFunc f args).run P w = .ok (.enter f args) w := by
  obtain ⟨fn, hf, hn, hb⟩ := h
  have hb' : fn.body ≠ none := by intro e; rw [e] at hb; cases hb
  simp [callFunc, hf, hn, hb']

theorem call_run {o : Oper} {ρ : Operand → Value} {f : Operand} {args : Array Operand} {ts : Array TypeId} {g : FuncId} {a1 a2 : Array Value} (w : World)
    (ho : o.op = .call { callee := .value f, args := args, argTypes := ts }) (hf : ρ f = .func (.func g) a1 a2) (h : CallOk P g) :
    (execOp ρ o).run P w = .ok (.enter g (a1 ++ args.map ρ ++ a2)) w := by
  simp [execOp, ho, resolve, Deferred.ofValue, hf, invoke, callFunc_run h]

theorem LRel.app {E : Env} : ∀ {cs ds : List AV} {vs us : List Value}, LRel E cs vs → LRel E ds us → LRel E (cs ++ ds) (vs ++ us)
  | [], ds, vs, us, h, k => by simp only [LRel] at h; subst h; exact k
  | c :: cs, ds, vs, us, h, k => by
    simp only [LRel] at h
    obtain ⟨v, r, rfl, h1, h2⟩ := h
    exact ⟨v, r ++ us, rfl, h1, h2.app k⟩

theorem freezeAll_keys : ∀ {fz : List Nat} {H : List AObj} {fr : List (Nat × AObj)}, freezeAll H fz = some fr → ∀ i ∈ fr.map (·.1), i ∈ fz
  | [], H, fr, h => by simp only [freezeAll, Option.some.injEq] at h; subst h; simp
  | j :: fz, H, fr, h => by
    simp only [freezeAll] at h
    split at h
    · rename_i h2
      cases h
      intro i hi
      simp only [List.map_cons, List.mem_cons] at hi
      rcases hi with rfl | hi
      · exact List.mem_cons_self ..
      · exact List.mem_cons_of_mem _ (freezeAll_keys h2 i hi)
    · rename_i h2
      cases h
      exact fun i hi => List.mem_cons_of_mem _ (freezeAll_keys h2 i hi)
    · cases h

theorem layAll_app : ∀ (u v : List (Nat × AObj)) (H : List AObj), layAll H (u ++ v) = layAll (layAll H u) v
  | [], _, _ => rfl
  | (i, o) :: u, v, H => by simp only [List.cons_append, layAll]; exact layAll_app u v _

theorem callV_sound {cf : CallF} (hcf : CfSound P cf) (hw : WRel E) {g : AV} {args : List AV} {objs fzs : List Nat} {ret : List (Nat × Nat)} {frz : Bool} {r : AV} {ups : List (Nat × AObj)}
    (h : callV cf E.H g args objs fzs ret frz = some (r, ups)) : ∃ f first caps, g = .fn f first caps ∧ CallOk P f ∧
      ∀ vals : List Value, LRel E (first ++ args ++ caps) vals → Calls P f vals.toArray E.w (fun e w' => ∃ v, e = .returned v ∧ Out E r ups v w') := by
  unfold callV at h
  split at h
  · rename_i f first caps
    refine ⟨f, first, caps, rfl, ?_⟩
    split at h
    · rename_i hid
      simp only [okIds, Bool.and_eq_true, decide_eq_true_eq, List.all_eq_true, Bool.not_eq_true', List.contains_eq_mem, decide_eq_false_iff_not] at hid
      obtain ⟨⟨⟨⟨⟨i1, i2⟩, i3⟩, i4⟩, i5⟩, i6⟩ := hid
      split at h
      · rename_i as H0 hargs hobjs
        split at h
        · rename_i r1 H1 hc
          obtain ⟨hok, hcalls⟩ := hcf _ _ _ _ _ hc
          refine ⟨hok, fun vals hv => ?_⟩
          have hin : InOk E objs fzs H0 := ⟨i1, i5, (passObjs_ok hobjs).1, (passObjs_ok hobjs).2⟩
          refine Calls.mono (hcalls (inEnv E objs fzs H0) vals.toArray (in_wrel hw hin) rfl (by simpa using passVs_rel hw hin hargs hv)) ?_
          rintro e w' ⟨v, rfl, E1, rfl, hH1, hw1, hr1, hs1⟩
          refine ⟨v, rfl, ?_⟩
          have hrapart : ∀ p ∈ ret, p.2 ∉ objs ∧ p.2 ∉ fzs ∧ objs.length ≤ p.1 := fun p hp =>
            ⟨(i4 p.2 (List.mem_map_of_mem hp)).1, (i4 p.2 (List.mem_map_of_mem hp)).2, i6 p hp⟩
          subst hH1
          split at h
          · rename_i r' ups' ads hbr hbo had
            obtain ⟨b1, b2⟩ := backObjs_ok hbo
            obtain ⟨d1, d2⟩ := adopts_ok had
            split at h
            · rename_i hz
              obtain ⟨fr, hfr, he⟩ := Option.map_eq_some_iff.1 h
              cases he
              obtain ⟨k1, k2, k3, k4⟩ := freezeAll_rel hw (fun _ => .inl rfl) hfr
              have B : Bk E (Lay E fr E.ρ E.w) E1 objs fzs H0 ret ups' ads true := {
                hw := hw
                hf := k1
                hEf := k2
                Fρ := rfl
                Fw := rfl
                Fm := fun i b => by
                  rintro ⟨q, base, q1, q2, q3⟩
                  rcases k3 i with e | ⟨a, m, c, d, e1, e2⟩
                  · exact ⟨q, base, e ▸ q1, q2, q3⟩
                  · rw [e2] at q1; cases q1; cases q2
                Hf := fun i hi => layAll_ne fun hm => hi (freezeAll_keys hfr i hm)
                Hfz := fun _ => k4
                Hnf := fun e => by cases e
                hin := hin
                h1 := hw1
                s1 := hs1
                rkeys := i2
                rvals := i3
                rapart := hrapart
                upk := b1
                upv := b2
                adk := d1
                adv := d2 }
              refine ⟨backρ E.ρ E1.ρ objs ret, ?_⟩
              have e : Lay E (fr ++ ups' ++ ads) (backρ E.ρ E1.ρ objs ret) E1.w = bkEnv E (Lay E fr E.ρ E.w) E1 objs ret ups' ads := by
                simp only [Lay, bkEnv, List.append_assoc, layAll_app]
              rw [e]
              exact ⟨bk_wrel B (.inl rfl), bk_step B, backR_rel B hbr (.inl rfl) hr1⟩
            · rename_i hz
              split at h
              · rename_i hg
                cases h
                simp only [Bool.and_eq_true, List.isEmpty_iff] at hg
                obtain ⟨⟨g1, g2⟩, rfl⟩ := hg
                simp only [adopts, Option.some.injEq] at had
                subst had
                have B : Bk E E E1 objs fzs H0 [] ups ([] : List (Nat × AObj)) false := {
                  hw := hw
                  hf := hw
                  hEf := .refl _
                  Fρ := rfl
                  Fw := rfl
                  Fm := fun i b h => h
                  Hf := fun i hi => rfl
                  Hfz := fun e => by cases e
                  Hnf := fun _ => rfl
                  hin := hin
                  h1 := hw1
                  s1 := hs1
                  rkeys := i2
                  rvals := i3
                  rapart := hrapart
                  upk := b1
                  upv := b2
                  adk := d1
                  adv := d2 }
                refine ⟨backρ E.ρ E1.ρ objs [], ?_⟩
                have e : Lay E ups (backρ E.ρ E1.ρ objs []) E1.w = bkEnv E E E1 objs [] ups [] := by
                  simp only [Lay, bkEnv, List.append_nil]
                rw [e]
                refine ⟨bk_wrel B (.inr fun k o hk ho => ?_), bk_step B, backR_rel B hbr (.inr g1) hr1⟩
                refine List.all_eq_true.1 g2 o (List.mem_of_getElem? (i := k) ?_)
                rw [List.getElem?_take, if_pos hk]; exact ho
              · cases h
          · cases h
        · cases h
      · cases h
    · cases h
  · cases h

def OpSat (P : Program) (E : Env) (o : Oper) (a : Act) (r : AV) (ups : List (Nat × AObj)) : Prop :=
  ∀ (K : Act → World → Prop) (Q : Exit → Act → World → Prop), (∀ v w', Out E r ups v w' → K (a.put o.dst v) w') → o.wp P a E.w K Q
theorem OpOk.sat {o : Oper} {a : Act} {r : AV} {ups : List (Nat × AObj)} (h : OpOk P E o a.eval r ups) : OpSat P E o a r ups := by
  intro K Q hK
  obtain ⟨v, w', h1, h2⟩ := h
  unfold Oper.wp
  rcases h1 with h1 | ⟨h1, rfl⟩
  · rw [h1]; exact hK v w' h2
  · rw [h1]; exact hK _ w' h2

theorem opV_sound {cf : CallF} (hcf : CfSound P cf) {o : Oper} {a : Act} {sl : List AV} {r : AV} {ups : List (Nat × AObj)} (hw : WRel E) (hs : ARel E sl a) {op : MOp} (hc : chkOp P op o.op = true)
    (h : opV cf sl E.H op = some (r, ups)) : OpSat P E o a r ups := by
  cases op with
  | mv => exact (op_mv hw hs hc h).sat
  | frz => exact (op_frz hw hs hc h).sat
  | mapmk => exact (op_mapmk hw hc h).sat
  | maplk => exact (op_maplk hw hs hc h).sat
  | mapen => exact (op_mapen hw hs hc h).sat
  | mapst => exact (op_mapst hw hs hc h).sat
  | mapdl => exact (op_mapdl hw hs hc h).sat
  | stop => simp only [opV] at h; cases h
  | rng => simp only [opV] at h; cases h
  | nxt => simp only [opV] at h; cases h
  | ent => simp only [opV] at h; cases h
  | vnil => exact (op_vnil hw hc h).sat
  | pick => exact (op_pick hw hs hc h).sat
  | alloc => exact (op_alloc hw hc h).sat
  | box => exact (op_box hw hs hc h).sat
  | build => exact (op_build hw hs hc h).sat
  | lit => exact (op_lit hw hs hc h).sat
  | load => exact (op_load hw hs hc h).sat
  | store => exact (op_store hw hs hc h).sat
  | nilchk => exact (op_nilchk hw hs hc h).sat
  | bin => exact (op_bin hw hs hc h).sat
  | un => exact (op_un hw hs hc h).sat
  | conv => exact (op_conv hw hs hc h).sat
  | b2s => exact (op_b2s hw hs hc h).sat
  | faddr => exact (op_faddr hw hs hc h).sat
  | iaddrA => exact (op_iaddrA hw hs hc h).sat
  | iaddrS => exact (op_iaddrS hw hs hc h).sat
  | index => exact (op_index hw hs hc h).sat
  | field => exact (op_field hw hs hc h).sat
  | len => exact (op_len hw hs hc h).sat
  | lenK => exact (op_lenK hw hc h).sat
  | minmax => exact (op_minmax hw hs hc h).sat
  | sliceS => exact (op_sliceS hw hs hc h).sat
  | sliceA => exact (op_sliceA hw hs hc h).sat
  | append => exact (op_append hw hs hc h).sat
  | extract => exact (op_extract hw hs hc h).sat
  | make => exact (op_make hw hs hc h).sat
  | copy => exact (op_copy hw hs hc h).sat
  | mkfn => exact (op_mkfn hw hs hc h).sat
  | call f args objs fzs ret frz =>
    simp only [opV] at h
    obtain ⟨g, first, caps, hg, hok, hcalls⟩ := callV_sound hcf hw h
    simp only [chkOp] at hc
    split at hc
    · rename_i x as ts ho
      simp only [Bool.and_eq_true] at hc
      have hx := ev_rel hs hc.1
      rw [hg] at hx
      simp only [VRel] at hx
      obtain ⟨a1, a2, hx, r1, r2⟩ := hx
      have hrun := call_run E.w ho hx hok
      intro K Q hK
      unfold Oper.wp
      rw [hrun, Oper.upon_enter]
      have hl := (r1.app (evs_rel hs hc.2)).app r2
      have := hcalls _ hl
      rw [show (a1.toList ++ List.map a.eval as.toList ++ a2.toList).toArray = a1 ++ as.map a.eval ++ a2 by
        apply Array.ext'; simp] at this
      refine Calls.mono this ?_
      rintro e w' ⟨v, rfl, ho⟩
      exact hK v w' ho
    · cases hc

end Go.Ev
end
section
namespace Go.Ev

theorem ev_congr {sl sl' : List AV} {x : MX} (h : ∀ n ∈ x.slots, sl.getD n .undef = sl'.getD n .undef) : ev sl x = ev sl' x := by
  cases x with
  | s n => exact h n (by simp [MX.slots])
  | c a => rfl
theorem evs_congr {sl sl' : List AV} {xs : List MX} (h : ∀ n ∈ xs.flatMap MX.slots, sl.getD n .undef = sl'.getD n .undef) : xs.map (ev sl) = xs.map (ev sl') :=
  List.map_congr_left fun x hx => ev_congr fun n hn => h n (List.mem_flatMap.2 ⟨x, hx, hn⟩)
theorem evO_congr {sl sl' : List AV} {x : Option MX} (h : ∀ n ∈ x.toList.flatMap MX.slots, sl.getD n .undef = sl'.getD n .undef) : x.map (ev sl) = x.map (ev sl') := by
  cases x with
  | none => rfl
  | some x => simp only [Option.map_some]; rw [ev_congr fun n hn => h n (by simpa using hn)]
theorem evP_congr {sl sl' : List AV} {ps : List (Nat × Nat × MX)} (h : ∀ n ∈ ps.flatMap (fun p => p.2.2.slots), sl.getD n .undef = sl'.getD n .undef) :
    ps.map (fun p => (p.1, p.2.1, ev sl p.2.2)) = ps.map (fun p => (p.1, p.2.1, ev sl' p.2.2)) :=
  List.map_congr_left fun x hx => by rw [ev_congr fun n hn => h n (List.mem_flatMap.2 ⟨x, hx, hn⟩)]

theorem objCells_congr {H H' : List AObj} {i ver : Nat} (h : H[i]? = H'[i]?) : objCells H i ver = objCells H' i ver := by
  simp only [objCells, h]
theorem srcCells_congr {H H' : List AObj} {ysrc : Option Nat} (h : ∀ i ∈ ysrc.toList, H[i]? = H'[i]?) (sz : Nat) (a : AV) : srcCells H ysrc sz a = srcCells H' ysrc sz a := by
  cases a <;> try rfl
  rename_i i ver off len sz'
  simp only [srcCells]
  by_cases he : ysrc = some i ∧ sz' = sz
  · rw [if_pos he, if_pos he, objCells_congr (h i (by simp [he.1]))]
  · rw [if_neg he, if_neg he]
theorem load1_congr {H H' : List AObj} {o : Option Nat} (h : ∀ i ∈ o.toList, H[i]? = H'[i]?) (a : AV) : load1 H o a = load1 H' o a := by
  cases o <;> cases a <;> try rfl
  rename_i i j ver off
  simp only [load1]
  by_cases he : i = j
  · subst he; simp only [objCells_congr (h i (by simp))]
  · simp [he]
theorem loadCells_congr {H H' : List AObj} {o : Option Nat} (h : ∀ i ∈ o.toList, H[i]? = H'[i]?) (a : AV) (n : Nat) : loadCells H o a n = loadCells H' o a n := by
  cases o <;> cases a <;> try rfl
  rename_i i j ver off
  simp only [loadCells]
  by_cases he : i = j
  · subst he; simp only [objCells_congr (h i (by simp))]
  · simp [he]
theorem treeCell_congr {H H' : List AObj} {fz : List Nat} (h : ∀ i ∈ fz, H[i]? = H'[i]?) : treeCell H fz = treeCell H' fz := by
  funext a
  cases a <;> try rfl
  rename_i i ver off len sz
  simp only [treeCell]
  by_cases he : fz.contains i = true
  · rw [if_pos he, if_pos he, h i (by simpa using he)]
  · rw [if_neg he, if_neg he]
theorem freezeAll_congr {H H' : List AObj} : ∀ {fz : List Nat}, (∀ i ∈ fz, H[i]? = H'[i]?) → freezeAll H fz = freezeAll H' fz
  | [], _ => rfl
  | i :: fz, h => by simp only [freezeAll, h i (List.mem_cons_self ..), freezeAll_congr fun j hj => h j (List.mem_cons_of_mem _ hj)]
theorem passCell_congr {H H' : List AObj} {objs fzs : List Nat} (h1 : ∀ i ∈ objs, H[i]? = H'[i]?) (h2 : ∀ i ∈ fzs, H[i]? = H'[i]?) : passCell H objs fzs = passCell H' objs fzs := by
  funext a
  cases a <;> try rfl
  · rename_i i ver off len sz
    simp only [passCell]
    cases hk : objs.idxOf? i with
    | some k => simp only [h1 i (List.mem_of_getElem? (idx_some hk))]
    | none =>
      simp only []
      by_cases he : fzs.contains i = true
      · rw [if_pos he, if_pos he, objCells_congr (h2 i (by simpa using he))]
      · rw [if_neg he, if_neg he]
  · rename_i i ver off
    simp only [passCell]
    cases hk : objs.idxOf? i with
    | some k => simp only [h1 i (List.mem_of_getElem? (idx_some hk))]
    | none => rfl
  · rename_i i ver
    simp only [passCell]
    cases hk : objs.idxOf? i with
    | some k => simp only [h1 i (List.mem_of_getElem? (idx_some hk))]
    | none => rfl
theorem passV_congr {H H' : List AObj} {objs fzs : List Nat} (h1 : ∀ i ∈ objs, H[i]? = H'[i]?) (h2 : ∀ i ∈ fzs, H[i]? = H'[i]?) : passV H objs fzs = passV H' objs fzs := by
  funext a
  cases a <;> simp only [passV, passCell_congr h1 h2]
theorem passObjs_congr {H H' : List AObj} {objs fzs : List Nat} (h1 : ∀ i ∈ objs, H[i]? = H'[i]?) (h2 : ∀ i ∈ fzs, H[i]? = H'[i]?) : ∀ {l : List Nat}, (∀ i ∈ l, H[i]? = H'[i]?) → passObjs H objs fzs l = passObjs H' objs fzs l
  | [], _ => rfl
  | i :: l, h => by
    have hb : passBody H objs fzs = passBody H' objs fzs := by funext b; cases b <;> simp only [passBody, passCell_congr h1 h2]
    simp only [passObjs, h i (List.mem_cons_self ..), hb, passObjs_congr h1 h2 fun j hj => h j (List.mem_cons_of_mem _ hj)]
theorem backCell_congr {H H' H1 : List AObj} {objs : List Nat} {ret : List (Nat × Nat)} (h1 : ∀ i ∈ objs, H[i]? = H'[i]?) (h2 : ∀ i ∈ ret.map (·.2), H[i]? = H'[i]?) : backCell H H1 objs ret = backCell H' H1 objs ret := by
  funext a
  cases a <;> try rfl
  · rename_i k ver off len sz
    simp only [backCell]
    cases H1[k]? with
    | none => rfl
    | some o =>
      simp only []
      split
      · cases hk : objs[k]? with
        | some i => simp only [h1 i (List.mem_of_getElem? hk)]
        | none =>
          simp only []
          cases hl : ret.lookup k with
          | some t => simp only [h2 t (List.mem_map_of_mem (lookup_mem hl))]
          | none => rfl
      · rfl
  · rename_i k ver off
    simp only [backCell]
    cases H1[k]? with
    | none => rfl
    | some o =>
      simp only []
      split
      · cases hk : objs[k]? with
        | some i => simp only [h1 i (List.mem_of_getElem? hk)]
        | none =>
          simp only []
          cases hl : ret.lookup k with
          | some t => simp only [h2 t (List.mem_map_of_mem (lookup_mem hl))]
          | none => rfl
      · rfl
  · rename_i k ver
    simp only [backCell]
    cases H1[k]? with
    | none => rfl
    | some o =>
      simp only []
      split
      · cases hk : objs[k]? with
        | some i => simp only [h1 i (List.mem_of_getElem? hk)]
        | none =>
          simp only []
          cases hl : ret.lookup k with
          | some t => simp only [h2 t (List.mem_map_of_mem (lookup_mem hl))]
          | none => rfl
      · rfl
theorem backR_congr {H H' H1 : List AObj} {objs : List Nat} {ret : List (Nat × Nat)} (h1 : ∀ i ∈ objs, H[i]? = H'[i]?) (h2 : ∀ i ∈ ret.map (·.2), H[i]? = H'[i]?) : backR H H1 objs ret = backR H' H1 objs ret := by
  have hV : backV H H1 objs ret = backV H' H1 objs ret := by funext a; cases a <;> simp only [backV, backCell_congr h1 h2]
  funext a
  cases a <;> simp only [backR, hV]
theorem backObjs_congr {H H' H1 : List AObj} {objs : List Nat} {ret : List (Nat × Nat)} (h1 : ∀ i ∈ objs, H[i]? = H'[i]?) (h2 : ∀ i ∈ ret.map (·.2), H[i]? = H'[i]?) :
    ∀ {l : List Nat} {L : List AObj}, (∀ i ∈ l, H[i]? = H'[i]?) → backObjs H H1 objs ret l L = backObjs H' H1 objs ret l L
  | [], _, _ => by simp only [backObjs]
  | i :: l, [], _ => by simp only [backObjs]
  | i :: l, o :: L, h => by
    have hb : backBody H H1 objs ret = backBody H' H1 objs ret := by funext b; cases b <;> simp only [backBody, backCell_congr h1 h2]
    simp only [backObjs, h i (List.mem_cons_self ..), hb, backObjs_congr h1 h2 fun j hj => h j (List.mem_cons_of_mem _ hj)]
theorem adopts_congr {H H' H1 : List AObj} {objs : List Nat} {R : List (Nat × Nat)} (h1 : ∀ i ∈ objs, H[i]? = H'[i]?) (h2 : ∀ i ∈ R.map (·.2), H[i]? = H'[i]?) : ∀ {ret : List (Nat × Nat)}, (∀ i ∈ ret.map (·.2), H[i]? = H'[i]?) → adopts H H1 objs R ret = adopts H' H1 objs R ret
  | [], _ => rfl
  | (k, t) :: ret, h => by
    have hb : backBody H H1 objs R = backBody H' H1 objs R := by funext b; cases b <;> simp only [backBody, backCell_congr h1 h2]
    simp only [adopts, h t (by simp), hb, adopts_congr h1 h2 (ret := ret) fun j hj => h j (by rw [List.map_cons]; exact List.mem_cons_of_mem _ hj)]

theorem passN_congr {H H' : List AObj} {objs fzs : List Nat} {ret : List (Nat × Nat)} (h1 : ∀ i ∈ objs, H[i]? = H'[i]?) (h2 : ∀ i ∈ fzs, H[i]? = H'[i]?) : passN H objs fzs ret = passN H' objs fzs ret := by
  funext a
  unfold passN
  simp only [passV_congr h1 h2]
theorem callV_congr {cf : CallF} {H H' : List AObj} {f : AV} {args : List AV} {objs fzs : List Nat} {ret : List (Nat × Nat)} {frz : Bool}
    (h1 : ∀ i ∈ objs, H[i]? = H'[i]?) (h2 : ∀ i ∈ fzs, H[i]? = H'[i]?) (h3 : ∀ i ∈ ret.map (·.2), H[i]? = H'[i]?) : callV cf H f args objs fzs ret frz = callV cf H' f args objs fzs ret frz := by
  cases f <;> try rfl
  simp only [callV, passN_congr h1 h2, passObjs_congr h1 h2 h1, backR_congr h1 h3, backObjs_congr h1 h3 h1, adopts_congr h1 h3 h3, freezeAll_congr h2]

theorem mapGet_congr {H H' : List AObj} {o : Nat} (h : H[o]? = H'[o]?) (a : AV) : mapGet H o a = mapGet H' o a := by
  cases a <;> try rfl
  rename_i j ver
  simp only [mapGet]
  by_cases he : o = j
  · subst he; simp only [h]
  · simp [he]
theorem mapLook_congr {ks : List (Option IntKind)} {H H' : List AObj} {o : Nat} (h : H[o]? = H'[o]?) (a k : AV) : mapLook ks H o a k = mapLook ks H' o a k := by
  simp only [mapLook, mapGet_congr h]
theorem opV_congr {cf : CallF} {sl sl' : List AV} {H H' : List AObj} (op : MOp) (hs : ∀ n ∈ op.slots, sl.getD n .undef = sl'.getD n .undef) (hH : ∀ i ∈ fpR op, H[i]? = H'[i]?) :
    opV cf sl H op = opV cf sl' H' op := by
  cases op <;> simp only [MOp.slots, List.mem_append, List.flatMap_append] at hs <;> simp only [fpR, List.mem_append, List.mem_cons, List.mem_singleton] at hH
  case mv x => simp only [opV, ev_congr hs]
  case stop => rfl
  case rng => rfl
  case nxt => rfl
  case ent => rfl
  case mapmk t => simp only [opV, hH t (.inl rfl)]
  case maplk ob ks ok x k => simp only [opV, ev_congr (x := x) fun n h => hs n (.inl h), ev_congr (x := k) fun n h => hs n (.inr h), mapLook_congr (hH ob (.inl rfl))]
  case mapen ob ks x k => simp only [opV, ev_congr (x := x) fun n h => hs n (.inl h), ev_congr (x := k) fun n h => hs n (.inr h), mapLook_congr (hH ob (.inl rfl))]
  case mapdl ob ks x k => simp only [opV, ev_congr (x := x) fun n h => hs n (.inl h), ev_congr (x := k) fun n h => hs n (.inr h), mapLook_congr (hH ob (.inl rfl))]
  case mapst ob x s v => simp only [opV, ev_congr (x := x) fun n h => hs n (.inl (.inl h)), ev_congr (x := s) fun n h => hs n (.inl (.inr h)), ev_congr (x := v) fun n h => hs n (.inr h), mapGet_congr (hH ob (.inl rfl))]
  case frz fz x => simp only [opV, ev_congr hs, treeCell_congr (fz := fz) hH, freezeAll_congr (fz := fz) hH]
  case vnil t sz => simp only [opV, hH t (.inl rfl)]
  case pick c a b => simp only [opV, ev_congr (x := c) fun n h => hs n (.inl (.inl h)), ev_congr (x := a) fun n h => hs n (.inl (.inr h)), ev_congr (x := b) fun n h => hs n (.inr h)]
  case alloc t zs => simp only [opV, hH t (.inl rfl)]
  case box t x => simp only [opV, hH t (.inl rfl), ev_congr hs]
  case build zs ps => simp only [opV, evP_congr hs]
  case lit t fz len sz zs ps =>
    simp only [opV, evP_congr hs, treeCell_congr (fz := fz) fun i h => hH i (.inr h), freezeAll_congr (fz := fz) fun i h => hH i (.inr h)]
    cases t with
    | none => rfl
    | some t => simp only [hH t (.inl (by simp))]
  case load n o x =>
    cases n with
    | none => simp only [opV, ev_congr hs, load1_congr hH]
    | some n => simp only [opV, ev_congr hs, loadCells_congr hH]
  case store n o fz x v =>
    simp only [opV, ev_congr (x := x) fun n h => hs n (.inl h), ev_congr (x := v) fun n h => hs n (.inr h), treeCell_congr (fz := fz) fun i h => hH i (.inr h), freezeAll_congr (fz := fz) fun i h => hH i (.inr h)]
    cases ev sl' x <;> try rfl
    rename_i j ver off
    simp only []
    by_cases he : o = j
    · subst he; simp only [hH o (.inl rfl)]
    · simp [he]
  case nilchk x => simp only [opV, ev_congr hs]
  case bin op tc x y => simp only [opV, ev_congr (x := x) fun n h => hs n (.inl h), ev_congr (x := y) fun n h => hs n (.inr h)]
  case un op x => simp only [opV, ev_congr hs]
  case conv k x => simp only [opV, ev_congr hs]
  case b2s o x => simp only [opV, ev_congr hs, srcCells_congr hH]
  case faddr off x => simp only [opV, ev_congr hs]
  case iaddrA len sz x i => simp only [opV, ev_congr (x := x) fun n h => hs n (.inl h), ev_congr (x := i) fun n h => hs n (.inr h)]
  case iaddrS sz x i => simp only [opV, ev_congr (x := x) fun n h => hs n (.inl h), ev_congr (x := i) fun n h => hs n (.inr h)]
  case index len sz ag x i => simp only [opV, ev_congr (x := x) fun n h => hs n (.inl h), ev_congr (x := i) fun n h => hs n (.inr h)]
  case field off n x => simp only [opV, ev_congr hs]
  case len x => simp only [opV, ev_congr hs]
  case lenK n => simp only [opV]
  case minmax mx xs => simp only [opV, evs_congr hs]
  case sliceS sz x lo hi =>
    simp only [opV, ev_congr (x := x) fun n h => hs n (.inl h), evO_congr (x := lo) fun n h => hs n (.inr (.inl h)), evO_congr (x := hi) fun n h => hs n (.inr (.inr h))]
  case sliceA n sz o x lo hi =>
    simp only [opV, ev_congr (x := x) fun n h => hs n (.inl h), evO_congr (x := lo) fun n h => hs n (.inr (.inl h)), evO_congr (x := hi) fun n h => hs n (.inr (.inr h))]
    cases sliceBounds n (lo.map (ev sl')) (hi.map (ev sl')) <;> try rfl
    cases ev sl' x <;> try rfl
    rename_i j ver off
    simp only []
    by_cases he : o = some j
    · subst he; simp only [objCells_congr (hH j (by simp))]
    · simp [he]
  case append bytes sz t ysrc x y =>
    simp only [opV, ev_congr (x := x) fun n h => hs n (.inl h), ev_congr (x := y) fun n h => hs n (.inr h), srcCells_congr (ysrc := ysrc) fun i h => hH i (.inr h), hH t (.inl rfl)]
  case call f args objs fzs ret frz =>
    simp only [opV, ev_congr (x := f) fun n h => hs n (.inl h), evs_congr (xs := args) fun n h => hs n (.inr h)]
    exact callV_congr (fun i h => hH i (.inl (.inl h))) (fun i h => hH i (.inl (.inr h))) (fun i h => hH i (.inr h))
  case extract x i => simp only [opV, ev_congr hs]
  case make t bytes sz zs len cap => simp only [opV, ev_congr (x := len) fun n h => hs n (.inl h), ev_congr (x := cap) fun n h => hs n (.inr h), hH t (.inl rfl)]
  case copy sz o ysrc x y =>
    simp only [opV, ev_congr (x := x) fun n h => hs n (.inl h), ev_congr (x := y) fun n h => hs n (.inr h), srcCells_congr (ysrc := ysrc) fun i h => hH i (.inr h)]
    cases srcCells H' ysrc sz (ev sl' y) <;> try rfl
    cases ev sl' x <;> try rfl
    rename_i j ver off len sz'
    simp only []
    by_cases he : o = j
    · subst he; simp only [hH o (.inl rfl)]
    · simp [he]
  case mkfn f xs ys => simp only [opV, evs_congr (xs := xs) fun n h => hs n (.inl h), evs_congr (xs := ys) fun n h => hs n (.inr h)]

end Go.Ev
end
section
namespace Go.Ev
variable {P : Program} {E : Env}

theorem nil_keys {α : Type} {f : Option α} {g : α → AV} {r : AV} {ups : List (Nat × AObj)} (h : (f.map fun a => (g a, ([] : List (Nat × AObj)))) = some (r, ups)) : ups = [] := by
  cases f <;> cases h; rfl

theorem callV_keys {cf : CallF} {H : List AObj} {f : AV} {args : List AV} {objs fzs : List Nat} {ret : List (Nat × Nat)} {frz : Bool} {r : AV} {ups : List (Nat × AObj)}
    (h : callV cf H f args objs fzs ret frz = some (r, ups)) : ∀ i ∈ ups.map (·.1), i ∈ objs ++ (if frz then fzs else []) ++ ret.map (·.2) := by
  unfold callV at h
  split at h <;> try (cases h; done)
  split at h <;> try (cases h; done)
  split at h <;> try (cases h; done)
  split at h <;> try (cases h; done)
  split at h <;> try (cases h; done)
  rename_i hbo had
  have b1 := (backObjs_ok hbo).1
  have d1 := (adopts_ok had).1
  split at h
  · rename_i hz
    obtain ⟨fr, hfr, he⟩ := Option.map_eq_some_iff.1 h
    cases he
    intro i hi
    simp only [List.map_append, List.mem_append, b1, d1] at hi
    simp only [hz, if_true, List.mem_append]
    rcases hi with (hi | hi) | hi
    · exact .inl (.inr (freezeAll_keys hfr i hi))
    · exact .inl (.inl hi)
    · exact .inr hi
  · split at h
    · cases h
      intro i hi
      rw [b1] at hi
      simp [hi]
    · cases h

theorem opV_keys {cf : CallF} {sl : List AV} {H : List AObj} {op : MOp} {r : AV} {ups : List (Nat × AObj)} (h : opV cf sl H op = some (r, ups)) : ∀ i ∈ ups.map (·.1), i ∈ fpW op := by
  cases op
  case call f args objs fzs ret frz => simp only [opV] at h; exact callV_keys h
  case frz fz x =>
    simp only [opV] at h
    split at h
    · rename_i hfr
      cases h
      intro i hi
      exact freezeAll_keys hfr i hi
    · cases h
  case lit t fz len sz zs ps =>
    simp only [opV] at h
    split at h <;> try (cases h; done)
    split at h <;> try (cases h; done)
    split at h <;> try (cases h; done)
    rename_i hfr
    split at h
    · cases h
      intro i hi
      simp only [fpW, List.mem_append]
      exact .inr (freezeAll_keys hfr i hi)
    · split at h <;> try (cases h; done)
      cases h
      intro i hi
      simp only [List.map_append, List.mem_append, List.map_cons, List.map_nil, List.mem_singleton] at hi
      simp only [fpW, List.mem_append, Option.toList, List.mem_singleton]
      rcases hi with hi | hi
      · exact .inr (freezeAll_keys hfr i hi)
      · exact .inl hi
  case store n o fz x v =>
    simp only [opV] at h
    split at h <;> try (cases h; done)
    split at h <;> try (cases h; done)
    rename_i hc
    have ho : o = _ := Decidable.byContradiction fun q => hc (.inl q)
    split at h <;> try (cases h; done)
    split at h <;> try (cases h; done)
    split at h
    · split at h <;> cases h
      simp [fpW, ho]
    · split at h <;> try (cases h; done)
      split at h <;> try (cases h; done)
      rename_i hfr
      split at h <;> try (cases h; done)
      cases h
      intro i hi
      simp only [List.map_append, List.mem_append, List.map_cons, List.map_nil, List.mem_singleton] at hi
      simp only [fpW, List.mem_cons]
      rcases hi with hi | hi
      · exact .inr (freezeAll_keys hfr i hi)
      · exact .inl (hi.trans ho.symm)
    · cases h
  case load n o x => cases n <;> (simp only [opV] at h; rw [nil_keys h]; simp)
  case append bytes sz t ysrc x y =>
    simp only [opV] at h
    split at h <;> try (cases h; done)
    split at h <;> try (cases h; done)
    split at h
    · split at h <;> try (cases h; done)
      split at h <;> try (cases h; done)
      split at h <;> cases h
      simp [fpW]
    · split at h <;> cases h
      simp [fpW]
    · cases h
  case copy sz o ysrc x y =>
    simp only [opV] at h
    split at h <;> try (cases h; done)
    split at h <;> try (cases h; done)
    split at h <;> try (cases h; done)
    rename_i hc
    have ho : o = _ := Decidable.byContradiction fun q => hc (.inl q)
    split at h <;> try (cases h; done)
    split at h <;> try (cases h; done)
    split at h
    · split at h <;> cases h
      simp [fpW, ho]
    · split at h <;> cases h
      simp [fpW, ho]
    · cases h
  case build => simp only [opV] at h; rw [nil_keys h]; simp
  case bin => simp only [opV] at h; rw [nil_keys h]; simp
  case un => simp only [opV] at h; rw [nil_keys h]; simp
  case minmax => simp only [opV] at h; rw [nil_keys h]; simp
  all_goals
    simp only [opV] at h
    repeat' split at h
    all_goals first
      | (cases h; done)
      | (cases h; simp [fpW]; done)
      | (rw [nil_keys h]; simp; done)

theorem putV_get {sl : List AV} {d : Option Nat} {a : AV} {n : Nat} (h : n ∉ d.toList) : (putV sl d a).getD n .undef = sl.getD n .undef := by
  cases d with
  | none => rfl
  | some d =>
    have : d ≠ n := fun e => h (by simp [e])
    simp only [putV, List.getD_eq_getElem?_getD, List.getElem?_set_ne this]
theorem putV_comm {sl : List AV} {d e : Option Nat} {a b : AV} (h : ∀ n ∈ d.toList, n ∉ e.toList) : putV (putV sl d a) e b = putV (putV sl e b) d a := by
  cases d with
  | none => rfl
  | some d =>
    cases e with
    | none => rfl
    | some e =>
      have : d ≠ e := fun q => h d (by simp) (by simp [q])
      exact List.set_comm _ _ this
theorem set_layAll {i : Nat} {o : AObj} : ∀ {u : List (Nat × AObj)} {H : List AObj}, i ∉ u.map (·.1) → (layAll H u).set i o = layAll (H.set i o) u
  | [], _, _ => rfl
  | (j, p) :: u, H, h => by
    simp only [List.map_cons, List.mem_cons, not_or] at h
    simp only [layAll]
    rw [set_layAll h.2, List.set_comm _ _ h.1]
theorem layAll_comm : ∀ {u v : List (Nat × AObj)} {H : List AObj}, (∀ i ∈ u.map (·.1), i ∉ v.map (·.1)) → layAll (layAll H u) v = layAll (layAll H v) u
  | [], _, _, _ => rfl
  | (i, o) :: u, v, H, h => by
    simp only [layAll]
    rw [layAll_comm fun j hj => h j (by rw [List.map_cons]; exact List.mem_cons_of_mem _ hj), set_layAll (h i (by simp))]

theorem fpW_sub (op : MOp) : ∀ i ∈ fpW op, i ∈ fpR op := by
  cases op <;> simp only [fpW, fpR] <;> intro i hi <;> first
    | exact hi
    | (simp_all; done)
    | (simp only [List.mem_append, List.mem_cons] at hi ⊢; split at hi <;> simp_all; done)
    | (cases hi; done)
    | (simp_all [List.mem_append]; try (rcases hi with h | h | h <;> first | exact .inl h | (split at h <;> simp_all) | simp_all))

theorem disj_spec {a b : List Nat} (h : disj a b = true) : ∀ n ∈ a, n ∉ b := fun n hn hb => by
  have := List.all_eq_true.1 h n hn
  simp at this
  exact this hb

theorem wanted_congr {sl sl' : List AV} {g : Option (Nat × Bool)} (h : ∀ n ∈ (match g with | some (d, _) => [d] | none => [] : List Nat), sl.getD n .undef = sl'.getD n .undef) : wanted sl g = wanted sl' g := by
  cases g with
  | none => rfl
  | some p => obtain ⟨d, w⟩ := p; simp only [wanted, h d (by simp)]

def effOp (cf : CallF) (o : MOper) (st : St) : Eff :=
  match wanted st.sl o.guard with
  | some true => opV cf st.sl st.H o.op
  | some false => some (.tup [], [])
  | none => none
theorem stepOp_eff (cf : CallF) (o : MOper) (st : St) : stepOp cf o st = (effOp cf o st).map fun p => ⟨putV st.sl o.dst p.1, layAll st.H p.2⟩ := by
  unfold stepOp effOp
  cases wanted st.sl o.guard with
  | none => rfl
  | some b =>
    cases b
    · rfl
    · simp only []
      cases opV cf st.sl st.H o.op <;> rfl
theorem effOp_keys {cf : CallF} {o : MOper} {st : St} {x : AV} {u : List (Nat × AObj)} (h : effOp cf o st = some (x, u)) : ∀ i ∈ u.map (·.1), i ∈ fpW o.op := by
  unfold effOp at h
  split at h
  · exact opV_keys h
  · cases h; simp
  · cases h
theorem effOp_congr {cf : CallF} {o : MOper} {st st' : St} (hs : ∀ n ∈ o.looks, st.sl.getD n .undef = st'.sl.getD n .undef) (hH : ∀ i ∈ fpR o.op, st.H[i]? = st'.H[i]?) : effOp cf o st = effOp cf o st' := by
  unfold effOp
  rw [wanted_congr fun n hn => hs n (List.mem_append_left _ hn), opV_congr o.op (fun n hn => hs n (List.mem_append_right _ hn)) hH]

theorem eqCells_tot : ∀ {ks : List (Option IntKind)} {a b : List AV} {r s : Bool}, eqCells ks a a = some r → eqCells ks b b = some s → ∃ t, eqCells ks a b = some t
  | [], [], [], r, s, h, k => ⟨_, rfl⟩
  | [], [], _ :: _, _, _, _, k => by simp [eqCells] at k
  | [], _ :: _, _, _, _, h, _ => by simp [eqCells] at h
  | k :: ks, [], _, _, _, h, _ => by cases k <;> simp [eqCells] at h
  | k :: ks, x :: a, [], _, _, _, h => by cases k <;> simp [eqCells] at h
  | k :: ks, x :: a, y :: b, r, s, h, h' => by
    cases k with
    | none =>
      cases x <;> simp only [eqCells, reduceCtorEq] at h
      cases y <;> simp only [eqCells, reduceCtorEq] at h'
      obtain ⟨r', h3, _⟩ := Option.map_eq_some_iff.1 h
      obtain ⟨s', h4, _⟩ := Option.map_eq_some_iff.1 h'
      obtain ⟨t, ht⟩ := eqCells_tot h3 h4
      simp only [eqCells, ht, Option.map_some]
      exact ⟨_, rfl⟩
    | some k =>
      cases x <;> simp only [eqCells, reduceCtorEq] at h
      cases y <;> simp only [eqCells, reduceCtorEq] at h'
      split at h
      · rename_i hk
        split at h'
        · rename_i hk'
          obtain ⟨r', h3, _⟩ := Option.map_eq_some_iff.1 h
          obtain ⟨s', h4, _⟩ := Option.map_eq_some_iff.1 h'
          obtain ⟨t, ht⟩ := eqCells_tot h3 h4
          simp only [eqCells, hk.1, hk'.1, and_self, if_true, ht, Option.map_some]
          exact ⟨_, rfl⟩
        · cases h'
      · cases h
theorem mfind_app1 {ks : List (Option IntKind)} {k : List AV} {t : List (List AV × Int × Nat)} : ∀ {es : List (List AV × Int × Nat)} {i : Nat} {r : Nat × List AV × Int × Nat}, mfind ks k es i = some (some r) → mfind ks k (es ++ t) i = some (some r)
  | [], _, _, h => by simp [mfind] at h
  | e :: es, i, r, h => by
    simp only [mfind, List.cons_append] at h ⊢
    split at h
    · exact h
    · exact mfind_app1 h
    · cases h
theorem mfind_app2 {ks : List (Option IntKind)} {k : List AV} {t : List (List AV × Int × Nat)} : ∀ {es : List (List AV × Int × Nat)} {i : Nat}, mfind ks k es i = some none → mfind ks k (es ++ t) i = mfind ks k t (i + es.length)
  | [], i, _ => by simp
  | e :: es, i, h => by
    simp only [mfind, List.cons_append] at h ⊢
    split at h
    · cases h
    · simp only [List.length_cons]
      rw [mfind_app2 h, Nat.add_assoc, Nat.add_comm 1]
    · cases h
theorem lkEn_comm {cf : CallF} {m n : MOper} {st : St} {sl' : List AV} {x y : AV} {u v : List (Nat × AObj)} (hl : lkEn m.op n.op = true) (h1 : effOp cf m st = some (x, u)) (h2 : effOp cf n st = some (y, v))
    (hs : ∀ k ∈ m.looks, sl'.getD k .undef = st.sl.getD k .undef) : effOp cf m ⟨sl', layAll st.H v⟩ = some (x, u) := by
  have e0 : effOp cf m ⟨sl', layAll st.H v⟩ = effOp cf m ⟨st.sl, layAll st.H v⟩ := effOp_congr hs fun _ _ => rfl
  rw [e0]
  unfold effOp at h1 h2 ⊢
  split at h2
  · split at h1
    · rename_i hg
      simp only [hg]
      generalize m.op = mo at h1 hl ⊢
      generalize n.op = no at h2 hl ⊢
      cases mo <;> simp only [lkEn, Bool.false_eq_true] at hl
      rename_i ob ks ok xs kk
      cases ok
      case true => simp [lkEn] at hl
      cases no <;> simp only [lkEn, Bool.false_eq_true, Bool.and_eq_true, beq_iff_eq] at hl
      rename_i ob' ks' xs' kk'
      obtain ⟨rfl, rfl⟩ := hl
      simp only [opV] at h2
      split at h2
      · rename_i ver clk es kc i ke vv ss hlk
        cases h2
        obtain ⟨_, hq, _⟩ := mapLook_ok hlk
        have : layAll st.H [(ob, ⟨ver, .map clk es⟩)] = st.H := by
          simp only [layAll]
          apply List.ext_getElem?
          intro j
          by_cases e : ob = j
          · subst e; rw [hq]; exact set_get_eq hq
          · exact set_get_ne e
        rw [this]
        exact h1
      · rename_i ver clk es kc hlk
        cases h2
        obtain ⟨_, hq, _, hkc, _⟩ := mapLook_ok hlk
        have hg2 : (layAll st.H [(ob, ⟨ver, .map (clk + 1) (es ++ [(kc, 0, clk)])⟩)])[ob]? = some ⟨ver, .map (clk + 1) (es ++ [(kc, 0, clk)])⟩ := set_get_eq hq
        simp only [opV] at h1 ⊢
        have key : ∀ {ver1 clk1 es1 kc1 rr}, mapLook ks st.H ob (ev st.sl xs) (ev st.sl kk) = some (ver1, clk1, es1, kc1, rr) →
            ∃ rr', mapLook ks (layAll st.H [(ob, ⟨ver, .map (clk + 1) (es ++ [(kc, 0, clk)])⟩)]) ob (ev st.sl xs) (ev st.sl kk) = some (ver, clk + 1, es ++ [(kc, 0, clk)], kc1, rr') ∧ (rr'.map fun p => p.2.2.1).getD 0 = (rr.map fun p => p.2.2.1).getD 0 := by
          intro ver1 clk1 es1 kc1 rr h
          obtain ⟨hx, hq1, hk, hkk, hf⟩ := mapLook_ok h
          rw [hq] at hq1
          cases hq1
          have hmg : mapGet (layAll st.H [(ob, ⟨ver, .map (clk + 1) (es ++ [(kc, 0, clk)])⟩)]) ob (AV.mp ob ver) = some (ver, clk + 1, es ++ [(kc, 0, clk)]) := by
            simp [mapGet, hg2]
          have hkg : keyGet ks (.agg kc1) = some kc1 := by simp [keyGet, hkk]
          simp only [mapLook, hx, hk, hmg, hkg]
          cases rr with
          | some r => rw [mfind_app1 hf]; exact ⟨_, rfl, rfl⟩
          | none =>
            rw [mfind_app2 hf]
            simp only [mfind]
            obtain ⟨t, ht⟩ := eqCells_tot hkk hkc
            rw [ht]
            cases t
            · exact ⟨_, rfl, rfl⟩
            · exact ⟨_, rfl, rfl⟩
        split at h1
        · rename_i hlk1
          obtain ⟨rr', e1, e2⟩ := key hlk1
          rw [e1]
          cases rr' with
          | none => simp at e2; cases h1; simp [e2]
          | some p => simp at e2; cases h1; simp [e2]
        · rename_i hlk1
          obtain ⟨rr', e1, e2⟩ := key hlk1
          rw [e1]
          cases rr' with
          | none => cases h1; rfl
          | some p => simp at e2; cases h1; simp [e2]
        · cases h1
      · cases h2
    · rename_i hg; show (match wanted st.sl m.guard with | some true => _ | some false => _ | none => _) = _; rw [hg]; exact h1
    · cases h1
  · cases h2
    exact h1
  · cases h2

theorem stepOp_comm {cf : CallF} {m n : MOper} {st st1 st2 : St} (ha : apart m n = true) (h1 : stepOp cf m st = some st1) (h2 : stepOp cf n st1 = some st2) :
    ∃ st1', stepOp cf n st = some st1' ∧ stepOp cf m st1' = some st2 := by
  simp only [apart, Bool.and_eq_true] at ha
  obtain ⟨⟨⟨a1, a2⟩, a3⟩, a4⟩ := ha
  replace a1 := disj_spec a1
  replace a2 := disj_spec a2
  replace a3 := disj_spec a3
  rw [stepOp_eff] at h1 h2
  obtain ⟨⟨x, u⟩, e1, rfl⟩ := Option.map_eq_some_iff.1 h1
  obtain ⟨⟨y, v⟩, e2, rfl⟩ := Option.map_eq_some_iff.1 h2
  have ku := effOp_keys e1
  have kv := effOp_keys e2
  have e2' : effOp cf n st = some (y, v) := by
    rw [← e2]
    refine effOp_congr (fun k hk => (putV_get fun hd => a1 k hd (List.mem_append_left _ hk)).symm) fun i hi => (layAll_ne fun hm => a3 i (ku i hm) hi).symm
  refine ⟨⟨putV st.sl n.dst y, layAll st.H v⟩, by rw [stepOp_eff, e2']; rfl, ?_⟩
  have e1' : effOp cf m ⟨putV st.sl n.dst y, layAll st.H v⟩ = some (x, u) := by
    rcases (by simpa only [Bool.or_eq_true] using a4 : _ ∨ _) with a4 | a4
    · replace a4 := disj_spec a4
      rw [← e1]
      exact effOp_congr (fun k hk => putV_get fun hd => a2 k hd hk) fun i hi => layAll_ne fun hm => a4 i (kv i hm) hi
    · exact lkEn_comm a4 e1 e2' fun k hk => putV_get fun hd => a2 k hd hk
  rw [stepOp_eff, e1']
  simp only [Option.map_some, Option.some.injEq, St.mk.injEq]
  refine ⟨(putV_comm fun k hk hn => a1 k hk (List.mem_append_right _ hn)).symm, (layAll_comm fun i hi hj => a3 i (ku i hi) (fpW_sub _ _ (kv i hj))).symm⟩

end Go.Ev
end
section
namespace Go.Ev
variable {P : Program} {E : Env} {ops : Array Oper} {ms : List MOper} {cf : CallF} {Q : Exit → Act → World → Prop}

def Good (E : Env) (a : Act) (st : St) (K : Act → World → Prop) : Prop :=
  ∀ (E' : Env) (a' : Act), E'.H = st.H → WRel E' → ARel E' st.sl a' → Step E E' → a'.defers = a.defers → K a' E'.w

theorem LRel.set {E : Env} : ∀ {cs : List AV} {vs : List Value} {c : AV} {v : Value} (d : Nat), LRel E cs vs → VRel E c v → LRel E (cs.set d c) (vs.set d v)
  | [], vs, c, v, d, h, _ => by simp only [LRel] at h; subst h; simp [LRel]
  | x :: cs, vs, c, v, d, h, k => by
    simp only [LRel] at h
    obtain ⟨u, r, rfl, h1, h2⟩ := h
    cases d with
    | zero => exact ⟨v, r, rfl, k, h2⟩
    | succ d => exact ⟨u, r.set d v, rfl, h1, h2.set d k⟩

theorem ARel.put {sl : List AV} {a : Act} {x : AV} {v : Value} (h : ARel E sl a) (hv : VRel E x v) (d : Option Nat) : ARel E (putV sl d x) (a.put d v) := by
  cases d with
  | none => exact h
  | some d =>
    unfold ARel Act.put
    simp only [putV, Array.toList_setIfInBounds]
    exact h.set d hv
theorem ARel.mono {E E' : Env} (h : Step E E') {sl : List AV} {a : Act} (hs : ARel E sl a) : ARel E' sl a := LRel.mono h hs

theorem put_defers (a : Act) (d : Option Nat) (v : Value) : (a.put d v).defers = a.defers := by cases d <;> rfl

theorem undef_rel (E : Env) : VRel E (.tup []) undef := by
  simp only [VRel, LRel]
  exact ⟨#[], rfl, rfl⟩

theorem guard_run {sl : List AV} {a : Act} (hs : ARel E sl a) {g : Option (Nat × Bool)} {o : Oper} (hg : chkGuard ops g o.guard = true) {b : Bool} (h : wanted sl g = some b) :
    Region.wanted o (yielded ops a.tmps) = b := by
  cases g with
  | none =>
    simp only [wanted, Option.some.injEq] at h
    subst h
    cases ho : o.guard with
    | none => simp [Region.wanted, ho]
    | some p => rw [ho] at hg; simp [chkGuard] at hg
  | some p =>
    obtain ⟨d, w⟩ := p
    cases ho : o.guard with
    | none => rw [ho] at hg; simp [chkGuard] at hg
    | some q =>
      obtain ⟨j, w'⟩ := q
      rw [ho] at hg
      simp only [chkGuard, Bool.and_eq_true, beq_iff_eq] at hg
      obtain ⟨rfl, hd⟩ := hg
      simp only [Region.wanted, ho, yielded, hd, Option.bind_some]
      simp only [wanted, List.getD_eq_getElem?_getD] at h
      cases hg : sl[d]? with
      | none => rw [hg] at h; simp at h
      | some c =>
        obtain ⟨v, hv, hr⟩ := LRel.get hs d c hg
        rw [hg] at h
        simp only [Option.getD_some] at h
        have hv' : a.tmps[d]? = some v := by simpa using hv
        rw [hv']
        split at h
        · rename_i b' 
          simp only [VRel] at hr
          subst hr
          cases h
          simp only []
          cases b' <;> cases w <;> rfl
        · simp only [VRel, LRel] at hr
          obtain ⟨arr, rfl, h0⟩ := hr
          cases h
          simp
        · cases h

theorem stepOp_sound (hcf : CfSound P cf) {i : Nat} {m : MOper} {o : Oper} {a : Act} {sl : List AV} {st' : St} (hi : ops[i]? = some o) (hc : chkOper P ops m o = true) (hw : WRel E) (hs : ARel E sl a)
    (h : stepOp cf m ⟨sl, E.H⟩ = some st') {K : Act → World → Prop} (hK : Good E a st' K) : wpOp P ops Q i K a E.w := by
  simp only [chkOper, Bool.and_eq_true, beq_iff_eq] at hc
  obtain ⟨⟨hd, hg⟩, hop⟩ := hc
  unfold wpOp
  simp only [hi]
  unfold stepOp at h
  split at h
  · rename_i hwt
    simp only at hwt h
    rw [guard_run hs hg hwt]
    simp only [if_true]
    split at h
    · rename_i x ups he
      cases h
      refine .inl (opV_sound hcf hw hs hop he K Q ?_)
      rintro v w' ⟨ρ, h1, h2, h3⟩
      exact hK (Lay E ups ρ w') (a.put o.dst v) rfl h1 (by rw [hd]; exact (hs.mono h2).put h3 _) h2 (put_defers ..)
    · cases h
  · rename_i hwt
    simp only at hwt h
    rw [guard_run hs hg hwt]
    simp only [Bool.false_eq_true, if_false]
    cases h
    exact hK E (a.put o.dst undef) rfl hw (by rw [hd]; exact hs.put (undef_rel E) _) (.refl _) (put_defers ..)
  · cases h

theorem region_text (hcf : CfSound P cf) : ∀ {ms : List MOper} {os : List Oper} {k : Nat} {E : Env} {a : Act} {sl : List AV} {st' : St}, chkOpers P ops ms os = true → ops.toList.drop k = os → WRel E → ARel E sl a →
    runOps cf ms ⟨sl, E.H⟩ = some st' → Good E a st' (Q .normal) → wpOps P ops Q (List.range' k os.length) a E.w
  | [], [], k, E, a, sl, st', _, _, hw, hs, h, hK => by
    simp only [runOps, Option.some.injEq] at h
    subst h
    simp only [List.length_nil, List.range'_zero, wpOps]
    exact hK E a rfl hw hs (.refl _) rfl
  | [], _ :: _, _, _, _, _, _, hc, _, _, _, _, _ => by simp [chkOpers] at hc
  | _ :: _, [], _, _, _, _, _, hc, _, _, _, _, _ => by simp [chkOpers] at hc
  | m :: ms, o :: os, k, E, a, sl, st', hc, hdrop, hw, hs, h, hK => by
    simp only [chkOpers, Bool.and_eq_true] at hc
    have hk : ops[k]? = some o := by
      have := congrArg (·[0]?) hdrop
      simpa [List.getElem?_drop] using this
    have hdrop' : ops.toList.drop (k + 1) = os := by
      rw [← List.drop_drop, hdrop]; rfl
    simp only [List.length_cons, List.range'_succ]
    rw [wpOps_cons]
    simp only [runOps] at h
    split at h
    · rename_i st1 h1
      refine stepOp_sound hcf hk hc.1 hw hs h1 fun E' a' hH hw' hs' hst hdf => ?_
      refine region_text hcf hc.2 hdrop' hw' hs' (by rw [hH]; exact h) fun E'' a'' q1 q2 q3 q4 q5 => hK E'' a'' q1 q2 q3 (hst.trans q4) (q5.trans hdf)
    · cases h

def anyOk (cf : CallF) (ops : Array Oper) (ms : List MOper) : Nat → Array Bool → St → St → Prop
  | 0, listed, st, st' => Region.ready .any ops listed = [] ∧ st = st'
  | n + 1, listed, st, st' => (Region.ready .any ops listed = [] → st = st') ∧
    ∀ i ∈ Region.ready .any ops listed, ∃ m st1, ms[i]? = some m ∧ stepOp cf m st = some st1 ∧ anyOk cf ops ms n (listed.setIfInBounds i true) st1 st'

theorem chkOpers_get : ∀ {ms : List MOper} {os : List Oper} {i : Nat} {m : MOper} {o : Oper}, chkOpers P ops ms os = true → ms[i]? = some m → os[i]? = some o → chkOper P ops m o = true
  | [], _, i, m, o, _, h, _ => by simp at h
  | _ :: _, [], i, m, o, h, _, _ => by simp [chkOpers] at h
  | x :: ms, y :: os, i, m, o, h, h1, h2 => by
    simp only [chkOpers, Bool.and_eq_true] at h
    cases i with
    | zero => simp at h1 h2; subst h1; subst h2; exact h.1
    | succ i => exact chkOpers_get h.2 (by simpa using h1) (by simpa using h2)

theorem anyOk_sound (hcf : CfSound P cf) (hc : chkOpers P ops ms ops.toList = true) : ∀ {n : Nat} {listed : Array Bool} {E : Env} {a : Act} {sl : List AV} {st' : St}, WRel E → ARel E sl a →
    anyOk cf ops ms n listed ⟨sl, E.H⟩ st' → Good E a st' (Q .normal) → wpAny P .any ops Q n listed a E.w
  | 0, listed, E, a, sl, st', hw, hs, h, hK => by
    obtain ⟨h1, rfl⟩ := h
    exact ⟨h1, hK E a rfl hw hs (.refl _) rfl⟩
  | n + 1, listed, E, a, sl, st', hw, hs, h, hK => by
    obtain ⟨h1, h2⟩ := h
    refine ⟨fun e => ?_, fun i hi => ?_⟩
    · have := h1 e
      subst this
      exact hK E a rfl hw hs (.refl _) rfl
    · obtain ⟨m, st1, hm, hstep, hrest⟩ := h2 i hi
      obtain ⟨_, o, ho, _⟩ := mem_ready.1 hi
      refine stepOp_sound hcf ho (chkOpers_get hc hm (by simpa using ho)) hw hs hstep fun E' a' hH hw' hs' hst hdf => ?_
      refine anyOk_sound hcf hc hw' hs' (by rw [hH]; exact hrest) fun E'' a'' q1 q2 q3 q4 q5 => hK E'' a'' q1 q2 q3 (hst.trans q4) (q5.trans hdf)

inductive Reach (ops : Array Oper) (i : Nat) : Nat → Prop
  | one {j : Nat} {o : Oper} {e : Edge} : ops[j]? = some o → e ∈ o.after → Region.binds .any e = true → e.on = i → Reach ops i j
  | more {j : Nat} {o : Oper} {e : Edge} : ops[j]? = some o → e ∈ o.after → Region.binds .any e = true → Reach ops i e.on → Reach ops i j

def DownC (ops : Array Oper) (listed : Array Bool) : Prop :=
  ∀ (j : Nat) (o : Oper), ops[j]? = some o → listed.getD j false = true → ∀ e ∈ o.after, Region.binds .any e = true → listed.getD e.on false = true

theorem reach_listed {listed : Array Bool} (hd : DownC ops listed) {i j : Nat} (h : Reach ops i j) :
    (∀ o : Oper, ops[j]? = some o → ∀ e ∈ o.after, Region.binds .any e = true → listed.getD e.on false = true) → listed.getD i false = true := by
  induction h with
  | one ho he hb hi => intro hl; exact hi ▸ hl _ ho _ he hb
  | more ho he hb _ ih => intro hl; exact ih fun o' ho' => hd _ o' ho' (hl _ ho _ he hb)

theorem before_reach (i : Nat) : ∀ j, (((Region.before ops).getD j 0).testBit i) = true → Reach ops i j := by
  have := Array.foldl_induction (as := ops) (motive := fun k (acc : Array Nat) => acc.size = k ∧ ∀ j, (acc.getD j 0).testBit i = true → Reach ops i j) (init := (#[] : Array Nat))
    (f := fun acc o => acc.push (o.after.foldl (fun s e => if Region.binds .any e then s ||| 2 ^ e.on ||| acc.getD e.on 0 else s) 0)) ⟨rfl, fun j h => by simp at h⟩
    (fun k acc hacc => by
      obtain ⟨hsz, hR⟩ := hacc
      refine ⟨by simp [hsz], fun j hj => ?_⟩
      by_cases e : j = acc.size
      · subst e
        have hk : ops[acc.size]? = some ops[k] := by rw [hsz]; exact Array.getElem?_eq_getElem k.2
        have h2 : ((ops[k]).after.foldl (fun s e => if Region.binds .any e then s ||| 2 ^ e.on ||| acc.getD e.on 0 else s) 0).testBit i = true := by
          simpa using hj
        have := Array.foldl_induction (as := (ops[k]).after) (motive := fun _ (s : Nat) => s.testBit i = true → Reach ops i acc.size) (init := 0)
          (f := fun s e => if Region.binds .any e then s ||| 2 ^ e.on ||| acc.getD e.on 0 else s) (fun h => by simp at h)
          (fun x s hs h => by
            split at h
            · rename_i hb
              have hmem : (ops[k]).after[x] ∈ (ops[k]).after := Array.getElem_mem x.2
              simp only [Nat.testBit_or, Bool.or_eq_true] at h
              rcases h with (h | h) | h
              · exact hs h
              · rw [Nat.testBit_two_pow] at h
                exact .one hk hmem hb (by simpa using h)
              · exact .more hk hmem hb (hR _ h)
            · exact hs h)
        exact this h2
      · refine hR j ?_
        rw [← hj]
        congr 1
        simp only [Array.getD_eq_getD_getElem?, Array.getElem?_push, if_neg e])
  exact this.2

theorem anyOk_first {i : Nat} {m : MOper} {st' : St} (hm : ms[i]? = some m) (hlen : ms.length = ops.size) :
    ∀ (n : Nat) (listed : Array Bool) (st st1 : St), DownC ops listed →
      (∀ j mj, ms[j]? = some mj → j ≠ i → listed.getD j true = false → depOn ops i j = false → apart m mj = true) →
      i ∈ Region.ready .any ops listed → stepOp cf m st = some st1 → anyOk cf ops ms n (listed.setIfInBounds i true) st1 st' → anyOk cf ops ms (n + 1) listed st st' := by
  intro n
  induction n with
  | zero =>
    intro listed st st1 _ _ hr hs H
    refine ⟨fun h => (by rw [h] at hr; cases hr), fun j hj => ?_⟩
    by_cases hji : j = i
    · subst hji; exact ⟨m, st1, hm, hs, H⟩
    · have := ready_mono hj hji
      rw [H.1] at this
      cases this
  | succ n ih =>
    intro listed st st1 hd hfree hr hs H
    refine ⟨fun h => (by rw [h] at hr; cases hr), fun j hj => ?_⟩
    by_cases hji : j = i
    · subst hji; exact ⟨m, st1, hm, hs, H⟩
    · obtain ⟨mj, st2, hmj, hsj, H2⟩ := H.2 j (ready_mono hj hji)
      obtain ⟨hjun, oj, hoj, hall⟩ := mem_ready.1 hj
      have hiun := (mem_ready.1 hr).1
      have hdep : depOn ops i j = false := by
        cases hb : depOn ops i j with
        | false => rfl
        | true =>
          have := reach_listed hd (before_reach i j hb) fun o ho e he hbi => hall' hoj ho hall e he hbi
          rcases Nat.lt_or_ge i listed.size with h' | h'
          · simp [h'] at hiun this; rw [hiun] at this; cases this
          · simp [Array.getElem?_eq_none h'] at hiun
      obtain ⟨st3, h3, h4⟩ := stepOp_comm (hfree j mj hmj hji hjun hdep) hs hsj
      refine ⟨mj, st3, hmj, h3, ih (listed.setIfInBounds j true) st3 st2 ?_ ?_ (ready_mono hr (Ne.symm hji)) h4 ?_⟩
      · intro k o hk hl e he hb
        by_cases hkj : k = j
        · subst hkj
          rw [hoj] at hk; cases hk
          exact getD_set_true (hall e he hb)
        · refine getD_set_true (hd k o hk ?_ e he hb)
          rwa [getD_set_ne false (Ne.symm hkj)] at hl
      · intro k mk hk hki hun hdk
        refine hfree k mk hk hki ?_ hdk
        by_cases hjk : j = k
        · subst hjk; exact hjun
        · rwa [getD_set_ne true hjk] at hun
      · rw [Array.setIfInBounds_comm _ _ hji]
        exact H2
  where
  hall' {j : Nat} {oj o : Oper} {listed : Array Bool} (hoj : ops[j]? = some oj) (ho : ops[j]? = some o) (hall : ∀ e ∈ oj.after, Region.binds .any e = true → listed.getD e.on false = true) :
      ∀ e ∈ o.after, Region.binds .any e = true → listed.getD e.on false = true := by
    rw [hoj] at ho; cases ho; exact hall

def upTo (n k : Nat) : Array Bool := ((List.range n).map fun i => decide (i < k)).toArray
theorem upTo_getD {n k j : Nat} (d : Bool) (h : j < n) : (upTo n k).getD j d = decide (j < k) := by
  simp [upTo, h]
theorem upTo_set {n k : Nat} (h : k < n) : (upTo n k).setIfInBounds k true = upTo n (k + 1) := by
  apply Array.ext_getElem?
  intro i
  rw [Array.getElem?_setIfInBounds]
  split
  · rename_i e
    subst e
    simp [upTo, h]
  · rename_i e
    simp only [upTo, List.getElem?_toArray, List.getElem?_map]
    by_cases hi : i < n
    · simp only [List.getElem?_range hi, Option.map_some, Option.some.injEq, decide_eq_decide]
      omega
    · rw [List.getElem?_eq_none (by simpa using hi)]; rfl

theorem lexFrom_any (hlen : ms.length = ops.size) (haf : afterB ops = true) : ∀ {rest : List MOper} {k : Nat} {st st' : St}, lexFrom ops ms k rest = true → ms.drop k = rest → k + rest.length = ms.length →
    runOps cf rest st = some st' → anyOk cf ops ms rest.length (upTo ops.size k) st st'
  | [], k, st, st', _, _, hk, h => by
    simp only [runOps, Option.some.injEq] at h
    refine ⟨?_, h⟩
    simp only [List.length_nil] at hk
    cases hr : Region.ready .any ops (upTo ops.size k) with
    | nil => rfl
    | cons i r =>
      exfalso
      have hi : i ∈ Region.ready .any ops (upTo ops.size k) := by rw [hr]; exact List.mem_cons_self ..
      obtain ⟨h1, o, ho, _⟩ := mem_ready.1 hi
      have hlt : i < ops.size := (Array.getElem?_eq_some_iff.1 ho).1
      rw [upTo_getD true hlt] at h1
      simp at h1
      omega
  | m :: rest, k, st, st', hl, hd, hk, h => by
    simp only [lexFrom, Bool.and_eq_true] at hl
    obtain ⟨hl1, hl2⟩ := hl
    simp only [runOps] at h
    split at h
    · rename_i st1 h1
      have hm : ms[k]? = some m := by
        have := congrArg (·[0]?) hd
        simpa [List.getElem?_drop] using this
      have hd' : ms.drop (k + 1) = rest := by rw [← List.drop_drop, hd]; rfl
      simp only [List.length_cons] at hk
      have hkn : k < ops.size := by omega
      have hdown : DownC ops (upTo ops.size k) := by
        intro j o hj hlj e he hb
        have hjn : j < ops.size := (Array.getElem?_eq_some_iff.1 hj).1
        rw [upTo_getD false hjn] at hlj
        have := after_lt haf hj he hb
        rw [upTo_getD false (by omega)]
        simp at hlj ⊢
        omega
      refine anyOk_first hm hlen rest.length (upTo ops.size k) st st1 hdown ?_ ?_ h1 ?_
      · intro j mj hj hne hun hdep
        have hjn : j < ms.length := (List.getElem?_eq_some_iff.1 hj).1
        have := List.all_eq_true.1 hl1 j (List.mem_range.2 hjn)
        rw [upTo_getD true (by omega)] at hun
        simp at hun
        simp only [hdep, Bool.or_false, hj, Bool.or_eq_true, decide_eq_true_eq] at this
        rcases this with h | h
        · omega
        · exact h
      · refine mem_ready.2 ⟨?_, ops[k], Array.getElem?_eq_getElem hkn, fun e he hb => ?_⟩
        · rw [upTo_getD true hkn]; simp
        · have := after_lt haf (Array.getElem?_eq_getElem hkn) he hb
          rw [upTo_getD false (by omega)]
          simp [this]
      · rw [upTo_set hkn]
        exact lexFrom_any hlen haf hl2 hd' (by omega) h
    · cases h
  where
  after_lt (haf : afterB ops = true) {j : Nat} {o : Oper} {e : Edge} (hj : ops[j]? = some o) (he : e ∈ o.after) (hb : Region.binds .any e = true) : e.on < j := by
    have hjn : j < ops.size := (Array.getElem?_eq_some_iff.1 hj).1
    have := List.all_eq_true.1 haf j (List.mem_range.2 hjn)
    rw [hj] at this
    have := Array.all_eq_true_iff_forall_mem.1 this e he
    simpa [hb] using this

theorem upTo_zero (n : Nat) : upTo n 0 = Array.replicate n false := by
  apply Array.ext_getElem?
  intro i
  simp only [upTo, List.getElem?_toArray, List.getElem?_map, Array.getElem?_replicate]
  by_cases hi : i < n
  · simp [List.getElem?_range hi, hi]
  · rw [List.getElem?_eq_none (by simpa using hi)]; simp [hi]

theorem region_sound (hcf : CfSound P cf) {id : Nat} {d : Bool} (hc : chkCode P (.region d ms) (.region id ops d) = true) {E : Env} {a : Act} {sl : List AV} {st' : St} (hw : WRel E) (hs : ARel E sl a)
    (h : runOps cf ms ⟨sl, E.H⟩ = some st') (hK : Good E a st' (Q .normal)) : (Code.region id ops d).wp P Q a E.w := by
  simp only [chkCode, Bool.and_eq_true, beq_iff_eq] at hc
  obtain ⟨⟨⟨_, hlen⟩, hops⟩, hdraw⟩ := hc
  cases d with
  | false =>
    refine wp_region ?_
    rw [List.range_eq_range']
    have := region_text (k := 0) (Q := Q) hcf hops rfl hw hs h hK
    simpa using this
  | true =>
    simp only [Bool.not_true, Bool.false_or, Bool.and_eq_true] at hdraw
    obtain ⟨⟨hm, haf⟩, hlex⟩ := hdraw
    obtain ⟨hw1, hst1⟩ := hw.drew
    refine wp_region_any hm ?_
    have hany := lexFrom_any (cf := cf) hlen haf hlex rfl (by simp) h
    rw [upTo_zero, hlen] at hany
    have := anyOk_sound (Q := Q) (E := ⟨E.F, E.H, E.ρ, E.w.drew⟩) hcf hops hw1 (hs.mono hst1) hany fun E' a' q1 q2 q3 q4 q5 => hK E' a' q1 q2 q3 (hst1.trans q4) q5
    exact this

end Go.Ev
end
section
namespace Go.Ev
variable {P : Program} {E : Env} {cf : CallF}

structure StepM (m : Nat) (E E' : Env) : Prop where
  F : E'.F = E.F
  obj : ∀ (i : Nat) (o : AObj), i < m → E.H[i]? = some o → ∃ o' : AObj, E'.H[i]? = some o' ∧ o.ver ≤ o'.ver ∧ (o'.ver = o.ver → sameShape o.body o'.body ∧ E'.ρ[i]? = E.ρ[i]?)
  w : Wst E.Mut E'.Mut E.w E'.w
theorem StepM.refl (m : Nat) (E : Env) : StepM m E E := ⟨rfl, fun _ o _ h => ⟨o, h, Nat.le_refl _, fun _ => ⟨.refl _, rfl⟩⟩, .refl _ _⟩
theorem StepM.trans {m : Nat} {A B C : Env} (h : StepM m A B) (k : StepM m B C) : StepM m A C where
  F := k.F.trans h.F
  obj i o hi ho := by
    obtain ⟨o1, h1, l1, s1⟩ := h.obj i o hi ho
    obtain ⟨o2, h2, l2, s2⟩ := k.obj i o1 hi h1
    refine ⟨o2, h2, by omega, fun e => ?_⟩
    obtain ⟨a1, a2⟩ := s1 (by omega)
    obtain ⟨b1, b2⟩ := s2 (by omega)
    exact ⟨a1.trans b1, b2.trans a2⟩
  w := h.w.trans k.w
theorem Step.toM {E E' : Env} (h : Step E E') (m : Nat) : StepM m E E' := ⟨h.F, fun i o _ ho => h.obj i o ho, h.w⟩

theorem fixObjs_ok {m : Nat} {ids : List Nat} {H : List AObj} : ∀ {L L' : List AObj} {k : Nat}, fixObjs m ids H k L = some L' →
    L'.length = L.length ∧ ∀ (j : Nat) (o : AObj), L[j]? = some o → ∃ o' : AObj, L'[j]? = some o' ∧
      ((k + j < m ∧ ∃ b, fixBody m ids H o.body = some b ∧ o' = ⟨o.ver, b⟩) ∨ (m ≤ k + j ∧ ids.contains (k + j) = true ∧ ∃ b, fixBody m ids H o.body = some b ∧ o' = ⟨0, b⟩) ∨ (m ≤ k + j ∧ ids.contains (k + j) = false ∧ o' = ⟨0, .none⟩))
  | [], L', k, h => by simp only [fixObjs, Option.some.injEq] at h; subst h; exact ⟨rfl, fun j o h => by simp at h⟩
  | o :: L, L', k, h => by
    simp only [fixObjs] at h
    split at h
    · rename_i o' r' h1 h2
      cases h
      obtain ⟨k1, k2⟩ := fixObjs_ok h2
      refine ⟨by simp [k1], fun j q hq => ?_⟩
      cases j with
      | zero =>
        simp at hq; subst hq
        refine ⟨o', rfl, ?_⟩
        simp only [Nat.add_zero]
        split at h1
        · rename_i hlt
          obtain ⟨b, hb, rfl⟩ := Option.map_eq_some_iff.1 h1
          exact .inl ⟨hlt, b, hb, rfl⟩
        · rename_i hge
          split at h1
          · rename_i hc
            obtain ⟨b, hb, rfl⟩ := Option.map_eq_some_iff.1 h1
            exact .inr (.inl ⟨by omega, hc, b, hb, rfl⟩)
          · rename_i hc
            cases h1
            exact .inr (.inr ⟨by omega, by simpa using hc, rfl⟩)
      | succ j =>
        have := k2 j q (by simpa using hq)
        rw [show k + 1 + j = k + (j + 1) by omega] at this
        simpa using this
    · cases h

theorem fixBody_mut {m : Nat} {ids : List Nat} {H : List AObj} {b b' : ABody} (h : fixBody m ids H b = some b') : b'.isMut = b.isMut ∧ sameShape b b' := by
  cases b with
  | none => simp only [fixBody, Option.some.injEq] at h; subst h; exact ⟨rfl, trivial⟩
  | map _ _ => simp only [fixBody, Option.some.injEq] at h; subst h; exact ⟨rfl, trivial⟩
  | var cs =>
    simp only [fixBody] at h
    split at h
    · cases h; exact ⟨rfl, by simp [sameShape]⟩
    · cases h
  | row mu sz cs => simp only [fixBody, Option.some.injEq] at h; subst h; exact ⟨rfl, rfl, rfl⟩

section
variable {m : Nat} {ids : List Nat} {H' : List AObj}

def nEnv (E : Env) (H' : List AObj) : Env := ⟨E.F, H', E.ρ, E.w⟩

theorem n_get (hf : fixObjs m ids E.H 0 E.H = some H') {i : Nat} {o : AObj} (h : E.H[i]? = some o) : ∃ o' : AObj, H'[i]? = some o' ∧
      ((i < m ∧ ∃ b, fixBody m ids E.H o.body = some b ∧ o' = ⟨o.ver, b⟩) ∨ (m ≤ i ∧ ids.contains i = true ∧ ∃ b, fixBody m ids E.H o.body = some b ∧ o' = ⟨0, b⟩) ∨ (m ≤ i ∧ ids.contains i = false ∧ o' = ⟨0, .none⟩)) := by
  have := (fixObjs_ok hf).2 i o h
  simpa using this
theorem n_old (hf : fixObjs m ids E.H 0 E.H = some H') {i : Nat} {o' : AObj} (h : H'[i]? = some o') : ∃ o : AObj, E.H[i]? = some o := by
  have h1 := (fixObjs_ok hf).1
  have h2 := (List.getElem?_eq_some_iff.1 h).1
  exact ⟨_, List.getElem?_eq_getElem (by omega)⟩

theorem n_mut (hf : fixObjs m ids E.H 0 E.H = some H') {i b : Nat} (h : (nEnv E H').mutAt i b) : E.mutAt i b := by
  obtain ⟨o', base, h1, h2, h3⟩ := h
  obtain ⟨o, ho⟩ := n_old hf h1
  obtain ⟨o'', h4, h5⟩ := n_get hf ho
  have : o'' = o' := Option.some.inj (h4.symm.trans h1)
  subst this
  refine ⟨o, base, ho, ?_, h3⟩
  rcases h5 with ⟨_, b', h5, rfl⟩ | ⟨_, _, b', h5, rfl⟩ | ⟨_, _, rfl⟩
  · rw [← (fixBody_mut h5).1]; exact h2
  · rw [← (fixBody_mut h5).1]; exact h2
  · cases h2
theorem n_X (hf : fixObjs m ids E.H 0 E.H = some H') {b : Nat} (h : ¬ E.X b) : ¬ (nEnv E H').X b := by
  rintro (q | ⟨i, q⟩)
  · exact h (.inl q)
  · exact h (.inr ⟨i, n_mut hf q⟩)
theorem n_keep (hf : fixObjs m ids E.H 0 E.H = some H') : ∀ b, b < E.w.heap.size → ¬ E.X b → ¬ (nEnv E H').X b ∧ ∀ o, (nEnv E H').w.cell? ⟨b, o, none⟩ = E.w.cell? ⟨b, o, none⟩ :=
  fun b _ h => ⟨n_X hf h, fun _ => rfl⟩

theorem n_own (hf : fixObjs m ids E.H 0 E.H = some H') {i ver ver' off len sz : Nat} {v : Value} {o o' : AObj} (ho : E.H[i]? = some o) (ho' : H'[i]? = some o') (hsh : sameShape o.body o'.body)
    (hv : ver' ≤ o'.ver) (hvv : ver' = o'.ver → ver = o.ver) (h : ORel E i ver off len sz v) : ORel (nEnv E H') i ver' off len sz v := by
  obtain ⟨a, cap, h1, h2, h3, q, hq, hle, hfact⟩ := h
  rw [ho] at hq; cases hq
  refine ⟨a, cap, h1, h2, h3, o', ho', hv, fun e => ?_⟩
  have hfact := hfact (hvv e)
  cases ob : o.body with
  | none => rw [ob] at hfact; exact hfact.elim
  | map _ _ => rw [ob] at hfact; exact hfact.elim
  | var cs =>
    cases ob' : o'.body <;> rw [ob, ob'] at hsh <;> simp only [sameShape] at hsh
    rw [ob] at hfact
    exact ⟨by have := hfact.1; omega, hfact.2⟩
  | row mu s cs =>
    cases ob' : o'.body <;> rw [ob, ob'] at hsh <;> simp only [sameShape] at hsh
    rw [ob] at hfact
    refine ⟨by have := hfact.1; omega, hfact.2.imp id fun ⟨h2, h3⟩ => ⟨?_, h3⟩⟩
    have := hsh.2
    rw [h2] at this
    exact List.length_eq_zero_iff.1 this.symm
theorem n_ptr {i ver ver' off : Nat} {v : Value} {o o' : AObj} (ho : E.H[i]? = some o) (ho' : H'[i]? = some o')
    (hv : ver' ≤ o'.ver) (hvv : ver' = o'.ver → ver = o.ver) (h : PRel E i ver off v) : PRel (nEnv E H') i ver' off v := by
  obtain ⟨a, h1, q, hq, hle, hfact⟩ := h
  rw [ho] at hq; cases hq
  exact ⟨a, h1, o', ho', hv, fun e => hfact (hvv e)⟩

theorem n_mp {i ver ver' : Nat} {v : Value} {o o' : AObj} (ho : E.H[i]? = some o) (ho' : H'[i]? = some o')
    (hv : ver' ≤ o'.ver) (hvv : ver' = o'.ver → ver = o.ver) (h : MRel E i ver v) : MRel (nEnv E H') i ver' v := by
  obtain ⟨a, h1, q, hq, hle, hfact⟩ := h
  rw [ho] at hq; cases hq
  exact ⟨a, h1, o', ho', hv, fun e => hfact (hvv e)⟩

theorem fixCell_rel (hf : fixObjs m ids E.H 0 E.H = some H') {a : AV} {v : Value} (h : VRel E a v) : VRel (nEnv E H') (fixCell m ids E.H a) v := by
  cases a
  case own i ver off len sz =>
    simp only [fixCell]
    split
    · rename_i hlt
      simp only [VRel] at h ⊢
      have h' := h
      obtain ⟨_, _, _, _, _, q, hq, hle, _⟩ := h'
      obtain ⟨o', ho', hc⟩ := n_get hf hq
      rcases hc with ⟨_, b, hb, rfl⟩ | ⟨hm, _⟩ | ⟨hm, _⟩
      · exact n_own hf hq ho' (fixBody_mut hb).2 hle (fun e => e) h
      · omega
      · omega
    · rename_i hge
      split
      · rename_i o ho
        split
        · rename_i hc
          simp only [VRel] at h ⊢
          obtain ⟨o', ho', hcc⟩ := n_get hf ho
          rcases hcc with ⟨hm, _⟩ | ⟨_, _, b, hb, rfl⟩ | ⟨_, hm, _⟩
          · omega
          · exact n_own hf ho ho' (fixBody_mut hb).2 (Nat.le_refl _) (fun _ => hc.2.symm) h
          · rw [hc.1] at hm; cases hm
        · trivial
      · trivial
  case ptr i ver off =>
    simp only [fixCell]
    split
    · rename_i hlt
      simp only [VRel] at h ⊢
      have h' := h
      obtain ⟨_, _, q, hq, hle, _⟩ := h'
      obtain ⟨o', ho', hc⟩ := n_get hf hq
      rcases hc with ⟨_, b, hb, rfl⟩ | ⟨hm, _⟩ | ⟨hm, _⟩
      · exact n_ptr hq ho' hle (fun e => e) h
      · omega
      · omega
    · rename_i hge
      split
      · rename_i o ho
        split
        · rename_i hc
          simp only [VRel] at h ⊢
          obtain ⟨o', ho', hcc⟩ := n_get hf ho
          rcases hcc with ⟨hm, _⟩ | ⟨_, _, b, hb, rfl⟩ | ⟨_, hm, _⟩
          · omega
          · exact n_ptr ho ho' (Nat.le_refl _) (fun _ => hc.2.symm) h
          · rw [hc.1] at hm; cases hm
        · trivial
      · trivial
  case mp i ver =>
    simp only [fixCell]
    split
    · rename_i hlt
      simp only [VRel] at h ⊢
      have h' := h
      obtain ⟨_, _, q, hq, hle, _⟩ := h'
      obtain ⟨o', ho', hc⟩ := n_get hf hq
      rcases hc with ⟨_, b, hb, rfl⟩ | ⟨hm, _⟩ | ⟨hm, _⟩
      · exact n_mp hq ho' hle (fun e => e) h
      · omega
      · omega
    · rename_i hge
      split
      · rename_i o ho
        split
        · rename_i hc
          simp only [VRel] at h ⊢
          obtain ⟨o', ho', hcc⟩ := n_get hf ho
          rcases hcc with ⟨hm, _⟩ | ⟨_, _, b, hb, rfl⟩ | ⟨_, hm, _⟩
          · omega
          · exact n_mp ho ho' (Nat.le_refl _) (fun _ => hc.2.symm) h
          · rw [hc.1] at hm; cases hm
        · trivial
      · trivial
  case agg cs => trivial
  case tup cs => trivial
  case fn f xs ys => trivial
  all_goals exact VRel.keepT (n_keep hf) _ _ rfl h

theorem fixCells_rel (hf : fixObjs m ids E.H 0 E.H = some H') {cs : List AV} {vs : List Value} (h : LRel E cs vs) : LRel (nEnv E H') (cs.map (fixCell m ids E.H)) vs := by
  refine LRel.of (by simp [h.length]) fun j c v hc hv => ?_
  simp only [List.getElem?_map] at hc
  obtain ⟨c0, h0, rfl⟩ := Option.map_eq_some_iff.1 hc
  obtain ⟨u, hu, hr⟩ := h.get j c0 h0
  rw [hv] at hu; cases hu
  exact fixCell_rel hf hr

theorem fixV_rel (hf : fixObjs m ids E.H 0 E.H = some H') {a : AV} {v : Value} (h : VRel E a v) : VRel (nEnv E H') (fixV m ids E.H a) v := by
  cases a
  case agg cs =>
    simp only [fixV, VRel] at h ⊢
    obtain ⟨arr, rfl, h⟩ := h
    exact ⟨arr, rfl, fixCells_rel hf h⟩
  case fn f xs ys =>
    simp only [fixV, VRel] at h ⊢
    obtain ⟨a1, a2, rfl, h1, h2⟩ := h
    exact ⟨a1, a2, rfl, fixCells_rel hf h1, fixCells_rel hf h2⟩
  all_goals exact fixCell_rel hf h

theorem fixSlots_rel (hf : fixObjs m ids E.H 0 E.H = some H') {lv : List Nat} : ∀ {k : Nat} {sl : List AV} {vs : List Value}, LRel E sl vs → LRel (nEnv E H') (fixSlots m lv ids E.H k sl) vs
  | k, [], vs, h => h
  | k, c :: sl, vs, h => by
    simp only [LRel] at h
    obtain ⟨v, r, rfl, h1, h2⟩ := h
    refine ⟨v, r, rfl, ?_, fixSlots_rel hf h2⟩
    split
    · exact fixV_rel hf h1
    · trivial

theorem n_objrel (hf : fixObjs m ids E.H 0 E.H = some H') {i ver ver' : Nat} {bd bd' : ABody} (hb : fixBody m ids E.H bd = some bd') (h : ObjRel E i ⟨ver, bd⟩) : ObjRel (nEnv E H') i ⟨ver', bd'⟩ := by
  unfold ObjRel at h ⊢
  cases bd with
  | none => simp only [fixBody, Option.some.injEq] at hb; subst hb; trivial
  | map clk es => simp only [fixBody, Option.some.injEq] at hb; subst hb; exact h
  | var cs =>
    simp only [fixBody] at hb
    split at hb
    · rename_i hat
      cases hb
      obtain ⟨b, base, h1, h2, h3⟩ := h
      refine ⟨b, base, h1, by rw [List.length_map]; exact h2, fun j c hj => ?_⟩
      simp only [List.getElem?_map] at hj
      obtain ⟨c0, h0, rfl⟩ := Option.map_eq_some_iff.1 hj
      obtain ⟨_, v, hv, hr⟩ := h3 j c0 h0
      exact ⟨List.all_eq_true.1 hat _ (List.mem_map_of_mem (List.mem_of_getElem? h0)), v, hv, fixCell_rel hf hr⟩
    · cases hb
  | row mu sz cs =>
    simp only [fixBody, Option.some.injEq] at hb
    subst hb
    rcases h with h | ⟨b, base, h1, h2, h3, h4⟩
    · exact .inl h
    · exact .inr ⟨b, base, h1, h2, CRel.keepT (n_keep hf) cs b base (fun _ => rfl) h3, fun hm => n_X hf (h4 hm)⟩

theorem n_wrel (hw : WRel E) (hf : fixObjs m ids E.H 0 E.H = some H') : WRel (nEnv E H') where
  len := hw.len.trans (fixObjs_ok hf).1.symm
  obj i o' ho' := by
    obtain ⟨o, ho⟩ := n_old hf ho'
    obtain ⟨o'', h4, h5⟩ := n_get hf ho
    have : o'' = o' := Option.some.inj (h4.symm.trans ho')
    subst this
    have hold := hw.obj i o ho
    rcases h5 with ⟨_, b', h5, rfl⟩ | ⟨_, _, b', h5, rfl⟩ | ⟨_, _, rfl⟩
    · exact n_objrel hf h5 hold
    · exact n_objrel hf h5 hold
    · trivial
  inj i j b hi hj := hw.inj i j b (n_mut hf hi) (n_mut hf hj)
  fNot i b hm := hw.fNot i b (n_mut hf hm)
  fOld := hw.fOld

theorem n_step (hf : fixObjs m ids E.H 0 E.H = some H') : StepM m E (nEnv E H') where
  F := rfl
  obj i o hi ho := by
    obtain ⟨o', ho', hc⟩ := n_get hf ho
    rcases hc with ⟨_, b, hb, rfl⟩ | ⟨hm, _⟩ | ⟨hm, _⟩
    · exact ⟨_, ho', Nat.le_refl _, fun _ => ⟨(fixBody_mut hb).2, rfl⟩⟩
    · omega
    · omega
  w := ⟨rfl, rfl, rfl, Nat.le_refl _, fun b _ hn => ⟨rfl, fun ⟨i, q⟩ => hn ⟨i, n_mut hf q⟩⟩, fun b arr e f h => ⟨arr, h, rfl⟩, Nat.le_refl _⟩
end

def exK : MExit → Exit
  | .normal => .normal
  | .exit id => .exit id
  | .ret => .ret
def GoodM (m : Nat) (E : Env) (a : Act) (st : St) (K : Act → World → Prop) : Prop :=
  ∀ (E' : Env) (a' : Act), E'.H = st.H → WRel E' → ARel E' st.sl a' → StepM m E E' → a'.defers = a.defers → K a' E'.w
def CodeSat (P : Program) (cf : CallF) (m fuel : Nat) (mc : MCode) (c : Code) : Prop :=
  ∀ ⦃E : Env⦄ ⦃a : Act⦄ ⦃sl : List AV⦄ ⦃ex : MExit⦄ ⦃st' : St⦄ ⦃Q : Exit → Act → World → Prop⦄, WRel E → ARel E sl a → evalCode cf m fuel mc ⟨sl, E.H⟩ = some (ex, st') → GoodM m E a st' (Q (exK ex)) → c.wp P Q a E.w

theorem loop_sound {m fuel : Nat} {mc : MCode} {c : Code} (IH : CodeSat P cf m fuel mc c) {lv ids : List Nat} : ∀ {n : Nat} {E : Env} {a : Act} {sl : List AV} {ex : MExit} {st' : St} {Q : Exit → Act → World → Prop}, WRel E → ARel E sl a →
    iter (evalCode cf m fuel mc) (norm m lv ids) n ⟨sl, E.H⟩ = some (ex, st') → GoodM m E a st' (Q (exK ex)) → Code.rounds P c Q n a E.w
  | 0, E, a, sl, ex, st', Q, hw, hs, h, hK => by simp [iter] at h
  | n + 1, E, a, sl, ex, st', Q, hw, hs, h, hK => by
    rw [rounds_succ]
    simp only [iter] at h
    split at h
    · cases h
    · rename_i st hn
      simp only [norm] at hn
      split at hn
      · rename_i H' hf
        cases hn
        have hw1 := n_wrel hw hf
        have hs1 : ARel (nEnv E H') (fixSlots m lv ids E.H 0 sl) a := fixSlots_rel hf hs
        have hst1 := n_step hf
        split at h
        · rename_i st1 hb
          refine IH (E := nEnv E H') (Q := Exit.then (Code.rounds P c Q n) Q) hw1 hs1 hb fun E2 a2 q1 q2 q3 q4 q5 => ?_
          exact loop_sound IH q2 q3 (by rw [q1]; exact h) fun E3 a3 r1 r2 r3 r4 r5 => hK E3 a3 r1 r2 r3 (hst1.trans (q4.trans r4)) (r5.trans q5)
        · rename_i hne
          refine IH (E := nEnv E H') (Q := Exit.then (Code.rounds P c Q n) Q) hw1 hs1 h fun E2 a2 q1 q2 q3 q4 q5 => ?_
          have := hK E2 a2 q1 q2 q3 (hst1.trans q4) q5
          cases ex with
          | normal => exact absurd h (hne _)
          | exit id => exact this
          | ret => exact this
      · cases hn

theorem code_sound (hcf : CfSound P cf) (m fuel : Nat) : ∀ (mc : MCode) (c : Code), chkCode P mc c = true → CodeSat P cf m fuel mc c
  | .skip, c, hc => by
    cases c <;> simp only [chkCode, Bool.false_eq_true] at hc
    intro E a sl ex st' Q hw hs h hK
    simp only [evalCode, Option.some.injEq, Prod.mk.injEq] at h
    obtain ⟨rfl, rfl⟩ := h
    exact wp_skip (hK E a rfl hw hs (.refl _ _) rfl)
  | .region d ms, c, hc => by
    cases c <;> simp only [chkCode, Bool.false_eq_true] at hc
    rename_i id ops d'
    intro E a sl ex st' Q hw hs h hK
    have hd : d = d' := by simp only [Bool.and_eq_true, beq_iff_eq] at hc; exact hc.1.1.1
    subst hd
    simp only [evalCode] at h
    split at h
    · rename_i st1 h1
      cases h
      refine region_sound hcf (by simpa only [chkCode] using hc) hw hs h1 fun E' a' q1 q2 q3 q4 q5 => hK E' a' q1 q2 q3 (q4.toM m) q5
    · cases h
  | .seq x y, c, hc => by
    cases c <;> simp only [chkCode, Bool.false_eq_true, Bool.and_eq_true] at hc
    rename_i c1 c2
    intro E a sl ex st' Q hw hs h hK
    simp only [evalCode] at h
    refine wp_seq ?_
    split at h
    · rename_i st1 h1
      refine code_sound hcf m fuel x c1 hc.1 hw hs h1 fun E1 a1 q1 q2 q3 q4 q5 => ?_
      exact code_sound hcf m fuel y c2 hc.2 q2 q3 (by rw [q1]; exact h) fun E2 a2 r1 r2 r3 r4 r5 => hK E2 a2 r1 r2 r3 (q4.trans r4) (r5.trans q5)
    · rename_i hne
      refine code_sound hcf m fuel x c1 hc.1 hw hs h fun E1 a1 q1 q2 q3 q4 q5 => ?_
      have := hK E1 a1 q1 q2 q3 q4 q5
      cases ex with
      | normal => exact absurd h (hne _)
      | exit id => exact this
      | ret => exact this
  | .cond x y z, c, hc => by
    cases c <;> simp only [chkCode, Bool.false_eq_true, Bool.and_eq_true] at hc
    rename_i c0 c1 c2
    intro E a sl ex st' Q hw hs h hK
    have hx := ev_rel hs hc.1.1
    simp only [evalCode] at h
    split at h
    · rename_i e
      rw [e] at hx
      exact wp_cond_true (by simpa only [VRel] using hx) (code_sound hcf m fuel y c1 hc.1.2 hw hs h hK)
    · rename_i e
      rw [e] at hx
      exact wp_cond_false (by simpa only [VRel] using hx) (code_sound hcf m fuel z c2 hc.2 hw hs h hK)
    · cases h
  | .block id x, c, hc => by
    cases c <;> simp only [chkCode, Bool.false_eq_true, Bool.and_eq_true, beq_iff_eq] at hc
    rename_i id' c1
    obtain ⟨rfl, hc⟩ := hc
    intro E a sl ex st' Q hw hs h hK
    refine wp_block ?_
    simp only [evalCode] at h
    split at h
    · rename_i id' st1 h1
      refine code_sound hcf m fuel x c1 hc hw hs h1 fun E1 a1 q1 q2 q3 q4 q5 => ?_
      simp only [exK, Exit.inBlock]
      split at h
      · rename_i e
        cases h
        rw [if_pos e]
        exact hK E1 a1 q1 q2 q3 q4 q5
      · rename_i e
        cases h
        rw [if_neg e]
        exact hK E1 a1 q1 q2 q3 q4 q5
    · rename_i hne
      refine code_sound hcf m fuel x c1 hc hw hs h fun E1 a1 q1 q2 q3 q4 q5 => ?_
      have := hK E1 a1 q1 q2 q3 q4 q5
      cases ex with
      | normal => exact this
      | exit id => exact absurd h (hne _ _)
      | ret => exact this
  | .loop lv ids x, c, hc => by
    cases c <;> simp only [chkCode, Bool.false_eq_true] at hc
    rename_i c1
    intro E a sl ex st' Q hw hs h hK
    simp only [evalCode] at h
    exact wp_loop_rounds fuel (loop_sound (code_sound hcf m fuel x c1 hc) hw hs h hK)
  | .exit id, c, hc => by
    cases c <;> simp only [chkCode, Bool.false_eq_true, beq_iff_eq] at hc
    subst hc
    intro E a sl ex st' Q hw hs h hK
    simp only [evalCode, Option.some.injEq, Prod.mk.injEq] at h
    obtain ⟨rfl, rfl⟩ := h
    exact wp_exit (hK E a rfl hw hs (.refl _ _) rfl)
  | .ret, c, hc => by
    cases c <;> simp only [chkCode, Bool.false_eq_true] at hc
    intro E a sl ex st' Q hw hs h hK
    simp only [evalCode, Option.some.injEq, Prod.mk.injEq] at h
    obtain ⟨rfl, rfl⟩ := h
    exact wp_ret (hK E a rfl hw hs (.refl _ _) rfl)

end Go.Ev
end
section
namespace Go.Ev
variable {P : Program} {E : Env} {cf : CallF}

def inFun (E : Env) (no : Nat) : Env := ⟨E.F, E.H ++ List.replicate no ⟨0, .none⟩, E.ρ ++ List.replicate no none, E.w⟩

theorem inFun_mut (hw : WRel E) {no i b : Nat} : (inFun E no).mutAt i b ↔ E.mutAt i b := by
  unfold Env.mutAt inFun
  by_cases hi : i < E.H.length
  · have hi' : i < E.ρ.length := by rw [hw.len]; exact hi
    simp only [List.getElem?_append_left hi, List.getElem?_append_left hi']
  · constructor
    · rintro ⟨o, base, h1, h2, h3⟩
      rw [List.getElem?_append_right (by omega)] at h1
      have := List.mem_of_getElem? h1
      rw [List.mem_replicate] at this
      rw [this.2] at h2
      cases h2
    · rintro ⟨o, base, h1, _⟩
      exact absurd (List.getElem?_eq_some_iff.1 h1).1 hi
theorem inFun_step (hw : WRel E) (no : Nat) : Step E (inFun E no) where
  F := rfl
  obj i o ho := by
    have hi := (List.getElem?_eq_some_iff.1 ho).1
    have hi' : i < E.ρ.length := by rw [hw.len]; exact hi
    exact ⟨o, by rw [← ho]; exact List.getElem?_append_left hi, Nat.le_refl _, fun _ => ⟨.refl _, List.getElem?_append_left hi'⟩⟩
  w := ⟨rfl, rfl, rfl, Nat.le_refl _, fun b _ hn => ⟨rfl, fun ⟨i, q⟩ => hn ⟨i, (inFun_mut hw).1 q⟩⟩, fun b arr e f h => ⟨arr, h, rfl⟩, Nat.le_refl _⟩
theorem inFun_wrel (hw : WRel E) (no : Nat) : WRel (inFun E no) where
  len := by simp [inFun, hw.len]
  obj i o ho := by
    by_cases hi : i < E.H.length
    · have hi' : i < E.ρ.length := by rw [hw.len]; exact hi
      have ho' : E.H[i]? = some o := by rw [← ho]; exact (List.getElem?_append_left hi).symm
      have hold := hw.obj i o ho'
      have hρ : (inFun E no).ρ[i]? = E.ρ[i]? := List.getElem?_append_left hi'
      have hst := inFun_step hw no
      unfold ObjRel at hold ⊢
      cases hb : o.body with
      | none => trivial
      | map clk es =>
        rw [hb] at hold
        obtain ⟨b, h1, h2⟩ := hold
        exact ⟨b, hρ.trans h1, h2⟩
      | var cs =>
        rw [hb] at hold
        obtain ⟨b, base, h1, h2, h3⟩ := hold
        exact ⟨b, base, hρ.trans h1, h2, h3.keeps hst.keeps (fun _ => rfl)⟩
      | row m s cs =>
        rw [hb] at hold
        rcases hold with ⟨h1, h2⟩ | ⟨b, base, h1, h2, h3, h4⟩
        · exact .inl ⟨h1, hρ.trans h2⟩
        · exact .inr ⟨b, base, hρ.trans h1, h2, CRel.keeps hst.keeps cs b base (fun _ => rfl) h3, fun hm => (hst.x h2.lt (h4 hm)).1⟩
    · have ho' : (E.H ++ List.replicate no (⟨0, .none⟩ : AObj))[i]? = some o := ho
      rw [List.getElem?_append_right (by omega)] at ho'
      have := List.mem_of_getElem? ho'
      rw [List.mem_replicate] at this
      unfold ObjRel
      rw [this.2]
      trivial
  inj i j b hi hj := hw.inj i j b ((inFun_mut hw).1 hi) ((inFun_mut hw).1 hj)
  fNot i b hm := hw.fNot i b ((inFun_mut hw).1 hm)
  fOld := hw.fOld

theorem LRel.undefs (E : Env) : ∀ n, LRel E (List.replicate n (.tup [])) (List.replicate n undef)
  | 0 => rfl
  | n + 1 => ⟨undef, List.replicate n undef, rfl, undef_rel E, LRel.undefs E n⟩

theorem resV_run (hw : WRel E) {sl : List AV} {a : Act} (hs : ARel E sl a) {r : MRes} {x : AV} (h : resV ⟨sl, E.H⟩ r = some x) :
    match r with
    | .slot n => VRel E x (a.tmps.getD n undef)
    | .cell s _ k => ∀ t, loadB P k t = true → ∃ v, ((do loadVar t (← asAddr (a.tmps.getD s undef))) : Sem Value).run P E.w = .ok v E.w ∧ VRel E x v := by
  have hget : ∀ n, VRel E (sl.getD n .undef) (a.tmps.getD n undef) := fun n => by
    simp only [List.getD_eq_getElem?_getD]
    cases hg : sl[n]? with
    | none => trivial
    | some c =>
      obtain ⟨v, hv, hr⟩ := LRel.get hs n c hg
      have : a.tmps[n]? = some v := by simpa using hv
      simpa [this] using hr
  cases r with
  | slot n =>
    simp only [resV, Option.some.injEq] at h
    subst h
    exact hget n
  | cell s o k =>
    intro t ht
    have hx := hget s
    cases k with
    | none =>
      simp only [resV] at h
      obtain ⟨b, off, u, e1, _, hu, hr⟩ := load1_rel hw h hx
      refine ⟨u, ?_, hr⟩
      rw [e1]
      have := run_loadVar_one (P := P) (t := t) E.w ht hu
      simpa [asAddr] using this
    | some n =>
      simp only [resV] at h
      obtain ⟨cs, hl, rfl⟩ := Option.map_eq_some_iff.1 h
      simp only [loadB, Bool.and_eq_true, decide_eq_true_eq] at ht
      obtain ⟨b, off, e1, hv, hlen⟩ := loadCells_rel hw hl hx ht.2
      obtain ⟨vs, hr, hrange, _⟩ := hv.vals
      obtain ⟨d, hu, hd⟩ := aggB_row ht.1.1
      obtain ⟨i, hi, hisz⟩ := szB_info ht.1.2
      have := run_loadAt_mid (P := P) E.w b off t vs d hrange hu hd (by rw [hi]; simp [hisz, hr.length, hlen])
      refine ⟨.agg vs.toArray, ?_, ?_⟩
      · rw [e1]
        simpa [Instr.loadAt, Instr.sureAddr, asAddr] using this
      · simp only [VRel]
        exact ⟨_, rfl, by simpa using hr⟩

theorem resVs_run (hw : WRel E) {sl : List AV} {a : Act} (hs : ARel E sl a) :
    ∀ {rs : List MRes} {vars : List ResultVar} {xs : List AV}, chkRes P rs vars = true → resVs ⟨sl, E.H⟩ rs = some xs → ∃ vs, LRel E xs vs ∧ ∀ (f : ResultVar → Sem Value), (∀ u, f (.tmp u) = pure (a.tmps.getD u undef)) →
      (∀ s t, f (.cell s t) = (do loadVar t (← asAddr (a.tmps.getD s undef)))) → (vars.mapM f).run P E.w = .ok vs E.w
  | [], [], xs, _, h => by
    simp only [resVs, Option.some.injEq] at h
    subst h
    exact ⟨[], rfl, fun f _ _ => by simp⟩
  | [], _ :: _, _, hc, _ => by simp [chkRes] at hc
  | .slot _ :: _, [], _, hc, _ => by simp [chkRes] at hc
  | .cell _ _ _ :: _, [], _, hc, _ => by simp [chkRes] at hc
  | .slot n :: rs, .tmp t :: vars, xs, hc, h => by
    simp only [chkRes, Bool.and_eq_true, beq_iff_eq] at hc
    obtain ⟨rfl, hc⟩ := hc
    simp only [resVs] at h
    split at h
    · rename_i x l h1 h2
      cases h
      obtain ⟨vs, hl, hr⟩ := resVs_run hw hs hc h2
      have := resV_run (P := P) hw hs h1
      simp only at this
      exact ⟨_ :: vs, ⟨_, _, rfl, this, hl⟩, fun f hf1 hf2 => by simp [List.mapM_cons, hf1, hr f hf1 hf2]⟩
    · cases h
  | .slot n :: rs, .cell _ _ :: vars, xs, hc, h => by simp [chkRes] at hc
  | .cell n o k :: rs, .tmp _ :: vars, xs, hc, h => by simp [chkRes] at hc
  | .cell n o k :: rs, .cell t ty :: vars, xs, hc, h => by
    simp only [chkRes, Bool.and_eq_true, beq_iff_eq] at hc
    obtain ⟨⟨rfl, hld⟩, hc⟩ := hc
    simp only [resVs] at h
    split at h
    · rename_i x l h1 h2
      cases h
      obtain ⟨vs, hl, hr⟩ := resVs_run hw hs hc h2
      have := resV_run (P := P) hw hs h1
      simp only at this
      obtain ⟨v, hv, hvr⟩ := this ty hld
      refine ⟨v :: vs, ⟨_, _, rfl, hvr, hl⟩, fun f hf1 hf2 => ?_⟩
      rw [List.mapM_cons, hf2, Sem.run_bind, hv]
      simp [hr f hf1 hf2]
    · cases h

theorem results_run (hw : WRel E) {sl : List AV} {a : Act} (hs : ARel E sl a) {fn : Func} {rs : List MRes} (hc : chkRes P rs fn.results.toList = true) {x : AV} (h : results ⟨sl, E.H⟩ rs = some x) :
    ∃ v, (Go.results fn a.tmps).run P E.w = .ok v E.w ∧ VRel E x v := by
  unfold results at h
  have hm : ∀ f : ResultVar → Sem Value, fn.results.mapM f = List.toArray <$> fn.results.toList.mapM f := fun f => Array.mapM_eq_mapM_toList ..
  unfold Go.results
  split at h
  · rename_i y hy
    cases h
    obtain ⟨vs, hl, hr⟩ := resVs_run hw hs hc hy
    simp only [LRel] at hl
    obtain ⟨v, r, rfl, h1, rfl⟩ := hl
    refine ⟨v, ?_, h1⟩
    rw [hm]
    simp only [Sem.run_bind, Sem.run_map]
    rw [hr]
    · simp
    · intro u; rfl
    · intro s t; rfl
  · rename_i l hne hy
    cases h
    obtain ⟨vs, hl, hr⟩ := resVs_run hw hs hc hy
    refine ⟨.tuple vs.toArray, ?_, ?_⟩
    · rw [hm]
      have : vs.length ≠ 1 := by
        rw [hl.length]
        intro e
        obtain ⟨y, rfl⟩ := List.length_eq_one_iff.1 e
        exact hne y rfl
      simp only [Sem.run_bind, Sem.run_map]
      rw [hr]
      · simp [this]
      · intro u; rfl
      · intro s t; rfl
    · simp only [VRel]
      exact ⟨_, rfl, by simpa using hl⟩
  · cases h

structure TabOk (P : Program) (M : Tab) : Prop where
  fn : ∀ f mf, M.fn f = some mf → ∃ fn, P.funcs[f]? = some fn ∧ chkFun P mf fn = true
  ext : CfSound P M.ext

theorem evalFun_sound {M : Tab} (hM : TabOk P M) : ∀ k, CfSound P (evalFun M k)
  | 0 => fun f args H r H1 h => by simp [evalFun] at h
  | k + 1 => fun f args H r H1 h => by
    simp only [evalFun] at h
    split at h
    · exact hM.ext f args H r H1 h
    · rename_i mf hmf
      obtain ⟨fn, hfn, hc⟩ := hM.fn f mf hmf
      simp only [chkFun, Bool.and_eq_true, bne_iff_ne, ne_eq, beq_iff_eq, decide_eq_true_eq] at hc
      obtain ⟨⟨⟨⟨hname, hnt⟩, hnp⟩, hres⟩, hbody⟩ := hc
      split at hbody
      · rename_i c hfb
        refine ⟨⟨fn, hfn, hname, by rw [hfb]; rfl⟩, fun E vals hw hH hargs => ?_⟩
        split at h
        · cases h
        · rename_i hlen
          have hlen : args.length = mf.np := by simpa using hlen
          subst hH
          have hsz : vals.size = args.length := by rw [← hargs.length]; simp
          have hw0 := inFun_wrel hw mf.no
          have hst0 := inFun_step hw mf.no
          have hs0 : ARel (inFun E mf.no) (args ++ List.replicate (mf.nt - args.length) (.tup [])) { tmps := vals ++ Array.replicate (fn.ntmps - vals.size) undef, defers := [] } := by
            unfold ARel
            simp only [Array.toList_append, Array.toList_replicate]
            rw [← hnt, hsz]
            exact (hargs.mono hst0).app (LRel.undefs _ _)
          refine calls_of_wp hfn hfb ?_
          have hgo : ∀ ex st', evalCode (evalFun M k) E.H.length k mf.body ⟨args ++ List.replicate (mf.nt - args.length) (.tup []), E.H ++ List.replicate mf.no ⟨0, .none⟩⟩ = some (ex, st') → (ex = .normal ∨ ex = .ret) →
              (results st' mf.res).map (fun r => (r, st'.H)) = some (r, H1) → c.wp P (bodyPost P fn (CfPost E r H1)) { tmps := vals ++ Array.replicate (fn.ntmps - vals.size) undef, defers := [] } (inFun E mf.no).w := by
            intro ex st' he hex hr
            obtain ⟨x, hx, hxe⟩ := Option.map_eq_some_iff.1 hr
            cases hxe
            refine code_sound (evalFun_sound hM k) E.H.length k mf.body c hbody hw0 hs0 he fun E' a' q1 q2 q3 q4 q5 => ?_
            have hst' : st' = ⟨st'.sl, E'.H⟩ := by rw [q1]
            rw [hst'] at hx
            obtain ⟨v, hv1, hv2⟩ := results_run q2 q3 hres hx
            have hstep : Step E E' := by
              refine ⟨q4.F, fun i o ho => ?_, ⟨q4.w.os, q4.w.tape, q4.w.output, q4.w.size, fun b hb hn => q4.w.keep b hb fun ⟨i, q⟩ => hn ⟨i, (inFun_mut hw).1 q⟩, q4.w.blk, q4.w.drawn⟩⟩
              have hi := (List.getElem?_eq_some_iff.1 ho).1
              obtain ⟨o', h1, h2, h3⟩ := q4.obj i o hi (by rw [← ho]; exact List.getElem?_append_left hi)
              have hi' : i < E.ρ.length := by rw [hw.len]; exact hi
              exact ⟨o', h1, h2, fun e => ⟨(h3 e).1, (h3 e).2.trans (List.getElem?_append_left hi')⟩⟩
            have hpost : CfPost E r st'.H (.returned v) E'.w := ⟨v, rfl, E', rfl, q1, q2, hv2, hstep⟩
            rcases hex with rfl | rfl
            · exact ⟨q5, v, hv1, hpost⟩
            · exact ⟨q5, v, hv1, hpost⟩
          split at h
          · rename_i st' he
            exact hgo .normal st' he (.inl rfl) h
          · rename_i st' he
            exact hgo .ret st' he (.inr rfl) h
          · cases h
      · cases hbody

end Go.Ev
end
