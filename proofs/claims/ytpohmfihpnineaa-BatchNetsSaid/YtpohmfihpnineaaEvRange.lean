/- The evaluator, its soundness (texts put together: EvRange). -/
import Derived.Maps.RangeRun
import Derived.Test.YtpohmfihpnineaaEvGc
import Derived.Test.YtpohmfihpnineaaEvGb
set_option linter.unusedSimpArgs false
set_option linter.unusedVariables false
section
namespace Go.Ev
variable {P : Program} {cf : CallF}

abbrev Ent := List AV × Int × Nat
def plainC : AV → Bool
  | .int _ _ | .bool _ => true
  | _ => false
theorem plain_rel (E : Env) : ∀ {k : List AV}, k.all plainC = true → LRel E k (k.map pv)
  | [], _ => rfl
  | c :: k, h => by
    simp only [List.all_cons, Bool.and_eq_true] at h
    refine ⟨_, _, rfl, ?_, plain_rel E h.2⟩
    cases c <;> simp [plainC] at h <;> simp [VRel, pv]

structure IterW (w w' : World) (r : Nat) : Prop where
  os : w'.os = w.os
  tape : w'.tape = w.tape
  output : w'.output = w.output
  size : w'.heap.size = w.heap.size
  drawn : w.drawn ≤ w'.drawn
  other : ∀ b, b ≠ r → w'.heap[b]? = w.heap[b]?
  old : ∃ m s a c, w.heap[r]? = some (.mapIter m s a c)
  new : ∃ m s a c, w'.heap[r]? = some (.mapIter m s a c)

theorem IterW.cell {w w' : World} {r : Nat} (h : IterW w w' r) (b o : Nat) : w'.cell? ⟨b, o, none⟩ = w.cell? ⟨b, o, none⟩ := by
  by_cases e : b = r
  · subst e
    obtain ⟨m, s, a, c, h1⟩ := h.old
    obtain ⟨m', s', a', c', h2⟩ := h.new
    simp [World.cell?, h1, h2]
  · exact cell?_of_heap (h.other b e) o
theorem IterW.blk {w w' : World} {r : Nat} (h : IterW w w' r) {b n : Nat} (hb : Blk w b n) : Blk w' b n := by
  obtain ⟨arr, e, h1, h2⟩ := hb
  have : b ≠ r := fun q => by subst q; obtain ⟨m, s, a, c, h3⟩ := h.old; rw [h1] at h3; cases h3
  exact ⟨arr, e, (h.other b this).trans h1, h2⟩
theorem IterW.keeps {E : Env} {w' : World} {r : Nat} (h : IterW E.w w' r) : Keeps E ⟨E.F, E.H, E.ρ, w'⟩ where
  own i ver off len sz v hr := by
    obtain ⟨a, cap, hv, hl, ha, o, ho, hver, hf⟩ := hr
    refine ⟨a, cap, hv, hl, ha, o, ho, hver, fun e => ?_⟩
    have hf := hf e
    cases ob : o.body with
    | none => rw [ob] at hf; exact hf.elim
    | map _ _ => rw [ob] at hf; exact hf.elim
    | var cs =>
      rw [ob] at hf
      obtain ⟨h1, b, base, h2, h3, h4⟩ := hf
      exact ⟨h1, b, base, h2, h3, h.blk h4⟩
    | row m s cs =>
      rw [ob] at hf
      obtain ⟨h1, h2⟩ := hf
      refine ⟨h1, h2.imp ?_ id⟩
      rintro ⟨b, base, h2, h3, h4⟩
      exact ⟨b, base, h2, h3, h.blk h4⟩
  ptr _ _ _ _ hr := hr
  mp _ _ _ hr := hr
  cells b _ hx := ⟨hx, fun o => h.cell b o⟩
theorem IterW.wrel {E : Env} {w' : World} {r : Nat} (h : IterW E.w w' r) (hw : WRel E) : WRel ⟨E.F, E.H, E.ρ, w'⟩ where
  len := hw.len
  obj i q hq := by
    have := hw.obj i q hq
    unfold ObjRel at this ⊢
    cases hb : q.body with
    | none => trivial
    | map clk es =>
      rw [hb] at this
      obtain ⟨b, h1, h2⟩ := this
      have hne : b ≠ r := fun e => by subst e; obtain ⟨m, s, a, c, h3⟩ := h.old; rw [MapAt, h3] at h2; cases h2
      exact ⟨b, h1, (h.other b hne).trans h2⟩
    | var cs =>
      rw [hb] at this
      obtain ⟨b, base, h1, h2, h3⟩ := this
      exact ⟨b, base, h1, h.blk h2, h3.keeps h.keeps (fun o => h.cell b _)⟩
    | row m s cs =>
      rw [hb] at this
      rcases this with h1 | ⟨b, base, h1, h2, h3, h4⟩
      · exact .inl h1
      · exact .inr ⟨b, base, h1, h.blk h2, CRel.keeps h.keeps cs b base (fun o => h.cell b _) h3, h4⟩
  inj := hw.inj
  fNot := hw.fNot
  fOld b hb := by have := hw.fOld b hb; show b < w'.heap.size; rw [h.size]; exact this
theorem IterW.stepM {E0 E : Env} {m : Nat} {w' : World} {r : Nat} (h : IterW E.w w' r) (hr : E0.w.heap.size ≤ r) (hs : StepM m E0 E) : StepM m E0 ⟨E.F, E.H, E.ρ, w'⟩ where
  F := hs.F
  obj := hs.obj
  w := by
    refine ⟨h.os.trans hs.w.os, h.tape.trans hs.w.tape, h.output.trans hs.w.output, by show _ ≤ w'.heap.size; rw [h.size]; exact hs.w.size, fun b hb hn => ?_, fun b arr e f hb => ?_, Nat.le_trans hs.w.drawn h.drawn⟩
    · obtain ⟨h1, h2⟩ := hs.w.keep b hb hn
      exact ⟨(h.other b (by omega)).trans h1, h2⟩
    · obtain ⟨arr', h1, h2⟩ := hs.w.blk b arr e f hb
      refine ⟨arr', (h.other b fun q => ?_).trans h1, h2⟩
      subst q
      obtain ⟨m, s, a, c, h3⟩ := h.old
      rw [h1] at h3; cases h3

theorem wpOp_hand {ops : Array Oper} {Q : Exit → Act → World → Prop} {i : Nat} {K : Act → World → Prop} {a : Act} {w w' : World} {o : Oper} {v : Value} (hi : ops[i]? = some o) (hg : o.guard = none)
    (h : (execOp a.eval o).run P w = .ok (.value v) w') (hK : K (a.put o.dst v) w') : wpOp P ops Q i K a w := by
  unfold wpOp
  simp only [hi]
  have : Region.wanted o (yielded ops a.tmps) = true := by simp [Region.wanted, hg]
  rw [if_pos this]
  refine .inl ?_
  unfold Oper.wp
  rw [h]
  exact hK

theorem region_pre {ops : Array Oper} {Q : Exit → Act → World → Prop} (hcf : CfSound P cf) : ∀ {ms : List MOper} {os rest : List Oper} {k : Nat} {E : Env} {a : Act} {sl : List AV} {st' : St}, chkOpers P ops ms os = true → ops.toList.drop k = os ++ rest → WRel E → ARel E sl a →
    runOps cf ms ⟨sl, E.H⟩ = some st' → Good E a st' (fun a w => wpOps P ops Q (List.range' (k + os.length) rest.length) a w) → wpOps P ops Q (List.range' k (os.length + rest.length)) a E.w
  | [], [], rest, k, E, a, sl, st', _, _, hw, hs, h, hK => by
    simp only [runOps, Option.some.injEq] at h
    subst h
    simp only [List.length_nil, Nat.zero_add, Nat.add_zero] at hK ⊢
    exact hK E a rfl hw hs (.refl _) rfl
  | [], _ :: _, _, _, _, _, _, _, hc, _, _, _, _, _ => by simp [chkOpers] at hc
  | _ :: _, [], _, _, _, _, _, _, hc, _, _, _, _, _ => by simp [chkOpers] at hc
  | m :: ms, o :: os, rest, k, E, a, sl, st', hc, hdrop, hw, hs, h, hK => by
    simp only [chkOpers, Bool.and_eq_true] at hc
    have hk : ops[k]? = some o := by
      have := congrArg (·[0]?) hdrop
      simpa [List.getElem?_drop] using this
    have hdrop' : ops.toList.drop (k + 1) = os ++ rest := by
      rw [← List.drop_drop, hdrop]; rfl
    rw [show (o :: os).length + rest.length = (os.length + rest.length) + 1 by simp; omega, List.range'_succ, wpOps_cons]
    simp only [runOps] at h
    split at h
    · rename_i st1 h1
      refine stepOp_sound hcf hk hc.1 hw hs h1 fun E' a' hH hw' hs' hst hdf => ?_
      refine region_pre hcf hc.2 hdrop' hw' hs' (by rw [hH]; exact h) fun E'' a'' q1 q2 q3 q4 q5 => ?_
      have := hK E'' a'' q1 q2 q3 (hst.trans q4) (q5.trans hdf)
      rw [show k + 1 + os.length = k + (o :: os).length by simp; omega]
      exact this
    · cases h

theorem chkOpers_app {ops : Array Oper} : ∀ {ms : List MOper} {m : MOper} {os : List Oper}, chkOpers P ops (ms ++ [m]) os = true → ∃ os' o, os = os' ++ [o] ∧ chkOpers P ops ms os' = true ∧ chkOper P ops m o = true
  | [], m, [], h => by simp [chkOpers] at h
  | [], m, [o], h => by
    simp only [List.nil_append, chkOpers, Bool.and_eq_true] at h
    exact ⟨[], o, rfl, rfl, h.1⟩
  | [], m, o :: p :: os, h => by simp [chkOpers] at h
  | _ :: _, m, [], h => by simp [chkOpers] at h
  | x :: ms, m, o :: os, h => by
    simp only [List.cons_append, chkOpers, Bool.and_eq_true] at h
    obtain ⟨os', p, rfl, h1, h2⟩ := chkOpers_app h.2
    exact ⟨o :: os', p, rfl, by simp [chkOpers, h.1, h1], h2⟩

structure RP where
  mA : MCode
  mB : MCode
  mC : MCode
  ms4 : List MOper
  x : MX
  q : Nat
  t12 : Nat
  b0 : Nat
  lv : List Nat
  ids : List Nat
  t13 : Nat
  t14 : Nat
  b1 : Nat
  t15 : Nat
  ms6 : List MOper
  ms7 : List MOper
  mD : MCode
def RP.loopB (p : RP) : MCode :=
  .seq (.region false [⟨some p.t13, none, .nxt (.s p.t12)⟩, ⟨some p.t14, none, .extract (.s p.t13) 0⟩])
    (.seq (.cond (.s p.t14) .skip (.exit p.b0)) (.block p.b1 (.seq (.region false (⟨some p.t15, none, .ent (.s p.t12)⟩ :: p.ms6)) (.region false p.ms7))))
def RP.code (p : RP) : MCode :=
  .seq p.mA (.seq p.mB (.seq p.mC (.seq (.seq (.region false (p.ms4 ++ [⟨some p.t12, none, .rng p.q p.x⟩])) (.block p.b0 (.loop p.lv p.ids p.loopB))) p.mD)))

def RHead (p : RP) (i ver clk : Nat) (es : List Ent) (vq : Nat) (st : St) : Prop :=
  st.H[i]? = some ⟨ver, .map clk es⟩ ∧ st.sl[p.t12]? = some (.ptr p.q vq 0) ∧ st.H[p.q]? = some ⟨vq, .none⟩ ∧ p.t13 < st.sl.length ∧ p.t14 < st.sl.length
def ovr (p : RP) (sl : List AV) : List AV := (sl.set p.t13 .undef).set p.t14 .undef
inductive IterR (cf : CallF) (p : RP) (m i ver clk : Nat) (es : List Ent) : Nat → List Ent → St → St → Prop
  | done {vq : Nat} {st st1 : St} : RHead p i ver clk es vq st → norm m p.lv p.ids st = some st1 → IterR cf p m i ver clk es vq [] st ⟨ovr p st1.sl, st1.H⟩
  | step {vq : Nat} {e : Ent} {t : List Ent} {st st1 st2 st3 st' : St} : RHead p i ver clk es vq st → norm m p.lv p.ids st = some st1 →
      runOps cf p.ms6 ⟨(ovr p st1.sl).set p.t15 (.tup [.agg e.1, .int .i64 e.2.1]), st1.H⟩ = some st2 → runOps cf p.ms7 st2 = some st3 → IterR cf p m i ver clk es 0 t st3 st' → IterR cf p m i ver clk es vq (e :: t) st st'
theorem IterR.head {p : RP} {m i ver clk vq : Nat} {es t : List Ent} {st st' : St} (h : IterR cf p m i ver clk es vq t st st') : RHead p i ver clk es vq st := by
  cases h <;> assumption

theorem Act.eval_put_ne {a : Act} {d t : Nat} {v : Value} (h : d ≠ t) : (a.put (some d) v).eval (.tmp t) = a.eval (.tmp t) := by
  simp [Act.put, Act.eval, Array.getD_eq_getD_getElem?, Array.getElem?_setIfInBounds, h]

theorem eval_ptr {E : Env} {sl : List AV} {a : Act} (hs : ARel E sl a) {t q vq r : Nat} (hsl : sl[t]? = some (.ptr q vq 0)) (hq : E.H[q]? = some ⟨vq, .none⟩) (hρ : E.ρ[q]? = some (some (r, 0))) : a.eval (.tmp t) = .pointer (some ⟨r, 0, none⟩) := by
  obtain ⟨v, hv, hr⟩ := LRel.get hs t _ hsl
  simp only [VRel] at hr
  obtain ⟨ad, rfl, o, ho, _, hf⟩ := hr
  rw [hq] at ho; cases ho
  obtain ⟨b, base, h1, rfl⟩ := hf rfl
  rw [hρ] at h1; cases h1
  have hv' : a.tmps[t]? = some (.pointer (some ⟨r, 0 + 0, none⟩)) := by simpa using hv
  simp [Act.eval, hv']

theorem born_left {es done left : List Ent} (hp : (done ++ left).Perm es) (hn : (es.map (·.2.2)).Nodup) {e : Ent} (he : e ∈ es) (hd : e.2.2 ∉ done.map (·.2.2)) : e ∈ left := by
  have := hp.mem_iff.2 he
  rw [List.mem_append] at this
  rcases this with h | h
  · exact absurd (List.mem_map_of_mem h) hd
  · exact h

theorem mem_leftOf {es : List Ent} {seen : List Nat} {x : MapEntry} (h : x ∈ (leftOf (es.map pe).toArray seen.toArray).toList) : ∃ e ∈ es, x = pe e ∧ e.2.2 ∉ seen := by
  obtain ⟨h1, h2⟩ := mem_left h
  simp only [List.mem_map] at h1
  obtain ⟨e, he, rfl⟩ := h1
  refine ⟨e, he, rfl, fun hm => ?_⟩
  have : seen.toArray.contains (pe e).born = true := by simpa [pe] using hm
  rw [this] at h2; cases h2
theorem chkX_s {n : Nat} {y : Operand} (h : chkX (.s n) y = true) : y = .tmp n := by
  cases y <;> simp [chkX] at h
  rw [h]
theorem Act.eval_put_eq {a : Act} {t : Nat} {v : Value} (h : t < a.tmps.size) : (a.put (some t) v).eval (.tmp t) = v := by
  simp [Act.put, Act.eval, Array.getD_eq_getD_getElem?, Array.getElem?_setIfInBounds, h]
theorem Act.size_put {a : Act} {d : Option Nat} {v : Value} : (a.put d v).tmps.size = a.tmps.size := by
  cases d <;> simp [Act.put]
theorem ovr_rel {E : Env} {p : RP} {sl : List AV} {a : Act} (hs : ARel E sl a) (u v : Value) : ARel E (ovr p sl) ((a.put (some p.t13) u).put (some p.t14) v) := by
  have h1 : ARel E (putV sl (some p.t13) .undef) (a.put (some p.t13) u) := hs.put (x := .undef) (by simp only [VRel]) _
  exact h1.put (x := .undef) (by simp only [VRel]) (some p.t14)
theorem range_rounds (hcf : CfSound P cf) (p : RP) {c : Code} (hc : chkCode P p.loopB c = true) {m i : Nat} (hd1 : p.t13 ≠ p.t12) (hd2 : p.t14 ≠ p.t12) (hd3 : p.t14 ≠ p.t13) (hqi : p.ids.contains p.q = true) (hmq : m ≤ p.q) (him : i < m)
    {es : List Ent} {ver clk : Nat} (hn : (es.map (·.2.2)).Nodup) (hclk : ∀ e ∈ es, e.2.2 < clk) (hpl : ∀ e ∈ es, e.1.all plainC = true)
    {E0 : Env} {a0 : Act} {b r : Nat} (hr0 : E0.w.heap.size ≤ r) {K : Act → World → Prop} {Q : Exit → Act → World → Prop} (hQ : ∀ a w, K a w → Q (.exit p.b0) a w) :
    ∀ (n : Nat) (done left : List Ent) (vq : Nat) (E : Env) (a : Act) (sl : List AV), left.length = n → (done ++ left).Perm es → WRel E → ARel E sl a → StepM m E0 E → a.defers = a0.defers → E.ρ[i]? = some (some (b, 0)) →
      E.ρ[p.q]? = some (some (r, 0)) → E.w.heap[r]? = some (.mapIter (some b) clk (done.map (·.2.2)).toArray clk) → ¬ E.Mut r →
      (∀ t, t.Perm left → ∃ st', IterR cf p m i ver clk es vq t ⟨sl, E.H⟩ st' ∧ GoodM m E0 a0 st' K) → Code.rounds P c Q (n + 1) a E.w := by
  -- the code's form
  cases c <;> simp only [RP.loopB, chkCode, Bool.false_eq_true, Bool.and_eq_true] at hc
  rename_i c5 cr
  obtain ⟨hc5, hcr⟩ := hc
  cases c5 <;> simp only [chkCode, Bool.false_eq_true, Bool.and_eq_true, beq_iff_eq] at hc5
  rename_i id5 ops5 d5
  obtain ⟨⟨⟨hd5, hl5⟩, ho5⟩, _⟩ := hc5
  subst hd5
  cases cr <;> simp only [chkCode, Bool.false_eq_true, Bool.and_eq_true] at hcr
  rename_i cc cb
  obtain ⟨hcc, hcb⟩ := hcr
  cases cc <;> simp only [chkCode, Bool.false_eq_true, Bool.and_eq_true] at hcc
  rename_i xc cs ce
  obtain ⟨⟨hxc, hcs⟩, hce⟩ := hcc
  have hxc := chkX_s hxc
  subst hxc
  cases cs <;> simp only [chkCode, Bool.false_eq_true] at hcs
  cases ce <;> simp only [chkCode, Bool.false_eq_true, beq_iff_eq] at hce
  subst hce
  cases cb <;> simp only [chkCode, Bool.false_eq_true, Bool.and_eq_true, beq_iff_eq] at hcb
  rename_i b1 cbb
  obtain ⟨hb1, hcb⟩ := hcb
  subst hb1
  cases cbb <;> simp only [chkCode, Bool.false_eq_true, Bool.and_eq_true] at hcb
  rename_i c6 c7
  obtain ⟨hc6, hc7⟩ := hcb
  cases c6 <;> simp only [chkCode, Bool.false_eq_true, Bool.and_eq_true, beq_iff_eq] at hc6
  rename_i id6 ops6 d6
  obtain ⟨⟨⟨hd6, hl6⟩, ho6⟩, _⟩ := hc6
  subst hd6
  cases c7 <;> simp only [chkCode, Bool.false_eq_true] at hc7
  rename_i id7 ops7 d7
  have hd7 : false = d7 := by simp only [Bool.and_eq_true, beq_iff_eq] at hc7; exact hc7.1.1.1
  subst hd7
  -- its operations
  obtain ⟨o13, o14, e5, hk13, hk14⟩ : ∃ o13 o14, ops5.toList = [o13, o14] ∧ chkOper P ops5 ⟨some p.t13, none, .nxt (.s p.t12)⟩ o13 = true ∧ chkOper P ops5 ⟨some p.t14, none, .extract (.s p.t13) 0⟩ o14 = true := by
    cases h5 : ops5.toList with
    | nil => rw [h5] at ho5; simp [chkOpers] at ho5
    | cons x l =>
      cases l with
      | nil => rw [h5] at ho5; simp [chkOpers] at ho5
      | cons y l =>
        cases l with
        | nil => rw [h5] at ho5; simp only [chkOpers, Bool.and_eq_true] at ho5; exact ⟨x, y, rfl, ho5.1, ho5.2.1⟩
        | cons z l => rw [h5] at ho5; simp [chkOpers] at ho5
  have hs5 : ops5.size = 2 := by rw [← Array.length_toList, e5]; rfl
  have g13 : ops5[0]? = some o13 := by rw [← Array.getElem?_toList, e5]; rfl
  have g14 : ops5[1]? = some o14 := by rw [← Array.getElem?_toList, e5]; rfl
  simp only [chkOper, Bool.and_eq_true, beq_iff_eq] at hk13 hk14
  obtain ⟨⟨k13, q13⟩, op13⟩ := hk13
  obtain ⟨⟨k14, q14⟩, op14⟩ := hk14
  have q13 : o13.guard = none := by cases h : o13.guard <;> simp_all [chkGuard]
  have q14 : o14.guard = none := by cases h : o14.guard <;> simp_all [chkGuard]
  have op13 : o13.op = .next (.tmp p.t12) false := by
    simp only [chkOp] at op13
    split at op13
    · rename_i y s ho
      simp only [Bool.and_eq_true, Bool.not_eq_true'] at op13
      rw [ho, op13.1, chkX_s op13.2]
    · cases op13
  have op14 : o14.op = .extract (.tmp p.t13) 0 := by
    simp only [chkOp] at op14
    split at op14
    · rename_i y j ho
      simp only [Bool.and_eq_true, beq_iff_eq] at op14
      rw [ho, ← op14.1, chkX_s op14.2]
    · cases op14
  obtain ⟨oE, rest6, e6, hkE, hk6⟩ : ∃ oE rest6, ops6.toList = oE :: rest6 ∧ chkOper P ops6 ⟨some p.t15, none, .ent (.s p.t12)⟩ oE = true ∧ chkOpers P ops6 p.ms6 rest6 = true := by
    cases h6 : ops6.toList with
    | nil => rw [h6] at ho6; simp [chkOpers] at ho6
    | cons x l => rw [h6] at ho6; simp only [chkOpers, Bool.and_eq_true] at ho6; exact ⟨x, l, rfl, ho6.1, ho6.2⟩
  have hs6 : ops6.size = rest6.length + 1 := by rw [← Array.length_toList, e6]; rfl
  have gE : ops6[0]? = some oE := by rw [← Array.getElem?_toList, e6]; rfl
  simp only [chkOper, Bool.and_eq_true, beq_iff_eq] at hkE
  obtain ⟨⟨kE, qE⟩, opE⟩ := hkE
  have qE : oE.guard = none := by cases h : oE.guard <;> simp_all [chkGuard]
  have opE : oE.op = .entry (.tmp p.t12) := by
    simp only [chkOp] at opE
    split at opE
    · rename_i y ho; rw [ho, chkX_s opE]
    · cases opE
  intro n
  induction n using Nat.strongRecOn with
  | ind n ih =>
    intro done left vq E a sl hlen hperm hw hs hst hdf hρi hρq hit hnm hyp
    obtain ⟨_, hI0, _⟩ := hyp left (.refl _)
    obtain ⟨hH1, hH2, hH3, hH4, hH5⟩ := hI0.head
    simp only at hH1 hH2 hH3 hH4 hH5
    have hnorm : ∃ st1, norm m p.lv p.ids ⟨sl, E.H⟩ = some st1 := by cases hI0 <;> exact ⟨_, by assumption⟩
    obtain ⟨st1, hnorm⟩ := hnorm
    have hnorm' := hnorm
    simp only [norm] at hnorm
    split at hnorm
    case h_2 => cases hnorm
    rename_i H' hf
    cases hnorm
    have hw1 := n_wrel hw hf
    have hs1 : ARel (nEnv E H') (fixSlots m p.lv p.ids E.H 0 sl) a := fixSlots_rel hf hs
    have hst1 : StepM m E0 (nEnv E H') := hst.trans (n_step hf)
    have hsz : a.tmps.size = sl.length := by have := hs.length; simpa using this
    have hev : a.eval (.tmp p.t12) = .pointer (some ⟨r, 0, none⟩) := eval_ptr hs hH2 hH3 hρq
    have hob := hw.obj i _ hH1
    unfold ObjRel at hob
    obtain ⟨b', hb1, hb⟩ := hob
    rw [hρi] at hb1
    cases hb1
    have hb : E.w.heap[b]? = some (.map (es.map pe).toArray clk) := hb
    have hHi : H'[i]? = some ⟨ver, .map clk es⟩ := by
      obtain ⟨o', h1, h2⟩ := n_get hf hH1
      rcases h2 with ⟨_, bb, h3, rfl⟩ | ⟨h3, _⟩ | ⟨h3, _⟩
      · simp only [fixBody, Option.some.injEq] at h3; subst h3; exact h1
      · omega
      · omega
    have hHq : H'[p.q]? = some ⟨0, .none⟩ := by
      obtain ⟨o', h1, h2⟩ := n_get hf hH3
      rcases h2 with ⟨h3, _⟩ | ⟨_, _, bb, h3, rfl⟩ | ⟨_, h3, _⟩
      · omega
      · simp only [fixBody, Option.some.injEq] at h3; subst h3; exact h1
      · rw [hqi] at h3; cases h3
    have hhold : ∀ x ∈ ((es.map pe).toArray).toList, x.born < clk := by
      intro x hx
      simp only [List.mem_map] at hx
      obtain ⟨e, he, rfl⟩ := hx
      exact hclk e he
    rw [rounds_succ]
    refine wp_seq (wp_region ?_)
    rw [hs5, show List.range 2 = [0, 1] from rfl, wpOps_cons]
    rcases run_next_at (P := P) E.w o13.type r b clk clk (done.map (·.2.2)).toArray (es.map pe).toArray clk hit hb hhold (Nat.le_refl _) with ⟨h0, hrun⟩ | ⟨x, hx, w1, hal, hrun⟩
    · -- nothing is left
      have hleft : left = [] := by
        cases left with
        | nil => rfl
        | cons e l =>
          exfalso
          have he : e ∈ es := hperm.mem_iff.1 (by simp)
          have := all_seen _ _ h0 (pe e) (by simp only [List.mem_map]; exact ⟨e, he, rfl⟩)
          have hd : e.2.2 ∈ done.map (·.2.2) := by simpa [pe] using this
          have hnd : ((done ++ e :: l).map (·.2.2)).Nodup := (hperm.map _).nodup_iff.2 hn
          rw [List.map_append, List.nodup_append] at hnd
          exact hnd.2.2 _ hd _ (by simp) rfl
      subst hleft
      refine wpOp_hand g13 q13 (v := .tuple #[.bool false]) (w' := E.w) ?_ ?_
      · simp only [execOp, op13, hev, Sem.run_bind, hrun, Result.andThen_ok, Sem.run_pure]
      · rw [← k13, wpOps_cons]
        refine wpOp_hand g14 q14 (v := .bool false) (w' := E.w) ?_ ?_
        · simp [execOp, op14, Act.eval_put_eq (show p.t13 < a.tmps.size by omega), Instr.extract]
        · rw [← k14]
          refine wp_seq (wp_cond_false (Act.eval_put_eq (by rw [Act.size_put]; omega)) (wp_exit ?_))
          refine hQ _ _ ?_
          obtain ⟨st', hI, hG⟩ := hyp [] (.refl _)
          cases hI with
          | done _ hn1 =>
            rw [hnorm'] at hn1
            cases hn1
            exact hG (nEnv E H') _ rfl hw1 (ovr_rel hs1 _ _) hst1 (by rw [put_defers, put_defers]; exact hdf)
    · -- an entry
      obtain ⟨e, he, rfl, hed⟩ := mem_leftOf hx
      have hel := born_left hperm hn he hed
      obtain ⟨l1, l2, rfl⟩ := List.append_of_mem hel
      have hIW : IterW E.w (ChangeMaps.setBlock w1 r (.mapIter (some b) clk ((done.map (·.2.2)).toArray.push (pe e).born) clk)) r := by
        have hsame : w1.heap = E.w.heap ∧ w1.os = E.w.os ∧ w1.tape = E.w.tape ∧ w1.output = E.w.output ∧ E.w.drawn ≤ w1.drawn := by
          rcases hal with rfl | rfl
          · exact ⟨rfl, rfl, rfl, rfl, Nat.le_refl _⟩
          · exact ⟨rfl, rfl, rfl, rfl, Nat.le_succ _⟩
        obtain ⟨s1, s2, s3, s4, s5⟩ := hsame
        have hrl : r < E.w.heap.size := (Array.getElem?_eq_some_iff.1 hit).1
        refine ⟨s2, s3, s4, by simp [ChangeMaps.setBlock, s1], s5, fun b hb => ?_, ⟨_, _, _, _, hit⟩, ⟨some b, clk, ((done.map (·.2.2)).toArray.push (pe e).born), clk, ?_⟩⟩
        · simp [ChangeMaps.setBlock, s1, Ne.symm hb]
        · simp [ChangeMaps.setBlock, s1, hrl]
      have hrl : r < E.w.heap.size := (Array.getElem?_eq_some_iff.1 hit).1
      have hbr : b ≠ r := fun q => by subst q; rw [hb] at hit; cases hit
      have hitN : (ChangeMaps.setBlock w1 r (.mapIter (some b) clk ((done.map (·.2.2)).toArray.push (pe e).born) clk)).heap[r]? = some (.mapIter (some b) clk ((done.map (·.2.2)).toArray.push (pe e).born) clk) := by
        have hs : w1.heap = E.w.heap := by rcases hal with rfl | rfl <;> rfl
        simp [ChangeMaps.setBlock, hs, hrl]
      generalize ChangeMaps.setBlock w1 r (.mapIter (some b) clk ((done.map (·.2.2)).toArray.push (pe e).born) clk) = w2 at hIW hrun hitN
      have hbN : w2.heap[b]? = some (.map (es.map pe).toArray clk) := (hIW.other b hbr).trans hb
      have hwN : WRel ⟨E.F, H', E.ρ, w2⟩ := IterW.wrel (E := nEnv E H') hIW hw1
      have hsN : ARel ⟨E.F, H', E.ρ, w2⟩ (fixSlots m p.lv p.ids E.H 0 sl) a := LRel.keeps (IterW.keeps (E := nEnv E H') hIW) _ _ hs1
      have hstN : StepM m E0 ⟨E.F, H', E.ρ, w2⟩ := IterW.stepM (E := nEnv E H') hIW hr0 hst1
      have hnmN : ¬ Env.Mut ⟨E.F, H', E.ρ, w2⟩ r := by
        rintro ⟨j, hj⟩
        exact hnm ⟨j, n_mut hf hj⟩
      refine wpOp_hand g13 q13 (v := .tuple #[.bool true, (pe e).key, (pe e).val]) (w' := w2) ?_ ?_
      · simp only [execOp, op13, hev, Sem.run_bind, hrun, Result.andThen_ok, Sem.run_pure]
      · rw [← k13, wpOps_cons]
        refine wpOp_hand g14 q14 (v := .bool true) (w' := w2) ?_ ?_
        · simp [execOp, op14, Act.eval_put_eq (show p.t13 < a.tmps.size by omega), Instr.extract]
        · rw [← k14]
          have hs2 := ovr_rel (p := p) hsN (.tuple #[.bool true, (pe e).key, (pe e).val]) (.bool true)
          have hev2 : ((a.put (some p.t13) (.tuple #[.bool true, (pe e).key, (pe e).val])).put (some p.t14) (.bool true)).eval (.tmp p.t12) = .pointer (some ⟨r, 0, none⟩) := by
            rw [Act.eval_put_ne hd2, Act.eval_put_ne hd1]; exact hev
          have hdf2 : ((a.put (some p.t13) (.tuple #[.bool true, (pe e).key, (pe e).val])).put (some p.t14) (.bool true)).defers = a0.defers := by
            rw [put_defers, put_defers]; exact hdf
          refine wp_seq (wp_cond_true (Act.eval_put_eq (by rw [Act.size_put]; omega)) (wp_skip ?_))
          generalize ((a.put (some p.t13) (.tuple #[.bool true, (pe e).key, (pe e).val])).put (some p.t14) (.bool true)) = a2 at hs2 hev2 hdf2
          refine wp_block (wp_seq (wp_region ?_))
          rw [hs6, List.range_eq_range', List.range'_succ, wpOps_cons]
          refine wpOp_hand gE qE (v := .tuple #[(pe e).key, (pe e).val]) (w' := w2) ?_ ?_
          · have := run_entry_at (P := P) w2 r b clk (done.map (·.2.2)).toArray (es.map pe).toArray clk (pe e) hitN hbN (by simp only [List.mem_map]; exact ⟨e, he, rfl⟩) (by simpa [pe, Function.comp_def] using hn)
            simp only [execOp, opE, hev2, Sem.run_bind, this, Result.andThen_ok, Sem.run_pure]
          · rw [← kE]
            have hs3 : ARel ⟨E.F, H', E.ρ, w2⟩ ((ovr p (fixSlots m p.lv p.ids E.H 0 sl)).set p.t15 (.tup [.agg e.1, .int .i64 e.2.1])) (a2.put (some p.t15) (.tuple #[(pe e).key, (pe e).val])) := by
              refine hs2.put (d := some p.t15) (x := .tup [.agg e.1, .int .i64 e.2.1]) ?_
              simp only [VRel, LRel]
              exact ⟨_, rfl, _, _, rfl, ⟨_, rfl, plain_rel _ (hpl e he)⟩, _, _, rfl, rfl, rfl⟩
            obtain ⟨st', hI, _⟩ := hyp (e :: (l1 ++ l2)) List.perm_middle.symm
            cases hI with
            | @step _ _ _ _ st1 st2 st3 _ hhd hn1 hr6 hr7 hrest =>
              rw [hnorm'] at hn1
              cases hn1
              have hd6 : ops6.toList.drop 1 = rest6 := by rw [e6]; rfl
              refine region_text (E := ⟨E.F, H', E.ρ, w2⟩) (Q := _) hcf hk6 hd6 hwN hs3 hr6 fun E4 a4 q1 q2 q3 q4 q5 => ?_
              refine region_sound hcf (by simpa only [chkCode] using hc7) q2 q3 (by rw [q1]; exact hr7) fun E5 a5 u1 u2 u3 u4 u5 => ?_
              have hstep : Step ⟨E.F, H', E.ρ, w2⟩ E5 := q4.trans u4
              obtain ⟨k1, k2, k3, k4, k5⟩ := hrest.head
              have hρ5 : E5.ρ[i]? = some (some (b, 0)) := by
                obtain ⟨o', o1, _, o3⟩ := hstep.obj i _ hHi
                rw [u1, k1] at o1
                cases o1
                exact ((o3 rfl).2).trans hρi
              have hρq5 : E5.ρ[p.q]? = some (some (r, 0)) := by
                obtain ⟨o', o1, _, o3⟩ := hstep.obj p.q _ hHq
                rw [u1, k3] at o1
                cases o1
                exact ((o3 rfl).2).trans hρq
              have hr2 : r < w2.heap.size := (Array.getElem?_eq_some_iff.1 hitN).1
              obtain ⟨hh5, hm5⟩ := hstep.w.keep r hr2 hnmN
              have hlt : l1.length + l2.length < n := by simp at hlen; omega
              have hlen' : (l1 ++ l2).length = n - 1 := by simp at hlen ⊢; omega
              have hgoal := ih (n - 1) (by omega) (done ++ [e]) (l1 ++ l2) 0 E5 a5 st3.sl hlen' ?_ u2 u3 (hstN.trans (hstep.toM m)) (by rw [u5, q5, put_defers]; exact hdf2) hρ5 hρq5 ?_ hm5 ?_
              · rw [show n - 1 + 1 = n by omega] at hgoal
                exact hgoal
              · refine List.Perm.trans ?_ hperm
                rw [List.append_assoc]
                exact List.Perm.append_left _ (by simpa using (List.perm_middle (a := e) (l₁ := l1) (l₂ := l2)).symm)
              · rw [hh5]
                show w2.heap[r]? = _
                rw [hitN]
                simp [pe]
              · intro t ht
                obtain ⟨st'', hI2, hG2⟩ := hyp (e :: t) ((List.Perm.cons e ht).trans List.perm_middle.symm)
                cases hI2 with
                | step _ hn2 hr62 hr72 hrest2 =>
                  rw [hnorm'] at hn2
                  cases hn2
                  rw [hr6] at hr62
                  cases hr62
                  rw [hr7] at hr72
                  cases hr72
                  refine ⟨st'', ?_, hG2⟩
                  rw [show (⟨st3.sl, E5.H⟩ : St) = st3 by rw [u1]]
                  exact hrest2

theorem range_start {E : Env} (hw : WRel E) {q : Nat} {oq : AObj} (hq : E.H[q]? = some oq) (o : Obj) :
    WRel (E.put q ⟨oq.ver + 1, .none⟩ (some (E.w.heap.size, 0)) (E.w.alloc o)) ∧ Step E (E.put q ⟨oq.ver + 1, .none⟩ (some (E.w.heap.size, 0)) (E.w.alloc o)) :=
  relay (o' := ⟨oq.ver + 1, .none⟩) hw hq (Nat.le_succ _) (fun e => by simp at e) ((Chg.none E q).alloc o) (fun _ _ h _ => by cases h) (fun _ => trivial)

theorem rangeFun_sound (hcf : CfSound P cf) (p : RP) {mf : MFun} {fn : Func} {f fuel : Nat} (hfn : P.funcs[f]? = some fn) (hc : chkFun P mf fn = true) (hb : mf.body = p.code)
    (hd1 : p.t13 ≠ p.t12) (hd2 : p.t14 ≠ p.t12) (hd3 : p.t14 ≠ p.t13) (hqi : p.ids.contains p.q = true)
    {args : List AV} {H H1 : List AObj} {r : AV} (hnp : args.length = mf.np) (hmq : H.length ≤ p.q)
    {s1 s2 s3 s4 : St} {i ver clk : Nat} {es : List Ent} {oq : AObj} (him : i < H.length)
    (hA : evalCode cf H.length fuel p.mA ⟨args ++ List.replicate (mf.nt - args.length) (.tup []), H ++ List.replicate mf.no ⟨0, .none⟩⟩ = some (.normal, s1))
    (hB : evalCode cf H.length fuel p.mB s1 = some (.normal, s2)) (hC : evalCode cf H.length fuel p.mC s2 = some (.normal, s3)) (h4 : runOps cf p.ms4 s3 = some s4)
    (hx : ev s4.sl p.x = .mp i ver) (hHi : s4.H[i]? = some ⟨ver, .map clk es⟩) (hHq : s4.H[p.q]? = some oq)
    (hn : (es.map (·.2.2)).Nodup) (hclk : ∀ e ∈ es, e.2.2 < clk) (hpl : ∀ e ∈ es, e.1.all plainC = true)
    (hIt : ∀ t, t.Perm es → ∃ sE sD r0, IterR cf p H.length i ver clk es (oq.ver + 1) t ⟨s4.sl.set p.t12 (.ptr p.q (oq.ver + 1) 0), s4.H.set p.q ⟨oq.ver + 1, .none⟩⟩ sE ∧
      evalCode cf H.length fuel p.mD sE = some (.ret, sD) ∧ results sD mf.res = some r0 ∧ fixV H.length [] sD.H r0 = r ∧ fixObjs H.length [] sD.H 0 sD.H = some H1) :
    CallOk P f ∧ ∀ (E : Env) (vals : Array Value), WRel E → E.H = H → LRel E args vals.toList → Calls P f vals E.w (CfPost E r H1) := by
  simp only [chkFun, Bool.and_eq_true, bne_iff_ne, ne_eq, beq_iff_eq, decide_eq_true_eq] at hc
  obtain ⟨⟨⟨⟨hname, hnt⟩, hnp'⟩, hres⟩, hbody⟩ := hc
  split at hbody
  case h_2 => cases hbody
  rename_i c hfb
  refine ⟨⟨fn, hfn, hname, by rw [hfb]; rfl⟩, fun E vals hw hH hargs => ?_⟩
  subst hH
  have hsz : vals.size = args.length := by rw [← hargs.length]; simp
  have hw0 := inFun_wrel hw mf.no
  have hst0 := inFun_step hw mf.no
  have hs0 : ARel (inFun E mf.no) (args ++ List.replicate (mf.nt - args.length) (.tup [])) { tmps := vals ++ Array.replicate (fn.ntmps - vals.size) undef, defers := [] } := by
    unfold ARel
    simp only [Array.toList_append, Array.toList_replicate]
    rw [← hnt, hsz]
    exact (hargs.mono hst0).app (LRel.undefs _ _)
  refine calls_of_wp hfn hfb ?_
  rw [hb] at hbody
  cases c <;> simp only [RP.code, chkCode, Bool.false_eq_true, Bool.and_eq_true] at hbody
  rename_i cA cB'
  obtain ⟨kA, hbody⟩ := hbody
  cases cB' <;> simp only [chkCode, Bool.false_eq_true, Bool.and_eq_true] at hbody
  rename_i cB cC'
  obtain ⟨kB, hbody⟩ := hbody
  cases cC' <;> simp only [chkCode, Bool.false_eq_true, Bool.and_eq_true] at hbody
  rename_i cC cR
  obtain ⟨kC, hbody⟩ := hbody
  cases cR <;> simp only [chkCode, Bool.false_eq_true, Bool.and_eq_true] at hbody
  rename_i cL cD
  obtain ⟨hbody, kD⟩ := hbody
  cases cL <;> simp only [chkCode, Bool.false_eq_true, Bool.and_eq_true] at hbody
  rename_i c4 cK
  obtain ⟨k4, hbody⟩ := hbody
  cases c4 <;> simp only [chkCode, Bool.false_eq_true, Bool.and_eq_true, beq_iff_eq] at k4
  rename_i id4 ops4 d4
  obtain ⟨⟨⟨hd4, hl4⟩, ho4⟩, _⟩ := k4
  subst hd4
  cases cK <;> simp only [chkCode, Bool.false_eq_true, Bool.and_eq_true, beq_iff_eq] at hbody
  rename_i b0 cW
  obtain ⟨hb0, hbody⟩ := hbody
  subst hb0
  cases cW <;> simp only [chkCode, Bool.false_eq_true] at hbody
  rename_i cl
  obtain ⟨os, oR, e4, kpre, kR⟩ := chkOpers_app ho4
  simp only [chkOper, Bool.and_eq_true, beq_iff_eq] at kR
  obtain ⟨⟨kRd, kRg⟩, kRo⟩ := kR
  have kRg : oR.guard = none := by cases h : oR.guard <;> simp_all [chkGuard]
  have gR : ops4[os.length]? = some oR := by rw [← Array.getElem?_toList, e4]; simp
  have hs4 : ops4.size = os.length + [oR].length := by rw [← Array.length_toList, e4]; simp
  show Code.wp P _ _ _ (inFun E mf.no).w
  refine wp_seq (code_sound hcf E.H.length fuel p.mA cA kA hw0 hs0 hA fun E1 a1 q1 q2 q3 q4 q5 => ?_)
  refine wp_seq (code_sound hcf E.H.length fuel p.mB cB kB q2 q3 (by rw [q1]; exact hB) fun E2 a2 r1 r2 r3 r4 r5 => ?_)
  refine wp_seq (code_sound hcf E.H.length fuel p.mC cC kC r2 r3 (by rw [r1]; exact hC) fun E3 a3 t1 t2 t3 t4 t5 => ?_)
  refine wp_seq (wp_seq (wp_region ?_))
  rw [hs4, List.range_eq_range']
  refine region_pre (k := 0) hcf kpre (by simpa using e4) t2 t3 (by rw [t1]; exact h4) fun E4 a4 u1 u2 u3 u4 u5 => ?_
  simp only [Nat.zero_add, List.length_singleton, show List.range' os.length 1 = [os.length] from rfl]
  rw [wpOps_cons]
  obtain ⟨ty, y, kt, et, hop, hxy, hu⟩ : ∃ ty y kt et, oR.op = .range ty y ∧ chkX p.x y = true ∧ P.underlying ty = some (.map kt et) := by
    simp only [chkOp] at kRo
    split at kRo
    · rename_i ty y ho
      simp only [Bool.and_eq_true] at kRo
      obtain ⟨k1, k2⟩ := kRo
      split at k2
      · rename_i kt et hu; exact ⟨ty, y, kt, et, ho, k1, hu⟩
      · cases k2
    · cases kRo
  have hxv := ev_rel u3 hxy
  rw [hx] at hxv
  simp only [VRel] at hxv
  obtain ⟨b, hyb, o, ho, _, hρ⟩ := hxv
  rw [u1, hHi] at ho
  cases ho
  have hρ := hρ rfl
  have hq4 : E4.H[p.q]? = some oq := by rw [u1]; exact hHq
  have hob := u2.obj i _ (by rw [u1]; exact hHi)
  unfold ObjRel at hob
  obtain ⟨b', hb1, hmap⟩ := hob
  rw [hρ] at hb1
  cases hb1
  have hmap : E4.w.heap[b]? = some (.map (es.map pe).toArray clk) := hmap
  have hrun := run_range_map (P := P) E4.w ty kt et b (es.map pe).toArray clk hu hmap
  refine wpOp_hand gR kRg (v := .pointer (some ⟨E4.w.heap.size, 0, none⟩)) (w' := E4.w.alloc (.mapIter (some b) clk #[] clk)) ?_ ?_
  · simp only [execOp, hop, hyb, Sem.run_bind, hrun, Result.andThen_ok, Sem.run_pure]
  · obtain ⟨hw5, hst5⟩ := range_start u2 hq4 (.mapIter (some b) clk #[] clk)
    have hs5 : ARel (E4.put p.q ⟨oq.ver + 1, .none⟩ (some (E4.w.heap.size, 0)) (E4.w.alloc (.mapIter (some b) clk #[] clk))) (s4.sl.set p.t12 (.ptr p.q (oq.ver + 1) 0)) (a4.put oR.dst (.pointer (some ⟨E4.w.heap.size, 0, none⟩))) := by
      rw [← kRd]
      exact (u3.mono hst5).put (d := some p.t12) (ptr_new (q' := ⟨oq.ver + 1, .none⟩) u2 hq4)
    have hstB : StepM E.H.length (inFun E mf.no) (E4.put p.q ⟨oq.ver + 1, .none⟩ (some (E4.w.heap.size, 0)) (E4.w.alloc (.mapIter (some b) clk #[] clk))) :=
      (q4.trans (r4.trans (t4.trans ((u4.trans hst5).toM _))))
    have hdf : (a4.put oR.dst (.pointer (some ⟨E4.w.heap.size, 0, none⟩))).defers = [] := by rw [put_defers, u5, t5, r5, q5]
    have hi4 : i ≠ p.q := by omega
    have hsz0 : (inFun E mf.no).w.heap.size ≤ E4.w.heap.size := (q4.trans (r4.trans (t4.trans (u4.toM _)))).w.size
    simp only [wpOps]
    show (Code.block p.b0 (Code.loop cl)).wp P _ _ _
    refine wp_block (wp_loop_rounds (es.length + 1) ?_)
    have hH5 : (E4.put p.q ⟨oq.ver + 1, .none⟩ (some (E4.w.heap.size, 0)) (E4.w.alloc (.mapIter (some b) clk #[] clk))).H = s4.H.set p.q ⟨oq.ver + 1, .none⟩ := by
      show E4.H.set _ _ = _; rw [u1]
    have hIt' : ∀ t, t.Perm es → ∃ sE, IterR cf p E.H.length i ver clk es (oq.ver + 1) t ⟨s4.sl.set p.t12 (.ptr p.q (oq.ver + 1) 0), (E4.put p.q ⟨oq.ver + 1, .none⟩ (some (E4.w.heap.size, 0)) (E4.w.alloc (.mapIter (some b) clk #[] clk))).H⟩ sE ∧
        GoodM E.H.length (inFun E mf.no) (a4.put oR.dst (.pointer (some ⟨E4.w.heap.size, 0, none⟩))) sE (fun a w => cD.wp P (bodyPost P fn (CfPost E r H1)) a w) := by
      intro t ht
      obtain ⟨sE, sD, r0, g1, g2, g3, g4, g5⟩ := hIt t ht
      refine ⟨sE, by rw [hH5]; exact g1, fun E6 a6 v1 v2 v3 v4 v5 => ?_⟩
      refine code_sound hcf E.H.length fuel p.mD cD kD v2 v3 (by rw [v1]; exact g2) fun E7 a7 x1 x2 x3 x4 x5 => ?_
      have hst' : sD = ⟨sD.sl, E7.H⟩ := by rw [x1]
      rw [hst'] at g3
      obtain ⟨v, hv1, hv2⟩ := results_run x2 x3 hres g3
      have hf7 : fixObjs E.H.length [] E7.H 0 E7.H = some H1 := by rw [x1]; exact g5
      have hw7 := n_wrel x2 hf7
      have hv7 : VRel (nEnv E7 H1) r v := by
        have := fixV_rel hf7 hv2
        rw [x1, g4] at this
        exact this
      have hall : StepM E.H.length (inFun E mf.no) (nEnv E7 H1) := (v4.trans x4).trans (n_step hf7)
      have hstep : Step E (nEnv E7 H1) := by
        refine ⟨hall.F, fun i o ho => ?_, ⟨hall.w.os, hall.w.tape, hall.w.output, hall.w.size, fun b hb hn => hall.w.keep b hb fun ⟨i, q⟩ => hn ⟨i, (inFun_mut hw).1 q⟩, hall.w.blk, hall.w.drawn⟩⟩
        have hi := (List.getElem?_eq_some_iff.1 ho).1
        obtain ⟨o', h1, h2, h3⟩ := hall.obj i o hi (by rw [← ho]; exact List.getElem?_append_left hi)
        have hi' : i < E.ρ.length := by rw [hw.len]; exact hi
        exact ⟨o', h1, h2, fun e => ⟨(h3 e).1, (h3 e).2.trans (List.getElem?_append_left hi')⟩⟩
      refine ⟨x5.trans (v5.trans hdf), v, hv1, v, rfl, nEnv E7 H1, rfl, rfl, hw7, hv7, hstep⟩
    refine range_rounds hcf p hbody (E0 := inFun E mf.no) (a0 := a4.put oR.dst (.pointer (some ⟨E4.w.heap.size, 0, none⟩))) (i := i) (ver := ver) (b := b) (r := E4.w.heap.size) hd1 hd2 hd3 hqi hmq him hn hclk hpl hsz0
      (K := fun a w => cD.wp P (bodyPost P fn (CfPost E r H1)) a w) ?_ es.length [] es (oq.ver + 1) _ _ (s4.sl.set p.t12 (.ptr p.q (oq.ver + 1) 0)) rfl (by simp) hw5 hs5 hstB rfl ?_ ?_ ?_ ?_ hIt'
    · intro a w hk
      simp only [Exit.inBlock, if_true]
      exact hk
    · show (E4.ρ.set p.q _)[i]? = _
      rw [set_get_ne (Ne.symm hi4)]; exact hρ
    · exact put_ρ u2 hq4
    · show (E4.w.heap.push _)[E4.w.heap.size]? = _
      simp
    · rintro ⟨j, hj⟩
      by_cases e : p.q = j
      · subst e
        have := (mutAt_put_eq u2.len hq4).1 hj
        cases this.1
      · have := (mutAt_put_ne e).1 hj
        obtain ⟨o, base, m1, m2, m3⟩ := this
        have := u2.block_lt m1 m2 m3
        omega
end Go.Ev
end
