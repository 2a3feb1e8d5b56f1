/- Regions. -/
import Derived.Test.YtfodjphcngidbaaEvAny
set_option linter.unusedSimpArgs false
set_option linter.unusedVariables false
namespace Go.Ev
variable {P : Program} {E : Env} {ops : Array Oper} {ms : List MOper} {cf : CallF} {Q : Exit → Act → World → Prop}

/-- Where a step of the evaluator leaves the machine. -/
def Good (E : Env) (a : Act) (st : St) (K : Act → World → Prop) : Prop :=
  ∀ (E' : Env) (a' : Act), E'.H = st.H → WRel E' → ARel E' st.sl a' → Step E E' → a'.defers = a.defers → K a' E'.w

theorem LRel.set {E : Env} : ∀ {cs : List AV} {vs : List Value} {c : AV} {v : Value} (d : Nat), LRel E cs vs → VRel E c v → LRel E (cs.set d c) (vs.set d v)
  | [], vs, c, v, d, h, _ => by simp only [LRel] at h; subst h; simp [LRel]
  | x :: cs, vs, c, v, d, h, k => by
    simp only [LRel] at h
    obtain ⟨u, r, rfl, h1, h2⟩ := h
    cases d with
    | zero => exact ⟨v, r, rfl, k, h2⟩
    | succ d => exact ⟨u, r.set d v, rfl, h1, h2.set d k⟩

theorem ARel.put {sl : List AV} {a : Act} {x : AV} {v : Value} (h : ARel E sl a) (hv : VRel E x v) (d : Option Nat) : ARel E (putV sl d x) (a.put d v) := by
  cases d with
  | none => exact h
  | some d =>
    unfold ARel Act.put
    simp only [putV, Array.toList_setIfInBounds]
    exact h.set d hv
theorem ARel.mono {E E' : Env} (h : Step E E') {sl : List AV} {a : Act} (hs : ARel E sl a) : ARel E' sl a := LRel.mono h hs

theorem put_defers (a : Act) (d : Option Nat) (v : Value) : (a.put d v).defers = a.defers := by cases d <;> rfl

theorem undef_rel (E : Env) : VRel E (.tup []) undef := by
  simp only [VRel, LRel]
  exact ⟨#[], rfl, rfl⟩

theorem guard_run {sl : List AV} {a : Act} (hs : ARel E sl a) {g : Option (Nat × Bool)} {o : Oper} (hg : chkGuard ops g o.guard = true) {b : Bool} (h : wanted sl g = some b) :
    Region.wanted o (yielded ops a.tmps) = b := by
  cases g with
  | none =>
    simp only [wanted, Option.some.injEq] at h
    subst h
    cases ho : o.guard with
    | none => simp [Region.wanted, ho]
    | some p => rw [ho] at hg; simp [chkGuard] at hg
  | some p =>
    obtain ⟨d, w⟩ := p
    cases ho : o.guard with
    | none => rw [ho] at hg; simp [chkGuard] at hg
    | some q =>
      obtain ⟨j, w'⟩ := q
      rw [ho] at hg
      simp only [chkGuard, Bool.and_eq_true, beq_iff_eq] at hg
      obtain ⟨rfl, hd⟩ := hg
      simp only [Region.wanted, ho, yielded, hd, Option.bind_some]
      simp only [wanted, List.getD_eq_getElem?_getD] at h
      cases hg : sl[d]? with
      | none => rw [hg] at h; simp at h
      | some c =>
        obtain ⟨v, hv, hr⟩ := LRel.get hs d c hg
        rw [hg] at h
        simp only [Option.getD_some] at h
        have hv' : a.tmps[d]? = some v := by simpa using hv
        rw [hv']
        split at h
        · rename_i b' 
          simp only [VRel] at hr
          subst hr
          cases h
          simp only []
          cases b' <;> cases w <;> rfl
        · simp only [VRel, LRel] at hr
          obtain ⟨arr, rfl, h0⟩ := hr
          cases h
          simp
        · cases h

theorem stepOp_sound (hcf : CfSound P cf) {i : Nat} {m : MOper} {o : Oper} {a : Act} {sl : List AV} {st' : St} (hi : ops[i]? = some o) (hc : chkOper P ops m o = true) (hw : WRel E) (hs : ARel E sl a)
    (h : stepOp cf m ⟨sl, E.H⟩ = some st') {K : Act → World → Prop} (hK : Good E a st' K) : wpOp P ops Q i K a E.w := by
  simp only [chkOper, Bool.and_eq_true, beq_iff_eq] at hc
  obtain ⟨⟨hd, hg⟩, hop⟩ := hc
  unfold wpOp
  simp only [hi]
  unfold stepOp at h
  split at h
  · rename_i hwt
    simp only at hwt h
    rw [guard_run hs hg hwt]
    simp only [if_true]
    split at h
    · rename_i x ups he
      cases h
      refine .inl (opV_sound hcf hw hs hop he K Q ?_)
      rintro v w' ⟨ρ, h1, h2, h3⟩
      exact hK (Lay E ups ρ w') (a.put o.dst v) rfl h1 (by rw [hd]; exact (hs.mono h2).put h3 _) h2 (put_defers ..)
    · cases h
  · rename_i hwt
    simp only at hwt h
    rw [guard_run hs hg hwt]
    simp only [Bool.false_eq_true, if_false]
    cases h
    exact hK E (a.put o.dst undef) rfl hw (by rw [hd]; exact hs.put (undef_rel E) _) (.refl _) (put_defers ..)
  · cases h

theorem region_text (hcf : CfSound P cf) : ∀ {ms : List MOper} {os : List Oper} {k : Nat} {E : Env} {a : Act} {sl : List AV} {st' : St}, chkOpers P ops ms os = true → ops.toList.drop k = os → WRel E → ARel E sl a →
    runOps cf ms ⟨sl, E.H⟩ = some st' → Good E a st' (Q .normal) → wpOps P ops Q (List.range' k os.length) a E.w
  | [], [], k, E, a, sl, st', _, _, hw, hs, h, hK => by
    simp only [runOps, Option.some.injEq] at h
    subst h
    simp only [List.length_nil, List.range'_zero, wpOps]
    exact hK E a rfl hw hs (.refl _) rfl
  | [], _ :: _, _, _, _, _, _, hc, _, _, _, _, _ => by simp [chkOpers] at hc
  | _ :: _, [], _, _, _, _, _, hc, _, _, _, _, _ => by simp [chkOpers] at hc
  | m :: ms, o :: os, k, E, a, sl, st', hc, hdrop, hw, hs, h, hK => by
    simp only [chkOpers, Bool.and_eq_true] at hc
    have hk : ops[k]? = some o := by
      have := congrArg (·[0]?) hdrop
      simpa [List.getElem?_drop] using this
    have hdrop' : ops.toList.drop (k + 1) = os := by
      rw [← List.drop_drop, hdrop]; rfl
    simp only [List.length_cons, List.range'_succ]
    rw [wpOps_cons]
    simp only [runOps] at h
    split at h
    · rename_i st1 h1
      refine stepOp_sound hcf hk hc.1 hw hs h1 fun E' a' hH hw' hs' hst hdf => ?_
      refine region_text hcf hc.2 hdrop' hw' hs' (by rw [hH]; exact h) fun E'' a'' q1 q2 q3 q4 q5 => hK E'' a'' q1 q2 q3 (hst.trans q4) (q5.trans hdf)
    · cases h

/-! ### Any order -/
def anyOk (cf : CallF) (ops : Array Oper) (ms : List MOper) : Nat → Array Bool → St → St → Prop
  | 0, listed, st, st' => Region.ready .any ops listed = [] ∧ st = st'
  | n + 1, listed, st, st' => (Region.ready .any ops listed = [] → st = st') ∧
    ∀ i ∈ Region.ready .any ops listed, ∃ m st1, ms[i]? = some m ∧ stepOp cf m st = some st1 ∧ anyOk cf ops ms n (listed.setIfInBounds i true) st1 st'

theorem chkOpers_get : ∀ {ms : List MOper} {os : List Oper} {i : Nat} {m : MOper} {o : Oper}, chkOpers P ops ms os = true → ms[i]? = some m → os[i]? = some o → chkOper P ops m o = true
  | [], _, i, m, o, _, h, _ => by simp at h
  | _ :: _, [], i, m, o, h, _, _ => by simp [chkOpers] at h
  | x :: ms, y :: os, i, m, o, h, h1, h2 => by
    simp only [chkOpers, Bool.and_eq_true] at h
    cases i with
    | zero => simp at h1 h2; subst h1; subst h2; exact h.1
    | succ i => exact chkOpers_get h.2 (by simpa using h1) (by simpa using h2)

theorem anyOk_sound (hcf : CfSound P cf) (hc : chkOpers P ops ms ops.toList = true) : ∀ {n : Nat} {listed : Array Bool} {E : Env} {a : Act} {sl : List AV} {st' : St}, WRel E → ARel E sl a →
    anyOk cf ops ms n listed ⟨sl, E.H⟩ st' → Good E a st' (Q .normal) → wpAny P .any ops Q n listed a E.w
  | 0, listed, E, a, sl, st', hw, hs, h, hK => by
    obtain ⟨h1, rfl⟩ := h
    exact ⟨h1, hK E a rfl hw hs (.refl _) rfl⟩
  | n + 1, listed, E, a, sl, st', hw, hs, h, hK => by
    obtain ⟨h1, h2⟩ := h
    refine ⟨fun e => ?_, fun i hi => ?_⟩
    · have := h1 e
      subst this
      exact hK E a rfl hw hs (.refl _) rfl
    · obtain ⟨m, st1, hm, hstep, hrest⟩ := h2 i hi
      obtain ⟨_, o, ho, _⟩ := mem_ready.1 hi
      refine stepOp_sound hcf ho (chkOpers_get hc hm (by simpa using ho)) hw hs hstep fun E' a' hH hw' hs' hst hdf => ?_
      refine anyOk_sound hcf hc hw' hs' (by rw [hH]; exact hrest) fun E'' a'' q1 q2 q3 q4 q5 => hK E'' a'' q1 q2 q3 (hst.trans q4) (q5.trans hdf)

inductive Reach (ops : Array Oper) (i : Nat) : Nat → Prop
  | one {j : Nat} {o : Oper} {e : Edge} : ops[j]? = some o → e ∈ o.after → Region.binds .any e = true → e.on = i → Reach ops i j
  | more {j : Nat} {o : Oper} {e : Edge} : ops[j]? = some o → e ∈ o.after → Region.binds .any e = true → Reach ops i e.on → Reach ops i j

def DownC (ops : Array Oper) (listed : Array Bool) : Prop :=
  ∀ (j : Nat) (o : Oper), ops[j]? = some o → listed.getD j false = true → ∀ e ∈ o.after, Region.binds .any e = true → listed.getD e.on false = true

theorem reach_listed {listed : Array Bool} (hd : DownC ops listed) {i j : Nat} (h : Reach ops i j) :
    (∀ o : Oper, ops[j]? = some o → ∀ e ∈ o.after, Region.binds .any e = true → listed.getD e.on false = true) → listed.getD i false = true := by
  induction h with
  | one ho he hb hi => intro hl; exact hi ▸ hl _ ho _ he hb
  | more ho he hb _ ih => intro hl; exact ih fun o' ho' => hd _ o' ho' (hl _ ho _ he hb)

theorem before_reach (i : Nat) : ∀ j, (((Region.before ops).getD j 0).testBit i) = true → Reach ops i j := by
  have := Array.foldl_induction (as := ops) (motive := fun k (acc : Array Nat) => acc.size = k ∧ ∀ j, (acc.getD j 0).testBit i = true → Reach ops i j) (init := (#[] : Array Nat))
    (f := fun acc o => acc.push (o.after.foldl (fun s e => if Region.binds .any e then s ||| 2 ^ e.on ||| acc.getD e.on 0 else s) 0)) ⟨rfl, fun j h => by simp at h⟩
    (fun k acc hacc => by
      obtain ⟨hsz, hR⟩ := hacc
      refine ⟨by simp [hsz], fun j hj => ?_⟩
      by_cases e : j = acc.size
      · subst e
        have hk : ops[acc.size]? = some ops[k] := by rw [hsz]; exact Array.getElem?_eq_getElem k.2
        have h2 : ((ops[k]).after.foldl (fun s e => if Region.binds .any e then s ||| 2 ^ e.on ||| acc.getD e.on 0 else s) 0).testBit i = true := by
          simpa using hj
        have := Array.foldl_induction (as := (ops[k]).after) (motive := fun _ (s : Nat) => s.testBit i = true → Reach ops i acc.size) (init := 0)
          (f := fun s e => if Region.binds .any e then s ||| 2 ^ e.on ||| acc.getD e.on 0 else s) (fun h => by simp at h)
          (fun x s hs h => by
            split at h
            · rename_i hb
              have hmem : (ops[k]).after[x] ∈ (ops[k]).after := Array.getElem_mem x.2
              simp only [Nat.testBit_or, Bool.or_eq_true] at h
              rcases h with (h | h) | h
              · exact hs h
              · rw [Nat.testBit_two_pow] at h
                exact .one hk hmem hb (by simpa using h)
              · exact .more hk hmem hb (hR _ h)
            · exact hs h)
        exact this h2
      · refine hR j ?_
        rw [← hj]
        congr 1
        simp only [Array.getD_eq_getD_getElem?, Array.getElem?_push, if_neg e])
  exact this.2

theorem anyOk_first {i : Nat} {m : MOper} {st' : St} (hm : ms[i]? = some m) (hlen : ms.length = ops.size) :
    ∀ (n : Nat) (listed : Array Bool) (st st1 : St), DownC ops listed →
      (∀ j mj, ms[j]? = some mj → j ≠ i → listed.getD j true = false → depOn ops i j = false → apart m mj = true) →
      i ∈ Region.ready .any ops listed → stepOp cf m st = some st1 → anyOk cf ops ms n (listed.setIfInBounds i true) st1 st' → anyOk cf ops ms (n + 1) listed st st' := by
  intro n
  induction n with
  | zero =>
    intro listed st st1 _ _ hr hs H
    refine ⟨fun h => (by rw [h] at hr; cases hr), fun j hj => ?_⟩
    by_cases hji : j = i
    · subst hji; exact ⟨m, st1, hm, hs, H⟩
    · have := ready_mono hj hji
      rw [H.1] at this
      cases this
  | succ n ih =>
    intro listed st st1 hd hfree hr hs H
    refine ⟨fun h => (by rw [h] at hr; cases hr), fun j hj => ?_⟩
    by_cases hji : j = i
    · subst hji; exact ⟨m, st1, hm, hs, H⟩
    · obtain ⟨mj, st2, hmj, hsj, H2⟩ := H.2 j (ready_mono hj hji)
      obtain ⟨hjun, oj, hoj, hall⟩ := mem_ready.1 hj
      have hiun := (mem_ready.1 hr).1
      have hdep : depOn ops i j = false := by
        cases hb : depOn ops i j with
        | false => rfl
        | true =>
          have := reach_listed hd (before_reach i j hb) fun o ho e he hbi => hall' hoj ho hall e he hbi
          rcases Nat.lt_or_ge i listed.size with h' | h'
          · simp [h'] at hiun this; rw [hiun] at this; cases this
          · simp [Array.getElem?_eq_none h'] at hiun
      obtain ⟨st3, h3, h4⟩ := stepOp_comm (hfree j mj hmj hji hjun hdep) hs hsj
      refine ⟨mj, st3, hmj, h3, ih (listed.setIfInBounds j true) st3 st2 ?_ ?_ (ready_mono hr (Ne.symm hji)) h4 ?_⟩
      · intro k o hk hl e he hb
        by_cases hkj : k = j
        · subst hkj
          rw [hoj] at hk; cases hk
          exact getD_set_true (hall e he hb)
        · refine getD_set_true (hd k o hk ?_ e he hb)
          rwa [getD_set_ne false (Ne.symm hkj)] at hl
      · intro k mk hk hki hun hdk
        refine hfree k mk hk hki ?_ hdk
        by_cases hjk : j = k
        · subst hjk; exact hjun
        · rwa [getD_set_ne true hjk] at hun
      · rw [Array.setIfInBounds_comm _ _ hji]
        exact H2
  where
  hall' {j : Nat} {oj o : Oper} {listed : Array Bool} (hoj : ops[j]? = some oj) (ho : ops[j]? = some o) (hall : ∀ e ∈ oj.after, Region.binds .any e = true → listed.getD e.on false = true) :
      ∀ e ∈ o.after, Region.binds .any e = true → listed.getD e.on false = true := by
    rw [hoj] at ho; cases ho; exact hall

/-- The first k are listed. -/
def upTo (n k : Nat) : Array Bool := ((List.range n).map fun i => decide (i < k)).toArray
theorem upTo_getD {n k j : Nat} (d : Bool) (h : j < n) : (upTo n k).getD j d = decide (j < k) := by
  simp [upTo, h]
theorem upTo_getD' {n k j : Nat} (d : Bool) (h : n ≤ j) : (upTo n k).getD j d = d := by
  have : (upTo n k).size ≤ j := by simp [upTo, h]
  simp [Array.getElem?_eq_none this]
theorem upTo_set {n k : Nat} (h : k < n) : (upTo n k).setIfInBounds k true = upTo n (k + 1) := by
  apply Array.ext_getElem?
  intro i
  rw [Array.getElem?_setIfInBounds]
  split
  · rename_i e
    subst e
    simp [upTo, h]
  · rename_i e
    simp only [upTo, List.getElem?_toArray, List.getElem?_map]
    by_cases hi : i < n
    · simp only [List.getElem?_range hi, Option.map_some, Option.some.injEq, decide_eq_decide]
      omega
    · rw [List.getElem?_eq_none (by simpa using hi)]; rfl

theorem lexFrom_any (hlen : ms.length = ops.size) (haf : afterB ops = true) : ∀ {rest : List MOper} {k : Nat} {st st' : St}, lexFrom ops ms k rest = true → ms.drop k = rest → k + rest.length = ms.length →
    runOps cf rest st = some st' → anyOk cf ops ms rest.length (upTo ops.size k) st st'
  | [], k, st, st', _, _, hk, h => by
    simp only [runOps, Option.some.injEq] at h
    refine ⟨?_, h⟩
    simp only [List.length_nil] at hk
    cases hr : Region.ready .any ops (upTo ops.size k) with
    | nil => rfl
    | cons i r =>
      exfalso
      have hi : i ∈ Region.ready .any ops (upTo ops.size k) := by rw [hr]; exact List.mem_cons_self ..
      obtain ⟨h1, o, ho, _⟩ := mem_ready.1 hi
      have hlt : i < ops.size := (Array.getElem?_eq_some_iff.1 ho).1
      rw [upTo_getD true hlt] at h1
      simp at h1
      omega
  | m :: rest, k, st, st', hl, hd, hk, h => by
    simp only [lexFrom, Bool.and_eq_true] at hl
    obtain ⟨hl1, hl2⟩ := hl
    simp only [runOps] at h
    split at h
    · rename_i st1 h1
      have hm : ms[k]? = some m := by
        have := congrArg (·[0]?) hd
        simpa [List.getElem?_drop] using this
      have hd' : ms.drop (k + 1) = rest := by rw [← List.drop_drop, hd]; rfl
      simp only [List.length_cons] at hk
      have hkn : k < ops.size := by omega
      have hdown : DownC ops (upTo ops.size k) := by
        intro j o hj hlj e he hb
        have hjn : j < ops.size := (Array.getElem?_eq_some_iff.1 hj).1
        rw [upTo_getD false hjn] at hlj
        have := after_lt haf hj he hb
        rw [upTo_getD false (by omega)]
        simp at hlj ⊢
        omega
      refine anyOk_first hm hlen rest.length (upTo ops.size k) st st1 hdown ?_ ?_ h1 ?_
      · intro j mj hj hne hun hdep
        have hjn : j < ms.length := (List.getElem?_eq_some_iff.1 hj).1
        have := List.all_eq_true.1 hl1 j (List.mem_range.2 hjn)
        rw [upTo_getD true (by omega)] at hun
        simp at hun
        simp only [hdep, Bool.or_false, hj, Bool.or_eq_true, decide_eq_true_eq] at this
        rcases this with h | h
        · omega
        · exact h
      · refine mem_ready.2 ⟨?_, ops[k], Array.getElem?_eq_getElem hkn, fun e he hb => ?_⟩
        · rw [upTo_getD true hkn]; simp
        · have := after_lt haf (Array.getElem?_eq_getElem hkn) he hb
          rw [upTo_getD false (by omega)]
          simp [this]
      · rw [upTo_set hkn]
        exact lexFrom_any hlen haf hl2 hd' (by omega) h
    · cases h
  where
  after_lt (haf : afterB ops = true) {j : Nat} {o : Oper} {e : Edge} (hj : ops[j]? = some o) (he : e ∈ o.after) (hb : Region.binds .any e = true) : e.on < j := by
    have hjn : j < ops.size := (Array.getElem?_eq_some_iff.1 hj).1
    have := List.all_eq_true.1 haf j (List.mem_range.2 hjn)
    rw [hj] at this
    have := Array.all_eq_true_iff_forall_mem.1 this e he
    simpa [hb] using this

theorem upTo_zero (n : Nat) : upTo n 0 = Array.replicate n false := by
  apply Array.ext_getElem?
  intro i
  simp only [upTo, List.getElem?_toArray, List.getElem?_map, Array.getElem?_replicate]
  by_cases hi : i < n
  · simp [List.getElem?_range hi, hi]
  · rw [List.getElem?_eq_none (by simpa using hi)]; simp [hi]

theorem region_sound (hcf : CfSound P cf) {id : Nat} {d : Bool} (hc : chkCode P (.region d ms) (.region id ops d) = true) {E : Env} {a : Act} {sl : List AV} {st' : St} (hw : WRel E) (hs : ARel E sl a)
    (h : runOps cf ms ⟨sl, E.H⟩ = some st') (hK : Good E a st' (Q .normal)) : (Code.region id ops d).wp P Q a E.w := by
  simp only [chkCode, Bool.and_eq_true, beq_iff_eq] at hc
  obtain ⟨⟨⟨_, hlen⟩, hops⟩, hdraw⟩ := hc
  cases d with
  | false =>
    refine wp_region ?_
    rw [List.range_eq_range']
    have := region_text (k := 0) (Q := Q) hcf hops rfl hw hs h hK
    simpa using this
  | true =>
    simp only [Bool.not_true, Bool.false_or, Bool.and_eq_true] at hdraw
    obtain ⟨⟨hm, haf⟩, hlex⟩ := hdraw
    obtain ⟨hw1, hst1⟩ := hw.drew
    refine wp_region_any hm ?_
    have hany := lexFrom_any (cf := cf) hlen haf hlex rfl (by simp) h
    rw [upTo_zero, hlen] at hany
    have := anyOk_sound (Q := Q) (E := ⟨E.F, E.H, E.ρ, E.w.drew⟩) hcf hops hw1 (hs.mono hst1) hany fun E' a' q1 q2 q3 q4 q5 => hK E' a' q1 q2 q3 (hst1.trans q4) q5
    exact this

end Go.Ev
