/- Operations that lay nothing: parts, lengths, slices. -/
import Derived.Test.YtfodjphcngidbaaEvOps3
set_option linter.unusedSimpArgs false
set_option linter.unusedVariables false
namespace Go.Ev
variable {P : Program} {E : Env} {o : Oper} {a : Act} {sl : List AV} {cf : CallF} {r : AV} {ups : List (Nat × AObj)}

theorem LRel.drop {E : Env} {cs : List AV} {vs : List Value} (h : LRel E cs vs) (k : Nat) : LRel E (cs.drop k) (vs.drop k) :=
  LRel.of (by simp [h.length]) fun j c v h1 h2 => by
    rw [List.getElem?_drop] at h1 h2
    obtain ⟨u, hu, hr⟩ := h.get _ c h1
    rw [hu] at h2
    cases h2
    exact hr
theorem LRel.take {E : Env} {cs : List AV} {vs : List Value} (h : LRel E cs vs) (k : Nat) : LRel E (cs.take k) (vs.take k) :=
  LRel.of (by simp [h.length]) fun j c v h1 h2 => by
    rw [List.getElem?_take] at h1 h2
    split at h1
    · rename_i hlt
      rw [if_pos hlt] at h2
      obtain ⟨u, hu, hr⟩ := h.get _ c h1
      rw [hu] at h2
      cases h2
      exact hr
    · cases h1
theorem LRel.append {E : Env} : ∀ {cs ds : List AV} {vs us : List Value}, LRel E cs vs → LRel E ds us → LRel E (cs ++ ds) (vs ++ us)
  | [], _, vs, _, h, k => by simp only [LRel] at h; subst h; simpa using k
  | c :: cs, ds, vs, us, h, k => by
    simp only [LRel] at h
    obtain ⟨v, r, rfl, h1, h2⟩ := h
    exact ⟨v, r ++ us, rfl, h1, LRel.append h2 k⟩

theorem oneB_spec {t : TypeId} (h : oneB P t = true) : (P.underlying t).isSome = true ∧ aggB P t = false := by
  unfold oneB at h
  unfold aggB
  split at h <;> simp_all

theorem run_part_one {t : TypeId} {cs : Array Value} {off : Nat} {v : Value} (w : World) (h : oneB P t = true) (hv : cs.toList[off]? = some v) : (part t cs off).run P w = .ok v w := by
  obtain ⟨h1, h2⟩ := oneB_spec h
  have : cs[off]? = some v := by simpa using hv
  simp [part, run_isAgg w h1, h2, this]

theorem run_part_agg {t : TypeId} {cs : Array Value} {off n : Nat} (w : World) (h : aggB P t = true) (hz : szB P t n = true) :
    (part t cs off).run P w = .ok (.agg ((cs.toList.drop off).take n).toArray) w := by
  have hu : (P.underlying t).isSome = true := by
    unfold aggB at h
    split at h <;> simp_all
  simp only [part, Sem.run_bind, run_isAgg w hu, Result.andThen_ok, h, if_true, run_sizeOf' hz, Sem.run_pure]
  congr 2
  apply Array.ext'
  simp [Array.toList_extract, List.extract_eq_take_drop]

theorem op_field (hw : WRel E) (hs : ARel E sl a) {off : Nat} {n : Option Nat} {x : MX} (hc : chkOp P (.field off n x) o.op = true) (h : opV cf sl E.H (.field off n x) = some (r, ups)) : OpOk P E o a.eval r ups := by
  simp only [chkOp] at hc
  split at hc
  · rename_i t x' f ho
    simp only [Bool.and_eq_true] at hc
    obtain ⟨h1, h2⟩ := hc
    have hx := ev_rel hs h2
    split at h1
    · rename_i fs hu
      split at h1
      · rename_i fd hf
        simp only [Bool.and_eq_true, beq_iff_eq] at h1
        obtain ⟨rfl, hl⟩ := h1
        simp only [opV] at h
        split at h
        · rename_i cs e
          rw [e] at hx
          simp only [VRel] at hx
          obtain ⟨arr, e1, hx⟩ := hx
          cases n with
          | none =>
            simp only [loadB] at hl
            simp only at h
            obtain ⟨hv, rfl⟩ := map_pair h
            obtain ⟨v, hv, hr⟩ := hx.get _ _ hv
            exact .pure hw (v := v) (by simp [execOp, ho, e1, Instr.field, run_underlying hu, hf, asAgg, run_part_one E.w hl hv]) hr
          | some n =>
            simp only [loadB, Bool.and_eq_true, decide_eq_true_eq] at hl
            simp only at h
            split at h
            · obtain ⟨rfl, rfl⟩ := some_pair h
              refine .pure hw (v := .agg ((arr.toList.drop fd.offset).take n).toArray) (by simp [execOp, ho, e1, Instr.field, run_underlying hu, hf, asAgg, run_part_agg E.w hl.1.1 hl.1.2]) ?_
              simp only [VRel]
              exact ⟨_, rfl, (hx.drop _).take _⟩
            · cases h
        · cases h
      · cases h1
    · cases h1
  · cases hc

theorem op_index (hw : WRel E) (hs : ARel E sl a) {len sz : Nat} {ag : Bool} {x i : MX} (hc : chkOp P (.index len sz ag x i) o.op = true) (h : opV cf sl E.H (.index len sz ag x i) = some (r, ups)) : OpOk P E o a.eval r ups := by
  simp only [chkOp] at hc
  split at hc
  · rename_i t x' i' ho
    simp only [Bool.and_eq_true] at hc
    obtain ⟨⟨h1, h2⟩, h3⟩ := hc
    have hx := ev_rel hs h2
    have hi := ev_rel hs h3
    simp only [opV] at h
    split at h
    · rename_i k m ei
      have hi := int_rel ei hi
      split at h
      · rename_i cs e
        rw [e] at hx
        simp only [VRel] at hx
        obtain ⟨arr, e1, hx⟩ := hx
        split at h
        · rename_i hb
          split at h1
          · rename_i n el hu
            simp only [Bool.and_eq_true, beq_iff_eq, decide_eq_true_eq] at h1
            obtain ⟨⟨⟨rfl, hz⟩, h0⟩, hag⟩ := h1
            cases ag with
            | true =>
              simp only [if_true] at hag h
              split at h
              · obtain ⟨rfl, rfl⟩ := some_pair h
                refine .pure hw (v := .agg ((arr.toList.drop (m.toNat * sz)).take sz).toArray) ?_ ?_
                · simp [execOp, ho, e1, hi, Instr.index, run_underlying hu, asIntOf, hb, run_sizeOf' hz, run_part_agg E.w hag hz]
                · simp only [VRel]; exact ⟨_, rfl, (hx.drop _).take _⟩
              · cases h
            | false =>
              simp only [Bool.false_eq_true, if_false] at hag h
              obtain ⟨hv, rfl⟩ := map_pair h
              obtain ⟨v, hv, hr⟩ := hx.get _ _ hv
              exact .pure hw (v := v) (by simp [execOp, ho, e1, hi, Instr.index, run_underlying hu, asIntOf, hb, run_sizeOf' hz, run_part_one E.w hag hv]) hr
          · cases h1
        · cases h
      · cases h
    · cases h
  · cases hc

theorem op_lenK (hw : WRel E) {n : Nat} (hc : chkOp P (.lenK n) o.op = true) (h : opV cf sl E.H (.lenK n) = some (r, ups)) : OpOk P E o a.eval r ups := by
  simp only [chkOp] at hc
  split at hc
  · rename_i args ts ho
    simp only [Bool.and_eq_true, beq_iff_eq] at hc
    obtain ⟨h1, h2⟩ := hc
    split at h2
    · rename_i t ht
      split at h2
      · rename_i m e hu
        have := beq_iff_eq.1 h2
        subst this
        simp only [opV] at h
        obtain ⟨rfl, rfl⟩ := some_pair h
        have hx : ((args.map a.eval)[0]?).isSome = true := by simp [h1]
        obtain ⟨v, hv⟩ := Option.isSome_iff_exists.1 hx
        refine .pure hw (v := goInt m) ?_ rfl
        simp only [execOp, ho, Sem.run_bind, resolve, Sem.run_pure, Result.andThen_ok, invoke, builtin, Builtin.len_, ht, hv, run_underlying hu]
      · cases h2
    · cases h2
  · cases hc

theorem op_len (hw : WRel E) (hs : ARel E sl a) {x : MX} (hc : chkOp P (.len x) o.op = true) (h : opV cf sl E.H (.len x) = some (r, ups)) : OpOk P E o a.eval r ups := by
  simp only [chkOp] at hc
  split at hc
  · rename_i args ts ho
    simp only [Bool.and_eq_true, beq_iff_eq] at hc
    obtain ⟨⟨h1, h0⟩, h2⟩ := hc
    obtain ⟨x', rfl⟩ : ∃ x', args = #[x'] := Array.size_eq_one_iff.1 h1
    have hx : VRel E (ev sl x) (a.eval x') := by
      simp only [chkXs, Bool.and_true] at h0
      exact ev_rel hs h0
    have hrun : ∀ t, ts[0]? = some t → ∀ v w, (Builtin.len_ ts o.type #[a.eval x']).run P w = .ok v w → (execOp a.eval o).run P w = .ok (.value v) w := by
      intro t ht v w hv
      simp [execOp, ho, resolve, invoke, builtin, hv]
    split at h2
    · rename_i t ht
      split at h2
      · rename_i e hu
        simp only [opV] at h
        obtain ⟨n, rfl, hu', ad, cap, e1⟩ : ∃ n : Nat, r = .int .i64 n ∧ ups = [] ∧ ∃ ad cap, a.eval x' = .slice ad n cap := by
          split at h
          · rename_i e; obtain ⟨rfl, rfl⟩ := some_pair h
            rw [e] at hx; simp only [VRel] at hx; obtain ⟨ad, cap, hx, _⟩ := hx; exact ⟨_, rfl, rfl, _, _, hx⟩
          · rename_i e; obtain ⟨rfl, rfl⟩ := some_pair h
            rw [e] at hx; simp only [VRel] at hx; exact ⟨0, rfl, rfl, _, _, hx⟩
          · rename_i e; obtain ⟨rfl, rfl⟩ := some_pair h
            rw [e] at hx; simp only [VRel] at hx; obtain ⟨ad, cap, hx, _⟩ := hx; exact ⟨_, rfl, rfl, _, _, hx⟩
          · cases h
        subst hu'
        exact .pure hw (hrun t ht (goInt n) E.w (by simp [Builtin.len_, ht, e1, run_underlying hu])) rfl
      · cases h2
    · cases h2
  · cases hc

/-- The values of a fold by max or min. -/
theorem foldMM_run (mx : Bool) (k : IntKind) : ∀ (cs : List AV) (vs : List Value) (n : Int) (r : AV) (w : World), LRel E cs vs → foldMM mx k n cs = some r →
    ∃ v, (vs.foldlM (if mx then Builtin.max2 else Builtin.min2) (.int k n)).run P w = .ok v w ∧ VRel E r v
  | [], vs, n, r, w, h, hr => by
    simp only [LRel] at h; subst h
    simp only [foldMM, Option.some.injEq] at hr; subst hr
    exact ⟨_, by simp, rfl⟩
  | c :: cs, vs, n, r, w, h, hr => by
    simp only [LRel] at h
    obtain ⟨v, us, rfl, hv, h⟩ := h
    cases c <;> simp only [foldMM, reduceCtorEq] at hr
    rename_i k' m
    simp only [VRel] at hv
    subst hv
    split at hr
    · cases hr
    · rename_i hk
      have hk : k = k' := by simpa using hk
      subst hk
      obtain ⟨v, h1, h2⟩ := foldMM_run mx k cs us _ r w h hr
      refine ⟨v, ?_, h2⟩
      rw [List.foldlM_cons]
      cases mx
      · simp only [Bool.false_eq_true, if_false] at h1 ⊢
        simp only [Builtin.min2, Sem.run_bind, Sem.run_pure, Result.andThen_ok]
        exact h1
      · simp only [if_true] at h1 ⊢
        simp only [Builtin.max2, Sem.run_bind, Sem.run_pure, Result.andThen_ok]
        exact h1

theorem op_minmax (hw : WRel E) (hs : ARel E sl a) {mx : Bool} {xs : List MX} (hc : chkOp P (.minmax mx xs) o.op = true) (h : opV cf sl E.H (.minmax mx xs) = some (r, ups)) : OpOk P E o a.eval r ups := by
  simp only [chkOp] at hc
  split at hc
  · rename_i b args ts ho
    simp only [Bool.and_eq_true] at hc
    obtain ⟨h1, h2⟩ := hc
    have hx := evs_rel hs h2
    simp only [opV] at h
    obtain ⟨hv, rfl⟩ := map_pair h
    generalize xs.map (ev sl) = cs at hv hx
    cases cs with
    | nil => simp [mmV] at hv
    | cons c cs =>
      cases c <;> simp only [mmV, reduceCtorEq] at hv
      rename_i k n
      simp only [LRel] at hx
      obtain ⟨v, us, e, hv1, hx⟩ := hx
      simp only [VRel] at hv1
      subst hv1
      obtain ⟨v, h3, h4⟩ := foldMM_run (P := P) mx k cs us n r E.w hx hv
      refine .pure hw (v := v) ?_ h4
      cases b <;> simp only [Bool.false_eq_true] at h1
      · subst h1
        simp only [if_true] at h3
        simp [execOp, ho, resolve, invoke, builtin, Builtin.max_, e, h3]
      · have : mx = false := by simpa using h1
        subst this
        simp only [Bool.false_eq_true, if_false] at h3
        simp [execOp, ho, resolve, invoke, builtin, Builtin.min_, e, h3]
  · cases hc

theorem op_extract (hw : WRel E) (hs : ARel E sl a) {x : MX} {i : Nat} (hc : chkOp P (.extract x i) o.op = true) (h : opV cf sl E.H (.extract x i) = some (r, ups)) : OpOk P E o a.eval r ups := by
  simp only [chkOp] at hc
  split at hc
  · rename_i x' j ho
    simp only [Bool.and_eq_true, beq_iff_eq] at hc
    obtain ⟨rfl, h2⟩ := hc
    have hx := ev_rel hs h2
    simp only [opV] at h
    split at h
    · rename_i vs e
      rw [e] at hx
      simp only [VRel] at hx
      obtain ⟨arr, e1, hx⟩ := hx
      obtain ⟨hv, rfl⟩ := map_pair h
      obtain ⟨v, hv, hr⟩ := hx.get _ _ hv
      have hv' : arr[i]? = some v := by simpa using hv
      exact .pure hw (v := v) (by simp [execOp, ho, e1, Instr.extract, hv']) hr
    · cases h
  · cases hc

theorem op_mkfn (hw : WRel E) (hs : ARel E sl a) {f : FuncId} {xs ys : List MX} (hc : chkOp P (.mkfn f xs ys) o.op = true) (h : opV cf sl E.H (.mkfn f xs ys) = some (r, ups)) : OpOk P E o a.eval r ups := by
  simp only [chkOp] at hc
  split at hc
  · rename_i g as bs ho
    simp only [Bool.and_eq_true, beq_iff_eq] at hc
    obtain ⟨⟨rfl, h1⟩, h2⟩ := hc
    simp only [opV] at h
    obtain ⟨rfl, rfl⟩ := some_pair h
    refine .pure hw (v := .func (.func f) (as.map a.eval) (bs.map a.eval)) (by simp [execOp, ho, Instr.makeFunc]) ?_
    simp only [VRel]
    exact ⟨_, _, rfl, by simpa using evs_rel hs h1, by simpa using evs_rel hs h2⟩
  · cases hc


/-! ### Slices -/
def ORelO (E : Env) : Option AV → Option Value → Prop
  | none, none => True
  | some a, some v => VRel E a v
  | _, _ => False
theorem evO_rel (hs : ARel E sl a) : ∀ {x : Option MX} {y : Option Operand}, chkXO x y = true → ORelO E (x.map (ev sl)) (y.map a.eval)
  | none, none, _ => trivial
  | none, some _, h => by simp [chkXO] at h
  | some _, none, h => by simp [chkXO] at h
  | some _, some _, h => ev_rel hs h

theorem hiB_run {n cap : Nat} (hcap : n ≤ cap) {h : Nat} (isS : Bool) (w : World) : ∀ {hi : Option AV} {hi' : Option Value}, ORelO E hi hi' → hiB n hi = some h →
    h ≤ n ∧ (match hi' with
        | some v => Instr.sliceBound v cap (if isS then .sliceAcap else .sliceAlen)
        | none => pure n : Sem Nat).run P w = .ok h w
  | none, none, _, hb => by simp only [hiB, Option.some.injEq] at hb; subst hb; exact ⟨Nat.le_refl _, rfl⟩
  | none, some _, q, _ => q.elim
  | some _, none, q, _ => q.elim
  | some x, some v, q, hb => by
    cases x <;> simp only [hiB, reduceCtorEq] at hb
    rename_i k m
    simp only [ORelO, VRel] at q
    subst q
    split at hb
    · rename_i hm
      cases hb
      exact ⟨by omega, run_sliceBound w k m cap _ hm.1 (by omega)⟩
    · cases hb
theorem loB_run {h l : Nat} (w : World) : ∀ {lo : Option AV} {lo' : Option Value}, ORelO E lo lo' → loB h lo = some l →
    l ≤ h ∧ (match lo' with
        | some v => Instr.sliceBound v h .sliceB
        | none => pure 0 : Sem Nat).run P w = .ok l w
  | none, none, _, hb => by simp only [loB, Option.some.injEq] at hb; subst hb; exact ⟨Nat.zero_le _, rfl⟩
  | none, some _, q, _ => q.elim
  | some _, none, q, _ => q.elim
  | some x, some v, q, hb => by
    cases x <;> simp only [loB, reduceCtorEq] at hb
    rename_i k m
    simp only [ORelO, VRel] at q
    subst q
    split at hb
    · rename_i hm
      cases hb
      exact ⟨by omega, run_sliceBound w k m h _ hm.1 (by omega)⟩
    · cases hb

theorem sliceBounds_run {n cap : Nat} (hcap : n ≤ cap) {lo hi : Option AV} {lo' hi' : Option Value} (hlo : ORelO E lo lo') (hhi : ORelO E hi hi') {l h : Nat} (hb : sliceBounds n lo hi = some (l, h)) (isS : Bool) (w : World) :
    (Instr.sliceBounds isS n cap lo' hi' none).run P w = .ok (l, h, cap) w ∧ l ≤ h ∧ h ≤ n := by
  unfold sliceBounds at hb
  split at hb
  · cases hb
  · rename_i hh e1
    split at hb
    · cases hb
    · rename_i ll e2
      cases hb
      obtain ⟨h1, r1⟩ := hiB_run (P := P) hcap isS w hhi e1
      obtain ⟨h2, r2⟩ := loB_run (P := P) w hlo e2
      refine ⟨?_, h2, h1⟩
      unfold Instr.sliceBounds
      cases hi' <;> cases lo' <;> simp_all

theorem sliced_eq (ad : Option Addr) (l h m s : Nat) : sliced ad l h m s = .slice (if m = l then ad else ad.map (·.add (l * s))) (h - l) (m - l) := rfl

/-- Part of cells that stay. -/
theorem ro_part {n cap l h sz : Nat} {cs : List AV} {ad : Option Addr} (hlh : l ≤ h) (hn : h ≤ n) (hc : n ≤ cap) (h3 : 0 < n → ad.isSome = true)
    (h4 : cs = [] ∨ ∃ b off, ad = some ⟨b, off, none⟩ ∧ ¬ E.X b ∧ CRel E cs b off) :
    VRel E (.ro (h - l) ((cs.drop (l * sz)).take ((h - l) * sz))) (.slice (if cap = l then ad else ad.map (·.add (l * sz))) (h - l) (cap - l)) := by
  simp only [VRel]
  refine ⟨_, _, rfl, by omega, fun hp => ?_, ?_⟩
  · have := h3 (by omega)
    split
    · exact this
    · simpa using this
  · rcases h4 with rfl | ⟨b, off, rfl, h5, h6⟩
    · exact .inl (by simp)
    · by_cases e : cap = l
      · left
        have : h - l = 0 := by omega
        rw [this]
        simp
      · right
        rw [if_neg e]
        exact ⟨b, off + l * sz, by simp [Addr.add_mid], h5, (h6.drop _).take _⟩

theorem op_sliceS (hw : WRel E) (hs : ARel E sl a) {sz : Nat} {x : MX} {lo hi : Option MX} (hc : chkOp P (.sliceS sz x lo hi) o.op = true) (h : opV cf sl E.H (.sliceS sz x lo hi) = some (r, ups)) : OpOk P E o a.eval r ups := by
  simp only [chkOp] at hc
  split at hc
  · rename_i t x' lo' hi' ho
    simp only [Bool.and_eq_true] at hc
    obtain ⟨⟨⟨h1, h2⟩, h3⟩, h4⟩ := hc
    have hx := ev_rel hs h2
    have hlo := evO_rel hs h3
    have hhi := evO_rel hs h4
    split at h1
    · rename_i el hu
      have hel : P.elem t = el := by simp [Program.elem, hu]
      have hu' : P.underlying t = some (.slice (P.elem t)) := by rw [hel]; exact hu
      have hrun : ∀ (ad : Option Addr) (n cap l hh : Nat), a.eval x' = .slice ad n cap → n ≤ cap → sliceBounds n (lo.map (ev sl)) (hi.map (ev sl)) = some (l, hh) →
          (execOp a.eval o).run P E.w = .ok (.value (.slice (if cap = l then ad else ad.map (·.add (l * sz))) (hh - l) (cap - l))) E.w ∧ l ≤ hh ∧ hh ≤ n := by
        intro ad n cap l hh e1 hle hb
        obtain ⟨hr, h5, h6⟩ := sliceBounds_run (P := P) hle hlo hhi hb true E.w
        refine ⟨?_, h5, h6⟩
        simp only [execOp, ho, e1, Option.map_none, Sem.run_bind, run_sliceAt_slice E.w t _ _ _ _ hu', run_slice_any E.w t ad n cap hu', hr, Result.andThen_ok, hel, run_sizeOf' h1, sliced_eq, Sem.run_pure]
      simp only [opV] at h
      split at h
      · rename_i n cs e
        rw [e] at hx
        simp only [VRel] at hx
        obtain ⟨ad, cap, e1, hle, h7, h8⟩ := hx
        split at h
        · rename_i l hh hb
          obtain ⟨rfl, rfl⟩ := some_pair h
          obtain ⟨hr, h5, h6⟩ := hrun ad n cap l hh e1 hle hb
          exact .pure hw hr (ro_part h5 h6 hle h7 h8)
        · cases h
      · rename_i e
        rw [e] at hx
        simp only [VRel] at hx
        split at h
        · rename_i p hb
          obtain ⟨l, hh⟩ := p
          obtain ⟨rfl, rfl⟩ := some_pair h
          obtain ⟨hr, h5, h6⟩ := hrun none 0 0 l hh hx (Nat.le_refl _) hb
          refine .pure hw hr ?_
          have e1 : l = 0 := by omega
          have e2 : hh = 0 := by omega
          simp [VRel, e1, e2]
        · cases h
      · rename_i i ver off n sz' e
        rw [e] at hx
        simp only [VRel] at hx
        obtain ⟨ad, cap, e1, hle, h7, q, hq, hv, hf⟩ := hx
        split at h
        · cases h
        · rename_i hsz
          have hsz : sz' = sz := by simpa using hsz
          subst hsz
          split at h
          · rename_i l hh hb
            obtain ⟨hr, h5, h6⟩ := hrun ad n cap l hh e1 hle hb
            split at h
            · rename_i hlh
              obtain ⟨rfl, rfl⟩ := some_pair h
              refine .pure hw hr ?_
              simp only [VRel]
              exact ⟨_, _, by rw [hlh, Nat.sub_self], by omega, fun h => by omega, .inl trivial⟩
            · rename_i hlh
              obtain ⟨rfl, rfl⟩ := some_pair h
              refine .pure hw hr ?_
              have hne : cap ≠ l := by omega
              rw [if_neg hne]
              simp only [VRel]
              refine ⟨_, _, rfl, by omega, fun _ => by simpa using h7 (by omega), q, hq, hv, fun ev => ?_⟩
              have hf := hf ev
              have hp : ∀ {ad : Option Addr}, PlacedS E i off cap sz' ad → PlacedS E i (off + l * sz') (cap - l) sz' (ad.map (·.add (l * sz'))) := by
                rintro ad ⟨b, base, p1, rfl, p3⟩
                refine ⟨b, base, p1, by simp [Addr.add_mid, Nat.add_assoc], p3.le ?_⟩
                have : cap * sz' = l * sz' + (cap - l) * sz' := by rw [← Nat.add_mul]; congr 1; omega
                omega
              have hlen : ∀ k, off + n * sz' ≤ k → off + l * sz' + (hh - l) * sz' ≤ k := by
                intro k hk
                have e1 : l * sz' + (hh - l) * sz' = hh * sz' := by rw [← Nat.add_mul]; congr 1; omega
                have e2 : hh * sz' ≤ n * sz' := Nat.mul_le_mul_right _ h6
                omega
              cases hb : q.body with
              | none => rw [hb] at hf; exact hf.elim
              | var cs => rw [hb] at hf; exact ⟨hlen _ hf.1, hp hf.2⟩
              | row _ _ cs =>
                rw [hb] at hf
                refine ⟨hlen _ hf.1, ?_⟩
                rcases hf.2 with h | ⟨_, _, h, h'⟩
                · exact .inl (hp h)
                · omega
          · cases h
      · cases h
    · cases h1
  · cases hc

end Go.Ev
