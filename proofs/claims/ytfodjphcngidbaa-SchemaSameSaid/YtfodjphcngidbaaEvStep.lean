/- Calls, and the operations all together. -/
import Derived.Test.YtfodjphcngidbaaEvBack2
set_option linter.unusedSimpArgs false
set_option linter.unusedVariables false
namespace Go.Ev
variable {P : Program} {E : Env}

def CallOk (P : Program) (f : FuncId) : Prop := ∃ fn : Func, P.funcs[f]? = some fn ∧ fn.name ≠ "runtime.NumGoroutine" ∧ fn.body.isSome = true

def CfPost (E : Env) (r : AV) (H1 : List AObj) (e : Ending) (w' : World) : Prop :=
  ∃ v, e = .returned v ∧ ∃ E' : Env, E'.w = w' ∧ E'.H = H1 ∧ WRel E' ∧ VRel E' r v ∧ Step E E'

/-- What is told of calls is so. -/
def CfSound (P : Program) (cf : CallF) : Prop := ∀ f args H r H1, cf f args H = some (r, H1) →
  CallOk P f ∧ ∀ (E : Env) (vals : Array Value), WRel E → E.H = H → LRel E args vals.toList → Calls P f vals E.w (CfPost E r H1)

theorem callFunc_run {f : FuncId} (h : CallOk P f) (args : Array Value) (w : World) : (callFunc f args).run P w = .ok (.enter f args) w := by
  obtain ⟨fn, hf, hn, hb⟩ := h
  have hb' : fn.body ≠ none := by intro e; rw [e] at hb; cases hb
  simp [callFunc, hf, hn, hb']

theorem call_run {o : Oper} {ρ : Operand → Value} {f : Operand} {args : Array Operand} {ts : Array TypeId} {g : FuncId} {a1 a2 : Array Value} (w : World)
    (ho : o.op = .call { callee := .value f, args := args, argTypes := ts }) (hf : ρ f = .func (.func g) a1 a2) (h : CallOk P g) :
    (execOp ρ o).run P w = .ok (.enter g (a1 ++ args.map ρ ++ a2)) w := by
  simp [execOp, ho, resolve, Deferred.ofValue, hf, invoke, callFunc_run h]

theorem LRel.app {E : Env} : ∀ {cs ds : List AV} {vs us : List Value}, LRel E cs vs → LRel E ds us → LRel E (cs ++ ds) (vs ++ us)
  | [], ds, vs, us, h, k => by simp only [LRel] at h; subst h; exact k
  | c :: cs, ds, vs, us, h, k => by
    simp only [LRel] at h
    obtain ⟨v, r, rfl, h1, h2⟩ := h
    exact ⟨v, r ++ us, rfl, h1, h2.app k⟩

theorem freezeAll_keys : ∀ {fz : List Nat} {H : List AObj} {fr : List (Nat × AObj)}, freezeAll H fz = some fr → ∀ i ∈ fr.map (·.1), i ∈ fz
  | [], H, fr, h => by simp only [freezeAll, Option.some.injEq] at h; subst h; simp
  | j :: fz, H, fr, h => by
    simp only [freezeAll] at h
    split at h
    · rename_i h2
      cases h
      intro i hi
      simp only [List.map_cons, List.mem_cons] at hi
      rcases hi with rfl | hi
      · exact List.mem_cons_self ..
      · exact List.mem_cons_of_mem _ (freezeAll_keys h2 i hi)
    · rename_i h2
      cases h
      exact fun i hi => List.mem_cons_of_mem _ (freezeAll_keys h2 i hi)
    · cases h

theorem layAll_app : ∀ (u v : List (Nat × AObj)) (H : List AObj), layAll H (u ++ v) = layAll (layAll H u) v
  | [], _, _ => rfl
  | (i, o) :: u, v, H => by simp only [List.cons_append, layAll]; exact layAll_app u v _

theorem callV_sound {cf : CallF} (hcf : CfSound P cf) (hw : WRel E) {g : AV} {args : List AV} {objs fzs : List Nat} {ret : List (Nat × Nat)} {frz : Bool} {r : AV} {ups : List (Nat × AObj)}
    (h : callV cf E.H g args objs fzs ret frz = some (r, ups)) : ∃ f first caps, g = .fn f first caps ∧ CallOk P f ∧
      ∀ vals : List Value, LRel E (first ++ args ++ caps) vals → Calls P f vals.toArray E.w (fun e w' => ∃ v, e = .returned v ∧ Out E r ups v w') := by
  unfold callV at h
  split at h
  · rename_i f first caps
    refine ⟨f, first, caps, rfl, ?_⟩
    split at h
    · rename_i hid
      simp only [okIds, Bool.and_eq_true, decide_eq_true_eq, List.all_eq_true, Bool.not_eq_true', List.contains_eq_mem, decide_eq_false_iff_not] at hid
      obtain ⟨⟨⟨⟨⟨i1, i2⟩, i3⟩, i4⟩, i5⟩, i6⟩ := hid
      split at h
      · rename_i as H0 hargs hobjs
        split at h
        · rename_i r1 H1 hc
          obtain ⟨hok, hcalls⟩ := hcf _ _ _ _ _ hc
          refine ⟨hok, fun vals hv => ?_⟩
          have hin : InOk E objs fzs H0 := ⟨i1, i5, (passObjs_ok hobjs).1, (passObjs_ok hobjs).2⟩
          refine Calls.mono (hcalls (inEnv E objs fzs H0) vals.toArray (in_wrel hw hin) rfl (by simpa using passVs_rel hw hin hargs hv)) ?_
          rintro e w' ⟨v, rfl, E1, rfl, hH1, hw1, hr1, hs1⟩
          refine ⟨v, rfl, ?_⟩
          have hrapart : ∀ p ∈ ret, p.2 ∉ objs ∧ p.2 ∉ fzs ∧ objs.length ≤ p.1 := fun p hp =>
            ⟨(i4 p.2 (List.mem_map_of_mem hp)).1, (i4 p.2 (List.mem_map_of_mem hp)).2, i6 p hp⟩
          subst hH1
          split at h
          · rename_i r' ups' ads hbr hbo had
            obtain ⟨b1, b2⟩ := backObjs_ok hbo
            obtain ⟨d1, d2⟩ := adopts_ok had
            split at h
            · rename_i hz
              obtain ⟨fr, hfr, he⟩ := Option.map_eq_some_iff.1 h
              cases he
              obtain ⟨k1, k2, k3, k4⟩ := freezeAll_rel hw (fun _ => .inl rfl) hfr
              have B : Bk E (Lay E fr E.ρ E.w) E1 objs fzs H0 ret ups' ads true := {
                hw := hw
                hf := k1
                hEf := k2
                Fρ := rfl
                Fw := rfl
                Fm := fun i b => by
                  rintro ⟨q, base, q1, q2, q3⟩
                  rcases k3 i with e | ⟨a, m, c, d, e1, e2⟩
                  · exact ⟨q, base, e ▸ q1, q2, q3⟩
                  · rw [e2] at q1; cases q1; cases q2
                Hf := fun i hi => layAll_ne fun hm => hi (freezeAll_keys hfr i hm)
                Hfz := fun _ => k4
                Hnf := fun e => by cases e
                hin := hin
                h1 := hw1
                s1 := hs1
                rkeys := i2
                rvals := i3
                rapart := hrapart
                upk := b1
                upv := b2
                adk := d1
                adv := d2 }
              refine ⟨backρ E.ρ E1.ρ objs ret, ?_⟩
              have e : Lay E (fr ++ ups' ++ ads) (backρ E.ρ E1.ρ objs ret) E1.w = bkEnv E (Lay E fr E.ρ E.w) E1 objs ret ups' ads := by
                simp only [Lay, bkEnv, List.append_assoc, layAll_app]
              rw [e]
              exact ⟨bk_wrel B (.inl rfl), bk_step B, backR_rel B hbr (.inl rfl) hr1⟩
            · rename_i hz
              split at h
              · rename_i hg
                cases h
                simp only [Bool.and_eq_true, List.isEmpty_iff] at hg
                obtain ⟨⟨g1, g2⟩, rfl⟩ := hg
                simp only [adopts, Option.some.injEq] at had
                subst had
                have B : Bk E E E1 objs fzs H0 [] ups ([] : List (Nat × AObj)) false := {
                  hw := hw
                  hf := hw
                  hEf := .refl _
                  Fρ := rfl
                  Fw := rfl
                  Fm := fun i b h => h
                  Hf := fun i hi => rfl
                  Hfz := fun e => by cases e
                  Hnf := fun _ => rfl
                  hin := hin
                  h1 := hw1
                  s1 := hs1
                  rkeys := i2
                  rvals := i3
                  rapart := hrapart
                  upk := b1
                  upv := b2
                  adk := d1
                  adv := d2 }
                refine ⟨backρ E.ρ E1.ρ objs [], ?_⟩
                have e : Lay E ups (backρ E.ρ E1.ρ objs []) E1.w = bkEnv E E E1 objs [] ups [] := by
                  simp only [Lay, bkEnv, List.append_nil]
                rw [e]
                refine ⟨bk_wrel B (.inr fun k o hk ho => ?_), bk_step B, backR_rel B hbr (.inr g1) hr1⟩
                refine List.all_eq_true.1 g2 o (List.mem_of_getElem? (i := k) ?_)
                rw [List.getElem?_take, if_pos hk]; exact ho
              · cases h
          · cases h
        · cases h
      · cases h
    · cases h
  · cases h

/-- What an operation comes to, in the kit's words. -/
def OpSat (P : Program) (E : Env) (o : Oper) (a : Act) (r : AV) (ups : List (Nat × AObj)) : Prop :=
  ∀ (K : Act → World → Prop) (Q : Exit → Act → World → Prop), (∀ v w', Out E r ups v w' → K (a.put o.dst v) w') → o.wp P a E.w K Q
theorem OpOk.sat {o : Oper} {a : Act} {r : AV} {ups : List (Nat × AObj)} (h : OpOk P E o a.eval r ups) : OpSat P E o a r ups := by
  intro K Q hK
  obtain ⟨v, w', h1, h2⟩ := h
  unfold Oper.wp
  rcases h1 with h1 | ⟨h1, rfl⟩
  · rw [h1]; exact hK v w' h2
  · rw [h1]; exact hK _ w' h2

theorem opV_sound {cf : CallF} (hcf : CfSound P cf) {o : Oper} {a : Act} {sl : List AV} {r : AV} {ups : List (Nat × AObj)} (hw : WRel E) (hs : ARel E sl a) {op : MOp} (hc : chkOp P op o.op = true)
    (h : opV cf sl E.H op = some (r, ups)) : OpSat P E o a r ups := by
  cases op with
  | mv => exact (op_mv hw hs hc h).sat
  | frz => exact (op_frz hw hs hc h).sat
  | vnil => exact (op_vnil hw hc h).sat
  | pick => exact (op_pick hw hs hc h).sat
  | alloc => exact (op_alloc hw hc h).sat
  | box => exact (op_box hw hs hc h).sat
  | build => exact (op_build hw hs hc h).sat
  | lit => exact (op_lit hw hs hc h).sat
  | load => exact (op_load hw hs hc h).sat
  | store => exact (op_store hw hs hc h).sat
  | nilchk => exact (op_nilchk hw hs hc h).sat
  | bin => exact (op_bin hw hs hc h).sat
  | un => exact (op_un hw hs hc h).sat
  | conv => exact (op_conv hw hs hc h).sat
  | b2s => exact (op_b2s hw hs hc h).sat
  | faddr => exact (op_faddr hw hs hc h).sat
  | iaddrA => exact (op_iaddrA hw hs hc h).sat
  | iaddrS => exact (op_iaddrS hw hs hc h).sat
  | index => exact (op_index hw hs hc h).sat
  | field => exact (op_field hw hs hc h).sat
  | len => exact (op_len hw hs hc h).sat
  | lenK => exact (op_lenK hw hc h).sat
  | minmax => exact (op_minmax hw hs hc h).sat
  | sliceS => exact (op_sliceS hw hs hc h).sat
  | sliceA => exact (op_sliceA hw hs hc h).sat
  | append => exact (op_append hw hs hc h).sat
  | extract => exact (op_extract hw hs hc h).sat
  | make => exact (op_make hw hs hc h).sat
  | copy => exact (op_copy hw hs hc h).sat
  | mkfn => exact (op_mkfn hw hs hc h).sat
  | call f args objs fzs ret frz =>
    simp only [opV] at h
    obtain ⟨g, first, caps, hg, hok, hcalls⟩ := callV_sound hcf hw h
    simp only [chkOp] at hc
    split at hc
    · rename_i x as ts ho
      simp only [Bool.and_eq_true] at hc
      have hx := ev_rel hs hc.1
      rw [hg] at hx
      simp only [VRel] at hx
      obtain ⟨a1, a2, hx, r1, r2⟩ := hx
      have hrun := call_run E.w ho hx hok
      intro K Q hK
      unfold Oper.wp
      rw [hrun, Oper.upon_enter]
      have hl := (r1.app (evs_rel hs hc.2)).app r2
      have := hcalls _ hl
      rw [show (a1.toList ++ List.map a.eval as.toList ++ a2.toList).toArray = a1 ++ as.map a.eval ++ a2 by
        apply Array.ext'; simp] at this
      refine Calls.mono this ?_
      rintro e w' ⟨v, rfl, ho⟩
      exact hK v w' ho
    · cases hc

end Go.Ev
