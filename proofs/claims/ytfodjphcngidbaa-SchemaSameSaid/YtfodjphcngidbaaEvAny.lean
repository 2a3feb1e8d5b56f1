/- Regions: operations in the order of the text, or in any order that the region allows. -/
import Derived.Test.YtfodjphcngidbaaEvComm
set_option linter.unusedSimpArgs false
set_option linter.unusedVariables false
namespace Go.Ev
variable {P : Program} {E : Env}

theorem nil_keys {α : Type} {f : Option α} {g : α → AV} {r : AV} {ups : List (Nat × AObj)} (h : (f.map fun a => (g a, ([] : List (Nat × AObj)))) = some (r, ups)) : ups = [] := by
  cases f <;> cases h; rfl

theorem callV_keys {cf : CallF} {H : List AObj} {f : AV} {args : List AV} {objs fzs : List Nat} {ret : List (Nat × Nat)} {frz : Bool} {r : AV} {ups : List (Nat × AObj)}
    (h : callV cf H f args objs fzs ret frz = some (r, ups)) : ∀ i ∈ ups.map (·.1), i ∈ objs ++ (if frz then fzs else []) ++ ret.map (·.2) := by
  unfold callV at h
  split at h <;> try (cases h; done)
  split at h <;> try (cases h; done)
  split at h <;> try (cases h; done)
  split at h <;> try (cases h; done)
  split at h <;> try (cases h; done)
  rename_i hbo had
  have b1 := (backObjs_ok hbo).1
  have d1 := (adopts_ok had).1
  split at h
  · rename_i hz
    obtain ⟨fr, hfr, he⟩ := Option.map_eq_some_iff.1 h
    cases he
    intro i hi
    simp only [List.map_append, List.mem_append, b1, d1] at hi
    simp only [hz, if_true, List.mem_append]
    rcases hi with (hi | hi) | hi
    · exact .inl (.inr (freezeAll_keys hfr i hi))
    · exact .inl (.inl hi)
    · exact .inr hi
  · split at h
    · cases h
      intro i hi
      rw [b1] at hi
      simp [hi]
    · cases h

theorem opV_keys {cf : CallF} {sl : List AV} {H : List AObj} {op : MOp} {r : AV} {ups : List (Nat × AObj)} (h : opV cf sl H op = some (r, ups)) : ∀ i ∈ ups.map (·.1), i ∈ fpW op := by
  cases op
  case call f args objs fzs ret frz => simp only [opV] at h; exact callV_keys h
  case frz fz x =>
    simp only [opV] at h
    split at h
    · rename_i hfr
      cases h
      intro i hi
      exact freezeAll_keys hfr i hi
    · cases h
  case lit t fz len sz zs ps =>
    simp only [opV] at h
    split at h <;> try (cases h; done)
    split at h <;> try (cases h; done)
    split at h <;> try (cases h; done)
    rename_i hfr
    split at h
    · cases h
      intro i hi
      simp only [fpW, List.mem_append]
      exact .inr (freezeAll_keys hfr i hi)
    · split at h <;> try (cases h; done)
      cases h
      intro i hi
      simp only [List.map_append, List.mem_append, List.map_cons, List.map_nil, List.mem_singleton] at hi
      simp only [fpW, List.mem_append, Option.toList, List.mem_singleton]
      rcases hi with hi | hi
      · exact .inr (freezeAll_keys hfr i hi)
      · exact .inl hi
  case store n o fz x v =>
    simp only [opV] at h
    split at h <;> try (cases h; done)
    split at h <;> try (cases h; done)
    rename_i hc
    have ho : o = _ := Decidable.byContradiction fun q => hc (.inl q)
    split at h <;> try (cases h; done)
    split at h <;> try (cases h; done)
    split at h
    · split at h <;> cases h
      simp [fpW, ho]
    · split at h <;> try (cases h; done)
      split at h <;> try (cases h; done)
      rename_i hfr
      split at h <;> try (cases h; done)
      cases h
      intro i hi
      simp only [List.map_append, List.mem_append, List.map_cons, List.map_nil, List.mem_singleton] at hi
      simp only [fpW, List.mem_cons]
      rcases hi with hi | hi
      · exact .inr (freezeAll_keys hfr i hi)
      · exact .inl (hi.trans ho.symm)
    · cases h
  case load n o x => cases n <;> (simp only [opV] at h; rw [nil_keys h]; simp)
  case append bytes sz t ysrc x y =>
    simp only [opV] at h
    split at h <;> try (cases h; done)
    split at h <;> try (cases h; done)
    split at h
    · split at h <;> try (cases h; done)
      split at h <;> try (cases h; done)
      split at h <;> cases h
      simp [fpW]
    · split at h <;> cases h
      simp [fpW]
    · cases h
  case copy sz o ysrc x y =>
    simp only [opV] at h
    split at h <;> try (cases h; done)
    split at h <;> try (cases h; done)
    split at h <;> try (cases h; done)
    rename_i hc
    have ho : o = _ := Decidable.byContradiction fun q => hc (.inl q)
    split at h <;> try (cases h; done)
    split at h <;> try (cases h; done)
    split at h
    · split at h <;> cases h
      simp [fpW, ho]
    · split at h <;> cases h
      simp [fpW, ho]
    · cases h
  case build => simp only [opV] at h; rw [nil_keys h]; simp
  case bin => simp only [opV] at h; rw [nil_keys h]; simp
  case un => simp only [opV] at h; rw [nil_keys h]; simp
  case minmax => simp only [opV] at h; rw [nil_keys h]; simp
  all_goals
    simp only [opV] at h
    repeat' split at h
    all_goals first
      | (cases h; done)
      | (cases h; simp [fpW]; done)
      | (rw [nil_keys h]; simp; done)

/-! ### Slots and objects laid in either order -/
theorem putV_get {sl : List AV} {d : Option Nat} {a : AV} {n : Nat} (h : n ∉ d.toList) : (putV sl d a).getD n .undef = sl.getD n .undef := by
  cases d with
  | none => rfl
  | some d =>
    have : d ≠ n := fun e => h (by simp [e])
    simp only [putV, List.getD_eq_getElem?_getD, List.getElem?_set_ne this]
theorem putV_comm {sl : List AV} {d e : Option Nat} {a b : AV} (h : ∀ n ∈ d.toList, n ∉ e.toList) : putV (putV sl d a) e b = putV (putV sl e b) d a := by
  cases d with
  | none => rfl
  | some d =>
    cases e with
    | none => rfl
    | some e =>
      have : d ≠ e := fun q => h d (by simp) (by simp [q])
      exact List.set_comm _ _ this
theorem set_layAll {i : Nat} {o : AObj} : ∀ {u : List (Nat × AObj)} {H : List AObj}, i ∉ u.map (·.1) → (layAll H u).set i o = layAll (H.set i o) u
  | [], _, _ => rfl
  | (j, p) :: u, H, h => by
    simp only [List.map_cons, List.mem_cons, not_or] at h
    simp only [layAll]
    rw [set_layAll h.2, List.set_comm _ _ h.1]
theorem layAll_comm : ∀ {u v : List (Nat × AObj)} {H : List AObj}, (∀ i ∈ u.map (·.1), i ∉ v.map (·.1)) → layAll (layAll H u) v = layAll (layAll H v) u
  | [], _, _, _ => rfl
  | (i, o) :: u, v, H, h => by
    simp only [layAll]
    rw [layAll_comm fun j hj => h j (by rw [List.map_cons]; exact List.mem_cons_of_mem _ hj), set_layAll (h i (by simp))]

theorem fpW_sub (op : MOp) : ∀ i ∈ fpW op, i ∈ fpR op := by
  cases op <;> simp only [fpW, fpR] <;> intro i hi <;> first
    | exact hi
    | (simp_all; done)
    | (simp only [List.mem_append, List.mem_cons] at hi ⊢; split at hi <;> simp_all; done)
    | (cases hi; done)
    | (simp_all [List.mem_append]; try (rcases hi with h | h | h <;> first | exact .inl h | (split at h <;> simp_all) | simp_all))

theorem disj_spec {a b : List Nat} (h : disj a b = true) : ∀ n ∈ a, n ∉ b := fun n hn hb => by
  have := List.all_eq_true.1 h n hn
  simp at this
  exact this hb

theorem wanted_congr {sl sl' : List AV} {g : Option (Nat × Bool)} (h : ∀ n ∈ (match g with | some (d, _) => [d] | none => [] : List Nat), sl.getD n .undef = sl'.getD n .undef) : wanted sl g = wanted sl' g := by
  cases g with
  | none => rfl
  | some p => obtain ⟨d, w⟩ := p; simp only [wanted, h d (by simp)]

/-- What one operation does: a value and what it lays. -/
def effOp (cf : CallF) (o : MOper) (st : St) : Eff :=
  match wanted st.sl o.guard with
  | some true => opV cf st.sl st.H o.op
  | some false => some (.tup [], [])
  | none => none
theorem stepOp_eff (cf : CallF) (o : MOper) (st : St) : stepOp cf o st = (effOp cf o st).map fun p => ⟨putV st.sl o.dst p.1, layAll st.H p.2⟩ := by
  unfold stepOp effOp
  cases wanted st.sl o.guard with
  | none => rfl
  | some b =>
    cases b
    · rfl
    · simp only []
      cases opV cf st.sl st.H o.op <;> rfl
theorem effOp_keys {cf : CallF} {o : MOper} {st : St} {x : AV} {u : List (Nat × AObj)} (h : effOp cf o st = some (x, u)) : ∀ i ∈ u.map (·.1), i ∈ fpW o.op := by
  unfold effOp at h
  split at h
  · exact opV_keys h
  · cases h; simp
  · cases h
theorem effOp_congr {cf : CallF} {o : MOper} {st st' : St} (hs : ∀ n ∈ o.looks, st.sl.getD n .undef = st'.sl.getD n .undef) (hH : ∀ i ∈ fpR o.op, st.H[i]? = st'.H[i]?) : effOp cf o st = effOp cf o st' := by
  unfold effOp
  rw [wanted_congr fun n hn => hs n (List.mem_append_left _ hn), opV_congr o.op (fun n hn => hs n (List.mem_append_right _ hn)) hH]

theorem stepOp_comm {cf : CallF} {m n : MOper} {st st1 st2 : St} (ha : apart m n = true) (h1 : stepOp cf m st = some st1) (h2 : stepOp cf n st1 = some st2) :
    ∃ st1', stepOp cf n st = some st1' ∧ stepOp cf m st1' = some st2 := by
  simp only [apart, Bool.and_eq_true] at ha
  obtain ⟨⟨⟨a1, a2⟩, a3⟩, a4⟩ := ha
  replace a1 := disj_spec a1
  replace a2 := disj_spec a2
  replace a3 := disj_spec a3
  replace a4 := disj_spec a4
  rw [stepOp_eff] at h1 h2
  obtain ⟨⟨x, u⟩, e1, rfl⟩ := Option.map_eq_some_iff.1 h1
  obtain ⟨⟨y, v⟩, e2, rfl⟩ := Option.map_eq_some_iff.1 h2
  have ku := effOp_keys e1
  have kv := effOp_keys e2
  have e2' : effOp cf n st = some (y, v) := by
    rw [← e2]
    refine effOp_congr (fun k hk => (putV_get fun hd => a1 k hd (List.mem_append_left _ hk)).symm) fun i hi => (layAll_ne fun hm => a3 i (ku i hm) hi).symm
  refine ⟨⟨putV st.sl n.dst y, layAll st.H v⟩, by rw [stepOp_eff, e2']; rfl, ?_⟩
  have e1' : effOp cf m ⟨putV st.sl n.dst y, layAll st.H v⟩ = some (x, u) := by
    rw [← e1]
    refine effOp_congr (fun k hk => putV_get fun hd => a2 k hd hk) fun i hi => layAll_ne fun hm => a4 i (kv i hm) hi
  rw [stepOp_eff, e1']
  simp only [Option.map_some, Option.some.injEq, St.mk.injEq]
  refine ⟨(putV_comm fun k hk hn => a1 k hk (List.mem_append_right _ hn)).symm, (layAll_comm fun i hi hj => a3 i (ku i hi) (fpW_sub _ _ (kv i hj))).symm⟩

end Go.Ev
