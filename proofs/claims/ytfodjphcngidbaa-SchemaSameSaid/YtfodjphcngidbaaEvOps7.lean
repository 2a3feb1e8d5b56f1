/- Operations that lay objects: variables, rows. -/
import Derived.Test.YtfodjphcngidbaaEvOps6
set_option linter.unusedSimpArgs false
set_option linter.unusedVariables false
namespace Go.Ev
variable {P : Program} {E : Env} {o : Oper} {a : Act} {sl : List AV} {cf : CallF} {r : AV} {ups : List (Nat × AObj)}

theorem put_H {i : Nat} {q q' : AObj} {p : Option (Nat × Nat)} {w' : World} (h : E.H[i]? = some q) : (E.put i q' p w').H[i]? = some q' := set_get_eq h
theorem put_ρ {i : Nat} {q q' : AObj} {p : Option (Nat × Nat)} {w' : World} (hw : WRel E) (h : E.H[i]? = some q) : (E.put i q' p w').ρ[i]? = some p := by
  have : i < E.ρ.length := by rw [hw.len]; exact (List.getElem?_eq_some_iff.1 h).1
  exact List.getElem?_set_self this

theorem op_vnil (hw : WRel E) {t sz : Nat} (hc : chkOp P (.vnil t sz) o.op = true) (h : opV cf sl E.H (.vnil t sz) = some (r, ups)) : OpOk P E o a.eval r ups := by
  have hrun : (execOp a.eval o).run P E.w = .ok (.value (.slice none 0 0)) E.w := by
    simp only [chkOp] at hc
    split at hc
    · rename_i ho; simp [execOp, ho, Act.eval]
    · rename_i ho; simp [execOp, ho, Act.eval]
    · cases hc
  simp only [opV] at h
  split at h
  · rename_i q hq
    obtain ⟨rfl, rfl⟩ := some_pair h
    have hr := relay (o' := ⟨q.ver + 1, .row true sz []⟩) (p := none) hw hq (Nat.le_succ _) (fun e => by simp at e) (Chg.none E t) (fun _ _ _ h => by cases h) (fun _ => .inl ⟨rfl, put_ρ hw hq⟩)
    refine ⟨_, _, .inl hrun, .put hr ?_⟩
    simp only [VRel]
    exact ⟨none, 0, rfl, Nat.le_refl _, fun h => by omega, _, put_H hq, Nat.le_refl _, fun _ => ⟨by simp, .inr ⟨rfl, put_ρ hw hq, rfl, rfl⟩⟩⟩
  · cases h

/-- A new block for object i. -/
theorem lay_new (hw : WRel E) {i : Nat} {q : AObj} (hq : E.H[i]? = some q) {body : ABody} {cs : List AV} (hb : body = .var cs ∨ ∃ sz, body = .row true sz cs ∧ cs.all AV.tree = true) {w1 : World} (hc : Chg E i w1)
    (arr : Array Value) (e : TypeId) (hcs : ∀ (j : Nat) (c : AV), cs[j]? = some c → c.atom = true ∧ ∃ v, arr.toList[j]? = some v ∧ VRel E c v) :
    (WRel (E.put i ⟨q.ver + 1, body⟩ (some (w1.heap.size, 0)) (w1.alloc (.cells arr e))) ∧ Step E (E.put i ⟨q.ver + 1, body⟩ (some (w1.heap.size, 0)) (w1.alloc (.cells arr e)))) ∧
      Blk (w1.alloc (.cells arr e)) w1.heap.size arr.size := by
  have hnew : (w1.alloc (.cells arr e)).heap[w1.heap.size]? = some (.cells arr e (0, 0)) := by
    show (w1.heap.push _)[w1.heap.size]? = _
    simp
  have hblk : Blk (w1.alloc (.cells arr e)) w1.heap.size arr.size := ⟨arr, e, hnew, Nat.le_refl _⟩
  have hlen : cs.length ≤ arr.size := by
    rcases Nat.eq_zero_or_pos cs.length with h | h
    · omega
    · obtain ⟨_, v, hv, _⟩ := hcs (cs.length - 1) (cs[cs.length - 1]'(by omega)) (List.getElem?_eq_getElem (by omega))
      have := (List.getElem?_eq_some_iff.1 hv).1
      simp at this
      omega
  refine ⟨relay hw hq (Nat.le_succ _) (fun e => by simp at e) (hc.alloc _) (fun b base _ h => by cases h; exact .inr hc.size) (fun hst => ?_), hblk⟩
  have hv : VCells (E.put i ⟨q.ver + 1, body⟩ (some (w1.heap.size, 0)) (w1.alloc (.cells arr e))) cs w1.heap.size 0 := by
    intro j c hj
    obtain ⟨h1, v, h2, h3⟩ := hcs j c hj
    refine ⟨h1, v, ?_, VRel.mono hst h3⟩
    show (w1.alloc (.cells arr e)).cell? ⟨w1.heap.size, 0 + j, none⟩ = some v
    rw [World.cell?_alloc_new, Nat.zero_add]
    simpa using h2
  unfold ObjRel
  rcases hb with rfl | ⟨sz, rfl, ht⟩
  · exact ⟨_, 0, put_ρ hw hq, hblk.le (by omega), hv⟩
  · exact .inr ⟨_, 0, put_ρ hw hq, hblk.le (by omega), hv.toC ht, fun h => by cases h⟩

theorem all_get {cs : List AV} {p : AV → Bool} (h : cs.all p = true) {j : Nat} {c : AV} (hj : cs[j]? = some c) : p c = true := List.all_eq_true.1 h c (List.mem_of_getElem? hj)

theorem ptr_new (hw : WRel E) {i b : Nat} {q q' : AObj} {w' : World} (hq : E.H[i]? = some q) : VRel (E.put i q' (some (b, 0)) w') (.ptr i q'.ver 0) (.pointer (some ⟨b, 0, none⟩)) := by
  simp only [VRel]
  exact ⟨_, rfl, _, put_H hq, Nat.le_refl _, fun _ => ⟨b, 0, put_ρ hw hq, rfl⟩⟩

theorem own_new (hw : WRel E) {i b ver n cap sz : Nat} {q : AObj} {cs : List AV} {w' : World} (hq : E.H[i]? = some q) (hl : n * sz ≤ cs.length) (hn : n ≤ cap) (hb : Blk w' b (cap * sz)) :
    VRel (E.put i ⟨ver, .row true sz cs⟩ (some (b, 0)) w') (.own i ver 0 n sz) (.slice (some ⟨b, 0, none⟩) n cap) := by
  simp only [VRel]
  exact ⟨_, cap, rfl, hn, fun _ => rfl, _, put_H hq, Nat.le_refl _, fun _ => ⟨by simpa using hl, .inl ⟨b, 0, put_ρ hw hq, rfl, by show Blk w' b (0 + 0 + cap * sz); simpa using hb⟩⟩⟩

theorem op_alloc (hw : WRel E) {t : Nat} {zs : List AV} (hc : chkOp P (.alloc t zs) o.op = true) (h : opV cf sl E.H (.alloc t zs) = some (r, ups)) : OpOk P E o a.eval r ups := by
  simp only [chkOp] at hc
  split at hc
  · rename_i e ho
    obtain ⟨i, z, hi, hz, hr, hat⟩ := zeroB_rel hc
    simp only [opV] at h
    split at h
    · rename_i q hq
      obtain ⟨rfl, rfl⟩ := some_pair h
      have hn := lay_new hw hq (.inl rfl : (ABody.var zs) = .var zs ∨ _) (Chg.none E t) z.cells e (fun j c hj => by
        obtain ⟨v, h1, h2⟩ := (hr E).get j c hj
        exact ⟨all_get hat hj, v, h1, h2⟩)
      refine ⟨.pointer (some ⟨E.w.heap.size, 0, none⟩), _, .inl ?_, .put hn.1 (ptr_new hw hq)⟩
      simp [execOp, ho, Instr.alloc, zeroValue, typeInfo, hi, hz, newVar, newRow]
    · cases h
  · cases hc

theorem op_box (hw : WRel E) (hs : ARel E sl a) {t : Nat} {x : MX} (hc : chkOp P (.box t x) o.op = true) (h : opV cf sl E.H (.box t x) = some (r, ups)) : OpOk P E o a.eval r ups := by
  simp only [chkOp] at hc
  split at hc
  · rename_i e x' ho
    have hx := ev_rel hs hc
    simp only [opV] at h
    split at h
    · rename_i q hq
      split at h
      · rename_i hat
        obtain ⟨rfl, rfl⟩ := some_pair h
        obtain ⟨hr, _⟩ := cells_rel hx hat
        have hn := lay_new hw hq (.inl rfl : (ABody.var (ev sl x).cells) = .var (ev sl x).cells ∨ _) (Chg.none E t) (a.eval x').cells e (fun j c hj => by
          obtain ⟨v, h1, h2⟩ := hr.get j c hj
          exact ⟨all_get hat hj, v, h1, h2⟩)
        refine ⟨.pointer (some ⟨E.w.heap.size, 0, none⟩), _, .inl ?_, .put hn.1 (ptr_new hw hq)⟩
        simp [execOp, ho, Instr.box, newVar, newRow]
      · cases h
    · cases h
  · cases hc

/-! ### Rows that are told as they stand -/
def Frz (H H1 : List AObj) : Prop := ∀ i : Nat, H1[i]? = H[i]? ∨ ∃ v m sz cs, H[i]? = some (⟨v, .row m sz cs⟩ : AObj) ∧ H1[i]? = some (⟨v, .row false sz cs⟩ : AObj)
theorem Frz.refl (H : List AObj) : Frz H H := fun _ => .inl rfl
theorem Frz.tree {H H1 : List AObj} (h : Frz H H1) (fz : List Nat) (c : AV) : treeCell H1 fz c = treeCell H fz c := by
  cases c <;> try rfl
  rename_i i ver off len sz
  simp only [treeCell]
  rcases h i with h | ⟨v, m, s, cs, h1, h2⟩
  · rw [h]
  · rw [h1, h2]

theorem layAll_append (H : List AObj) (u v : List (Nat × AObj)) : layAll H (u ++ v) = layAll (layAll H u) v := by
  induction u generalizing H with
  | nil => rfl
  | cons p u ih => obtain ⟨i, x⟩ := p; simp only [List.cons_append, layAll]; exact ih _

theorem freezeAll_rel : ∀ {fz : List Nat} {H0 : List AObj} {E : Env} {fr : List (Nat × AObj)}, WRel E → Frz H0 E.H → freezeAll H0 fz = some fr →
    WRel (Lay E fr E.ρ E.w) ∧ Step E (Lay E fr E.ρ E.w) ∧ Frz H0 (Lay E fr E.ρ E.w).H ∧ ∀ i ∈ fz, ∀ q, (Lay E fr E.ρ E.w).H[i]? = some q → q.body.isMut = false
  | [], H0, E, fr, hw, hf, h => by
    simp only [freezeAll, Option.some.injEq] at h
    subst h
    exact ⟨hw, .refl _, hf, fun i h => by cases h⟩
  | i :: fz, H0, E, fr, hw, hf, h => by
    simp only [freezeAll] at h
    split at h
    · rename_i v m sz cs l h1 h2
      cases h
      have hi : ∃ m', E.H[i]? = some ⟨v, .row m' sz cs⟩ := by
        rcases hf i with h | ⟨v', m', s', cs', h3, h4⟩
        · exact ⟨m, h.trans h1⟩
        · rw [h1] at h3; cases h3; exact ⟨false, h4⟩
      obtain ⟨m', hi⟩ := hi
      obtain ⟨p, hw1, hst, hρ⟩ := freeze_one hw hi
      have hf1 : Frz H0 (E.put i ⟨v, .row false sz cs⟩ p E.w).H := fun j => by
        by_cases e : i = j
        · subst e; exact .inr ⟨v, m, sz, cs, h1, put_H hi⟩
        · rcases hf j with h | ⟨a, b, c, d, h3, h4⟩
          · exact .inl ((set_get_ne e).trans h)
          · exact .inr ⟨a, b, c, d, h3, (set_get_ne e).trans h4⟩
      have hE1 : E.put i ⟨v, .row false sz cs⟩ p E.w = ⟨E.F, E.H.set i ⟨v, .row false sz cs⟩, E.ρ, E.w⟩ := by
        simp only [Env.put] at hρ ⊢
        rw [hρ]
      rw [hE1] at hw1 hst hf1
      obtain ⟨k1, k2, k3, k4⟩ := freezeAll_rel hw1 hf1 h2
      refine ⟨k1, hst.trans k2, k3, fun j hj q hq => ?_⟩
      cases hj with
      | head =>
        rcases k3 i with h | ⟨a, b, c, d, h3, h4⟩
        · -- it was not a row that changes, or it has been told
          rcases Nat.lt_or_ge 0 1 with _ | h'
          · have hq' : (layAll (E.H.set i ⟨v, .row false sz cs⟩) l)[i]? = some q := hq
            obtain ⟨q', hq2, hv', hsh⟩ := k2.obj i ⟨v, .row false sz cs⟩ (set_get_eq hi)
            have e2 : q' = q := by rw [show (Lay ⟨E.F, E.H.set i ⟨v, .row false sz cs⟩, E.ρ, E.w⟩ l E.ρ E.w).H[i]? = (layAll (E.H.set i ⟨v, .row false sz cs⟩) l)[i]? from rfl, hq'] at hq2; exact (Option.some.inj hq2).symm
            subst e2
            -- its block may not be written
            cases hqb : q'.body.isMut with
            | false => rfl
            | true =>
              exfalso
              have hH : (layAll (E.H.set i ⟨v, .row false sz cs⟩) l)[i]? = H0[i]? := h
              rw [hq', h1] at hH
              cases hH
              simp [ABody.isMut] at hqb
              subst hqb
              exact freeze_keeps h2 (set_get_eq hi) hq'
          · omega
        · have hq' : (layAll (E.H.set i ⟨v, .row false sz cs⟩) l)[i]? = some q := hq
          have h4' : (layAll (E.H.set i ⟨v, .row false sz cs⟩) l)[i]? = some ⟨a, .row false c d⟩ := h4
          rw [hq'] at h4'
          cases h4'
          rfl
      | tail _ hj => exact k4 j hj q hq
    · rename_i v l h1 h2
      cases h
      obtain ⟨k1, k2, k3, k4⟩ := freezeAll_rel hw hf h2
      refine ⟨k1, k2, k3, fun j hj q hq => ?_⟩
      cases hj with
      | head =>
        rcases k3 i with h | ⟨a, b, c, d, h3, h4⟩
        · rw [h1] at h; rw [hq] at h; cases h; rfl
        · rw [h1] at h3; cases h3
      | tail _ hj => exact k4 j hj q hq
    · cases h
  where
  freeze_keeps : ∀ {fz : List Nat} {H0 H : List AObj} {fr : List (Nat × AObj)} {i v sz : Nat} {cs : List AV}, freezeAll H0 fz = some fr → H[i]? = some ⟨v, .row false sz cs⟩ → (layAll H fr)[i]? = some ⟨v, .row true sz cs⟩ → False
    | [], H0, H, fr, i, v, sz, cs, h, h1, h2 => by
      simp only [freezeAll, Option.some.injEq] at h
      subst h
      simp only [layAll] at h2
      rw [h1] at h2
      cases h2
    | j :: fz, H0, H, fr, i, v, sz, cs, h, h1, h2 => by
      simp only [freezeAll] at h
      split at h
      · rename_i v' m s' cs' l h3 h4
        cases h
        simp only [layAll] at h2
        by_cases e : j = i
        · subst e
          have h5 : (H.set j ⟨v', .row false s' cs'⟩)[j]? = some ⟨v', .row false s' cs'⟩ := set_get_eq h1
          by_cases e2 : v' = v ∧ s' = sz ∧ cs' = cs
          · obtain ⟨rfl, rfl, rfl⟩ := e2
            exact freeze_keeps h4 h5 h2
          · exact freeze_other h4 h5 (fun q => e2 ⟨by cases q; rfl, by cases q; rfl, by cases q; rfl⟩) h2
        · exact freeze_keeps h4 ((set_get_ne e).trans h1) h2
      · rename_i v' l h3 h4
        cases h
        exact freeze_keeps h4 h1 h2
      · cases h
  freeze_other : ∀ {fz : List Nat} {H0 H : List AObj} {fr : List (Nat × AObj)} {i v sz v' s' : Nat} {cs cs' : List AV}, freezeAll H0 fz = some fr → H[i]? = some (⟨v', .row false s' cs'⟩ : AObj) →
      ((⟨v', .row false s' cs'⟩ : AObj) = ⟨v, .row false sz cs⟩ → False) → (layAll H fr)[i]? = some (⟨v, .row true sz cs⟩ : AObj) → False
    | [], H0, H, fr, i, v, sz, v', s', cs, cs', h, h1, _, h2 => by
      simp only [freezeAll, Option.some.injEq] at h
      subst h
      simp only [layAll] at h2
      rw [h1] at h2
      cases h2
    | j :: fz, H0, H, fr, i, v, sz, v', s', cs, cs', h, h1, hn, h2 => by
      simp only [freezeAll] at h
      split at h
      · rename_i v2 m s2 cs2 l h3 h4
        cases h
        simp only [layAll] at h2
        by_cases e : j = i
        · subst e
          have h5 : (H.set j ⟨v2, .row false s2 cs2⟩)[j]? = some ⟨v2, .row false s2 cs2⟩ := set_get_eq h1
          by_cases e2 : (⟨v2, .row false s2 cs2⟩ : AObj) = ⟨v, .row false sz cs⟩
          · cases e2
            exact freeze_keeps h4 h5 h2
          · exact freeze_other h4 h5 e2 h2
        · exact freeze_other h4 ((set_get_ne e).trans h1) hn h2
      · rename_i v2 l h3 h4
        cases h
        exact freeze_other h4 h1 hn h2
      · cases h

end Go.Ev
