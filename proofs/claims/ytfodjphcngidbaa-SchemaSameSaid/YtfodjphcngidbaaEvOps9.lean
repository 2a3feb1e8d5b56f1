/- Operations that write: stores, append, make, copy. -/
import Derived.Test.YtfodjphcngidbaaEvOps8
set_option linter.unusedSimpArgs false
set_option linter.unusedVariables false
namespace Go.Ev
variable {P : Program} {E : Env} {o : Oper} {a : Act} {sl : List AV} {cf : CallF} {r : AV} {ups : List (Nat × AObj)}

theorem Blk.cell {w : World} {b n k : Nat} (h : Blk w b n) (hk : k < n) : (w.cell? ⟨b, k, none⟩).isSome = true ∧ w.frozen? ⟨b, k, none⟩ = false := by
  obtain ⟨arr, e, h1, h2⟩ := h
  constructor
  · simp only [World.cell?, h1, Option.isSome_none, Bool.false_eq_true, if_false]
    rw [Array.getElem?_eq_getElem (by omega)]; rfl
  · simp [World.frozen?, h1]

/-- Cells of object i are written, in place. -/
theorem lay_write (hw : WRel E) {i ver b base off m : Nat} {q : AObj} {body' : ABody} {cs new : List AV} {vs : List Value} (hq : E.H[i]? = some q) (hmut : q.body.isMut = true) (hρ : E.ρ[i]? = some (some (b, base)))
    (hver : q.ver ≤ ver) (hshape : ver = q.ver → sameShape q.body body') (hb : (body' = .var cs) ∨ ∃ sz, body' = .row true sz cs)
    (hblk : Blk E.w b m) (hm : base + cs.length ≤ m) (hoff : off + new.length ≤ cs.length) (hcs : ∃ old, bodyCells q.body = some old ∧ ∀ k, (off ≤ k ∧ k < off + new.length → cs[k]? = new[k - off]?) ∧ (¬ (off ≤ k ∧ k < off + new.length) → cs[k]? = old[k]?))
    (hnew : LRel E new vs) (hat : new.all AV.atom = true) (htree : (∃ sz, body' = .row true sz cs) → new.all AV.tree = true ∧ ∃ m sz old, q.body = .row m sz old) :
    WRel (E.put i ⟨ver, body'⟩ (some (b, base)) (E.w.setCells b (base + off) vs)) ∧ Step E (E.put i ⟨ver, body'⟩ (some (b, base)) (E.w.setCells b (base + off) vs)) := by
  have hma : E.mutAt i b := ⟨q, base, hq, hmut, hρ⟩
  have hchg : Chg E i (E.w.setCells b (base + off) vs) := Chg.setCells hma vs (base + off) E.w (Chg.none E i)
  have hlen := hnew.length
  obtain ⟨old, ho, hk⟩ := hcs
  have hobj := hw.obj i q hq
  have hold : VCells E old b base := by
    unfold ObjRel at hobj
    cases hqb : q.body with
    | none => rw [hqb] at ho; cases ho
    | var ds => rw [hqb] at ho hobj; cases ho; obtain ⟨b', base', h1, h2, h3⟩ := hobj; rw [hρ] at h1; cases h1; exact h3
    | row _ _ ds =>
      rw [hqb] at ho hobj
      cases ho
      rcases hobj with ⟨_, h1⟩ | ⟨b', base', h1, h2, h3, _⟩
      · rw [hρ] at h1; cases h1
      · rw [hρ] at h1; cases h1; exact h3.toV
  refine relay hw hq hver (fun e => ⟨hshape e, hρ⟩) hchg (fun b' base' _ h => by cases h; exact .inl hma) (fun hst => ?_)
  have hv : VCells (E.put i ⟨ver, body'⟩ (some (b, base)) (E.w.setCells b (base + off) vs)) cs b base := by
    intro k c hc
    by_cases hin : off ≤ k ∧ k < off + new.length
    · rw [(hk k).1 hin] at hc
      refine ⟨all_get hat hc, ?_⟩
      obtain ⟨v, hv, hr⟩ := hnew.get _ c hc
      refine ⟨v, ?_, VRel.mono hst hr⟩
      show (E.w.setCells b (base + off) vs).cell? ⟨b, base + k, none⟩ = some v
      have hlt : k - off < vs.length := by omega
      have := World.cell?_setCells_in b vs (base + off) E.w (fun j hj => (hblk.cell (by omega)).1) (k - off) hlt
      rw [show base + off + (k - off) = base + k by omega] at this
      rw [this, ← hv, List.getElem?_eq_getElem hlt]
    · rw [(hk k).2 hin] at hc
      obtain ⟨h1, v, hv, hr⟩ := hold k c hc
      refine ⟨h1, v, ?_, VRel.mono hst hr⟩
      show (E.w.setCells b (base + off) vs).cell? ⟨b, base + k, none⟩ = some v
      rw [World.cell?_setCells_out b vs (base + off) E.w _ (fun _ _ => by simp only; omega)]
      exact hv
  have hblk' : Blk (E.put i ⟨ver, body'⟩ (some (b, base)) (E.w.setCells b (base + off) vs)).w b (base + cs.length) := (hblk.mono hst.w).le hm
  unfold ObjRel
  rcases hb with rfl | ⟨sz, rfl⟩
  · exact ⟨b, base, put_ρ hw hq, hblk', hv⟩
  · refine .inr ⟨b, base, put_ρ hw hq, hblk', hv.toC ?_, fun h => by cases h⟩
    obtain ⟨ht, m', sz', old', hqb⟩ := htree ⟨sz, rfl⟩
    have htold : ∀ (k : Nat) (c : AV), old[k]? = some c → c.tree = true := by
      intro k c hc
      unfold ObjRel at hobj
      rw [hqb] at ho hobj
      cases ho
      rcases hobj with ⟨_, h1⟩ | ⟨b', base', h1, h2, h3, _⟩
      · rw [hρ] at h1; cases h1
      · exact (h3.get k c hc).1
    refine List.all_eq_true.2 fun c hc => ?_
    obtain ⟨k, hkk⟩ := List.mem_iff_getElem?.1 hc
    by_cases hin : off ≤ k ∧ k < off + new.length
    · rw [(hk k).1 hin] at hkk; exact all_get ht hkk
    · rw [(hk k).2 hin] at hkk; exact htold k c hkk

theorem run_storeAt {t : TypeId} {b off n : Nat} {v : Value} (w : World) (hz : szB P t n = true) (hn : v.cells.size = n) (h1 : ∀ u ∈ v.cells.toList, u.oneCell' = true)
    (hc : ∀ j, j < n → (w.cell? ⟨b, off + j, none⟩).isSome = true ∧ w.frozen? ⟨b, off + j, none⟩ = false) :
    (Instr.storeAt t (.pointer (some ⟨b, off, none⟩)) v).run P w = .ok () (w.setCells b off v.cells.toList) := by
  have := run_storeCells_cells (P := P) b off v.cells.toList 0 w (fun j hj => by simpa using (hc j (by simpa [hn] using hj)).1) (fun j hj => by simpa using (hc j (by simpa [hn] using hj)).2) h1
  simp only [Nat.add_zero] at this
  simp [Instr.storeAt, Instr.sureAddr, storeVar, run_sizeOf' hz, hn, this]

theorem op_store (hw : WRel E) (hs : ARel E sl a) {n ob : Nat} {fz : List Nat} {x v : MX} (hc : chkOp P (.store n ob fz x v) o.op = true) (h : opV cf sl E.H (.store n ob fz x v) = some (r, ups)) : OpOk P E o a.eval r ups := by
  simp only [chkOp] at hc
  split at hc
  · rename_i t x' v' ho
    simp only [Bool.and_eq_true, decide_eq_true_eq] at hc
    obtain ⟨⟨⟨hz, hn0⟩, h1⟩, h2⟩ := hc
    have hx := ev_rel hs h1
    have hv := ev_rel hs h2
    simp only [opV] at h
    split at h
    · rename_i j ver off e
      rw [e] at hx
      split at h
      · cases h
      · rename_i hcond
        have hlen : (ev sl v).cells.length = n := by
          rcases Nat.decEq (ev sl v).cells.length n with h | h
          · exact absurd (.inr h) hcond
          · exact h
        split at h
        · rename_i q hq
          split at h
          · cases h
          · rename_i hver
            have hver : q.ver = ver := by simpa using hver
            have hoc : ∀ cs, bodyCells q.body = some cs → objCells E.H j ver = some cs := fun cs h => by simp [objCells, hq, hver, h]
            split at h
            · rename_i cs hqb
              split at h
              · rename_i hle
                obtain ⟨hle, hat⟩ := hle
                obtain ⟨rfl, rfl⟩ := some_pair h
                obtain ⟨b, base, e1, hρ, hblk, _, _⟩ := ptr_cells hw hx (hoc cs (by rw [hqb]; rfl))
                obtain ⟨hr, ho1⟩ := cells_rel hv hat
                have hsz : (a.eval v').cells.size = n := by have := hr.length; simp at this; omega
                have hL := lay_write (E := E) (body' := .var (setCells cs off (ev sl v).cells)) (cs := setCells cs off (ev sl v).cells) (new := (ev sl v).cells) (off := off) (m := base + cs.length) (ver := ver) hw hq (by rw [hqb]; rfl) hρ (by omega)
                  (fun _ => by rw [hqb]; exact (setCells_len (by omega)).symm) (.inl rfl) hblk (by rw [setCells_len (by omega)]; exact Nat.le_refl _) (by rw [setCells_len (by omega)]; omega)
                  ⟨cs, by rw [hqb]; rfl, fun k => ⟨fun hk => by rw [setCells_get (by omega), if_pos hk], fun hk => by rw [setCells_get (by omega), if_neg hk]⟩⟩ hr hat (fun h => by obtain ⟨_, h⟩ := h; cases h)
                refine ⟨undef, _, .inr ⟨?_, rfl⟩, .put hL ?_⟩
                · simp only [execOp, ho, e1, Sem.run_bind, run_storeAt E.w hz hsz ho1 (fun k hk => by have := hblk.cell (k := base + off + k) (by omega); rwa [Nat.add_assoc] at this ⊢), Result.andThen_ok, Sem.run_pure]
                · simp only [VRel, LRel]; exact ⟨#[], rfl, rfl⟩
              · cases h
            · rename_i sz cs hqb
              split at h
              · rename_i hle
                split at h
                · rename_i new fr hm hfr
                  split at h
                  · cases h
                  · rename_i hjf
                    obtain ⟨rfl, rfl⟩ := some_pair h
                    obtain ⟨k1, k2, k3, k4⟩ := freezeAll_rel hw (Frz.refl E.H) hfr
                    have hat : (ev sl v).cells.all AV.atom = true := by
                      refine List.all_eq_true.2 fun c hc => ?_
                      obtain ⟨k, hk⟩ := List.mem_iff_getElem?.1 hc
                      have : ∀ {l l' : List AV} {k : Nat} {c : AV}, mapO (treeCell E.H fz) l = some l' → l[k]? = some c → ∃ c', treeCell E.H fz c = some c' := by
                        intro l
                        induction l with
                        | nil => intro l' k c _ h; simp at h
                        | cons x l ih =>
                          intro l' k c h1 h2
                          simp only [mapO] at h1
                          split at h1
                          · rename_i b hb
                            obtain ⟨l2, h3, rfl⟩ := Option.map_eq_some_iff.1 h1
                            cases k with
                            | zero => simp at h2; subst h2; exact ⟨b, hb⟩
                            | succ k => exact ih h3 (by simpa using h2)
                          · cases h1
                      obtain ⟨c', hc'⟩ := this hm hk
                      cases c <;> simp_all [treeCell, AV.tree, AV.atom]
                    obtain ⟨hr, ho1⟩ := cells_rel hv hat
                    have hsz : (a.eval v').cells.size = n := by have := hr.length; simp at this; omega
                    have hm1 : mapO (treeCell (Lay E fr E.ρ E.w).H fz) (ev sl v).cells = some new := by rw [← hm]; exact mapO_congr (fun c => k3.tree fz c) _
                    obtain ⟨m1, m2⟩ := mapO_rel k1 k4 hm1 (LRel.mono k2 hr)
                    have hnl : new.length = n := by rw [mapO_len hm, hlen]
                    obtain ⟨b, base, e1, hρ, hblk, _, _⟩ := ptr_cells hw hx (hoc cs (by rw [hqb]; rfl))
                    have hq1 : (Lay E fr E.ρ E.w).H[j]? = some q := by
                      have hfrz : ∀ {fz : List Nat} {H0 H : List AObj} {fr : List (Nat × AObj)}, freezeAll H0 fz = some fr → fz.contains j = false → (layAll H fr)[j]? = H[j]? := by
                        intro fz
                        induction fz with
                        | nil => intro H0 H fr h _; simp only [freezeAll, Option.some.injEq] at h; subst h; rfl
                        | cons i fz ih =>
                          intro H0 H fr h hn
                          simp only [List.contains_cons, Bool.or_eq_false_iff, beq_eq_false_iff_ne] at hn
                          simp only [freezeAll] at h
                          split at h
                          · rename_i l _ h2
                            cases h
                            simp only [layAll]
                            rw [ih h2 hn.2, set_get_ne (Ne.symm hn.1)]
                          · rename_i l _ h2
                            cases h
                            exact ih h2 hn.2
                          · cases h
                      exact (hfrz hfr (by simpa using hjf)).trans hq
                    have hL := lay_write (E := Lay E fr E.ρ E.w) (body' := .row true sz (setCells cs off new)) (cs := setCells cs off new) (new := new) (off := off) (m := base + cs.length) (ver := ver) k1 hq1 (by rw [hqb]; rfl) hρ (by omega)
                      (fun _ => by rw [hqb]; exact ⟨rfl, (setCells_len (by omega)).symm⟩) (.inr ⟨sz, rfl⟩) hblk (by rw [setCells_len (by omega)]; exact Nat.le_refl _) (by rw [setCells_len (by omega)]; omega)
                      ⟨cs, by rw [hqb]; rfl, fun k => ⟨fun hk => by rw [setCells_get (by omega), if_pos hk], fun hk => by rw [setCells_get (by omega), if_neg hk]⟩⟩ m2 (List.all_eq_true.2 fun c hc => AV.tree_atom (List.all_eq_true.1 m1 c hc))
                      (fun _ => ⟨m1, _, _, _, hqb⟩)
                    have hEq : ∀ p w', Lay E (fr ++ [(j, ⟨ver, .row true sz (setCells cs off new)⟩)]) (E.ρ.set j p) w' = (Lay E fr E.ρ E.w).put j ⟨ver, .row true sz (setCells cs off new)⟩ p w' := by
                      intro p w'
                      simp only [Lay, Env.put, layAll_append, layAll]
                    refine ⟨undef, E.w.setCells b (base + off) (a.eval v').cells.toList, .inr ⟨?_, rfl⟩, E.ρ.set j (some (b, base)), ?_⟩
                    · simp only [execOp, ho, e1, Sem.run_bind, run_storeAt E.w hz hsz ho1 (fun k hk => by have := hblk.cell (k := base + off + k) (by omega); rwa [Nat.add_assoc] at this ⊢), Result.andThen_ok, Sem.run_pure]
                    · rw [hEq]
                      refine ⟨hL.1, k2.trans hL.2, ?_⟩
                      simp only [VRel, LRel]; exact ⟨#[], rfl, rfl⟩
                · cases h
              · cases h
            · cases h
        · cases h
    · cases h
  · cases hc

end Go.Ev
