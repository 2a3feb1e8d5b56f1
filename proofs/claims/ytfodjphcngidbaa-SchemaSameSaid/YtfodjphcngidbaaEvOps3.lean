/- Operations that lay nothing, as they were loaded. -/
import Derived.Test.YtfodjphcngidbaaEvOps2
set_option linter.unusedSimpArgs false
set_option linter.unusedVariables false
namespace Go.Ev
variable {P : Program} {E : Env} {o : Oper} {a : Act} {sl : List AV} {cf : CallF} {r : AV} {ups : List (Nat × AObj)}

theorem some_pair {x y : AV} {u v : List (Nat × AObj)} (h : some (x, u) = some (y, v)) : x = y ∧ u = v := by
  cases h; exact ⟨rfl, rfl⟩
theorem map_pair {f : Option AV} {y : AV} {v : List (Nat × AObj)} (h : (f.map fun a => (a, ([] : List (Nat × AObj)))) = some (y, v)) : f = some y ∧ v = [] := by
  cases f with
  | none => cases h
  | some x => cases h; exact ⟨rfl, rfl⟩

theorem op_mv (hw : WRel E) (hs : ARel E sl a) {x : MX} (hc : chkOp P (.mv x) o.op = true) (h : opV cf sl E.H (.mv x) = some (r, ups)) : OpOk P E o a.eval r ups := by
  simp only [opV] at h
  obtain ⟨rfl, rfl⟩ := some_pair h
  simp only [chkOp] at hc
  split at hc
  · exact ok_mv hw (.inl (by assumption)) (ev_rel hs hc)
  · exact ok_mv hw (.inr (by assumption)) (ev_rel hs hc)
  · cases hc

theorem op_pick (hw : WRel E) (hs : ARel E sl a) {c x y : MX} (hc : chkOp P (.pick c x y) o.op = true) (h : opV cf sl E.H (.pick c x y) = some (r, ups)) : OpOk P E o a.eval r ups := by
  simp only [chkOp] at hc
  split at hc
  · rename_i c' x' y' ho
    simp only [Bool.and_eq_true] at hc
    simp only [opV] at h
    split at h
    · rename_i e
      obtain ⟨rfl, rfl⟩ := some_pair h
      simpa using ok_pick hw ho (ev_rel hs hc.1.1) (ev_rel hs hc.1.2) (ev_rel hs hc.2) e
    · rename_i e
      obtain ⟨rfl, rfl⟩ := some_pair h
      simpa using ok_pick hw ho (ev_rel hs hc.1.1) (ev_rel hs hc.1.2) (ev_rel hs hc.2) e
    · cases h
  · cases hc

theorem op_bin (hw : WRel E) (hs : ARel E sl a) {op : BinOp} {tc : TC} {x y : MX} (hc : chkOp P (.bin op tc x y) o.op = true) (h : opV cf sl E.H (.bin op tc x y) = some (r, ups)) : OpOk P E o a.eval r ups := by
  simp only [chkOp] at hc
  split at hc
  · rename_i op' t x' y' yt ho
    simp only [Bool.and_eq_true, beq_iff_eq] at hc
    obtain ⟨⟨⟨rfl, h1⟩, h2⟩, h3⟩ := hc
    simp only [opV] at h
    obtain ⟨hv, rfl⟩ := map_pair h
    exact ok_bin hw ho h1 (ev_rel hs h2) (ev_rel hs h3) hv
  · cases hc

theorem op_un (hw : WRel E) (hs : ARel E sl a) {op : UnOp} {x : MX} (hc : chkOp P (.un op x) o.op = true) (h : opV cf sl E.H (.un op x) = some (r, ups)) : OpOk P E o a.eval r ups := by
  simp only [chkOp] at hc
  split at hc
  · rename_i op' t x' ho
    simp only [Bool.and_eq_true, beq_iff_eq] at hc
    obtain ⟨rfl, h1⟩ := hc
    simp only [opV] at h
    obtain ⟨hv, rfl⟩ := map_pair h
    exact ok_un hw ho (ev_rel hs h1) hv
  · cases hc

theorem op_conv (hw : WRel E) (hs : ARel E sl a) {k : IntKind} {x : MX} (hc : chkOp P (.conv k x) o.op = true) (h : opV cf sl E.H (.conv k x) = some (r, ups)) : OpOk P E o a.eval r ups := by
  simp only [chkOp] at hc
  split at hc
  · rename_i s d x' ho
    simp only [Bool.and_eq_true] at hc
    obtain ⟨⟨h1, h2⟩, h3⟩ := hc
    split at h2
    · rename_i k' hd
      have := beq_iff_eq.1 h2
      subst this
      simp only [opV] at h
      split at h
      · rename_i k2 n e
        obtain ⟨rfl, rfl⟩ := some_pair h
        have hx := ev_rel hs h3
        rw [e] at hx
        exact ok_conv hw ho h1 hd hx
      · cases h
    · cases h2
  · cases hc

theorem op_faddr (hw : WRel E) (hs : ARel E sl a) {off : Nat} {x : MX} (hc : chkOp P (.faddr off x) o.op = true) (h : opV cf sl E.H (.faddr off x) = some (r, ups)) : OpOk P E o a.eval r ups := by
  simp only [chkOp] at hc
  split at hc
  · rename_i s x' f ho
    simp only [Bool.and_eq_true] at hc
    obtain ⟨h1, h2⟩ := hc
    split at h1
    · rename_i fs hu
      split at h1
      · rename_i fd hf
        simp only [Bool.and_eq_true, beq_iff_eq] at h1
        obtain ⟨hoff, h1⟩ := h1
        split at h1
        · rename_i i hi
          have hx := ev_rel hs h2
          simp only [opV] at h
          split at h
          · rename_i j ver k e
            obtain ⟨rfl, rfl⟩ := some_pair h
            rw [e] at hx
            exact ok_faddr hw ho hu hf hoff hi (by simpa using h1) hx (.inl ⟨_, _, _, rfl, rfl⟩)
          · rename_i cs e
            obtain ⟨rfl, rfl⟩ := some_pair h
            rw [e] at hx
            exact ok_faddr hw ho hu hf hoff hi (by simpa using h1) hx (.inr ⟨_, rfl, rfl⟩)
          · cases h
        · cases h1
      · cases h1
    · cases h1
  · cases hc

theorem op_nilchk (hw : WRel E) (hs : ARel E sl a) {x : MX} (hc : chkOp P (.nilchk x) o.op = true) (h : opV cf sl E.H (.nilchk x) = some (r, ups)) : OpOk P E o a.eval r ups := by
  simp only [chkOp] at hc
  split at hc
  · rename_i x' ho
    have hx := ev_rel hs hc
    simp only [opV] at h
    split at h
    · rename_i e
      obtain ⟨rfl, rfl⟩ := some_pair h
      rw [e] at hx
      obtain ⟨b, e1, _⟩ := (by simpa only [VRel] using hx : PRel E _ _ _ _)
      exact .pure hw (by simp [execOp, ho, e1]) (e1 ▸ hx)
    · rename_i e
      obtain ⟨rfl, rfl⟩ := some_pair h
      rw [e] at hx
      obtain ⟨b, e1, _⟩ := (by simpa only [VRel] using hx : ∃ b, a.eval x' = .pointer (some b) ∧ _)
      exact .pure hw (by simp [execOp, ho, e1]) (e1 ▸ hx)
    · rename_i e
      obtain ⟨rfl, rfl⟩ := some_pair h
      rw [e] at hx
      obtain ⟨b, c, e1, _⟩ := (by simpa only [VRel] using hx : ∃ b c, a.eval x' = .func (.func _) b c ∧ _)
      exact .pure hw (by simp [execOp, ho, e1]) (e1 ▸ hx)
    · cases h
  · cases hc

theorem run_sizeOf' {t : TypeId} {n : Nat} (h : szB P t n = true) (w : World) : (sizeOf t).run P w = .ok n w := by
  obtain ⟨i, hi, rfl⟩ := szB_info h
  simp [sizeOf, typeInfo, hi]

theorem int_rel {x : AV} {k : IntKind} {n : Int} {v : Value} (e : x = .int k n) (h : VRel E x v) : v = .int k n := by subst e; exact h

theorem op_iaddrA (hw : WRel E) (hs : ARel E sl a) {len sz : Nat} {x i : MX} (hc : chkOp P (.iaddrA len sz x i) o.op = true) (h : opV cf sl E.H (.iaddrA len sz x i) = some (r, ups)) : OpOk P E o a.eval r ups := by
  simp only [chkOp] at hc
  split at hc
  · rename_i t x' i' ho
    simp only [Bool.and_eq_true] at hc
    obtain ⟨⟨h1, h2⟩, h3⟩ := hc
    split at h1
    · rename_i n e hu
      simp only [Bool.and_eq_true, beq_iff_eq] at h1
      obtain ⟨rfl, hz⟩ := h1
      have hx := ev_rel hs h2
      have hi := ev_rel hs h3
      simp only [opV] at h
      split at h
      · rename_i k m ei
        have hi := int_rel ei hi
        split at h
        · rename_i hb
          obtain ⟨b, e1, hr⟩ : ∃ b, a.eval x' = .pointer (some b) ∧ VRel E r (.pointer (some (b.add (m.toNat * sz)))) ∧ ups = [] := by
            split at h
            · rename_i e
              obtain ⟨rfl, rfl⟩ := some_pair h
              rw [e] at hx
              obtain ⟨b, h1, h2⟩ := ptr_add (m.toNat * sz) hx
              exact ⟨b, h1, h2, rfl⟩
            · rename_i e
              obtain ⟨rfl, rfl⟩ := some_pair h
              rw [e] at hx
              obtain ⟨b, h1, h2⟩ := rptr_add (m.toNat * sz) hx
              exact ⟨b, h1, h2, rfl⟩
            · cases h
          obtain ⟨hr, rfl⟩ := hr
          refine .pure hw (v := .pointer (some (b.add (m.toNat * sz)))) ?_ hr
          simp [execOp, ho, e1, hi, Instr.indexAt, run_underlying hu, asIntOf, Instr.sureAddr, hb, run_sizeOf' hz]
        · cases h
      · cases h
    · cases h1
  · cases hc

theorem op_iaddrS (hw : WRel E) (hs : ARel E sl a) {sz : Nat} {x i : MX} (hc : chkOp P (.iaddrS sz x i) o.op = true) (h : opV cf sl E.H (.iaddrS sz x i) = some (r, ups)) : OpOk P E o a.eval r ups := by
  simp only [chkOp] at hc
  split at hc
  · rename_i t x' i' ho
    simp only [Bool.and_eq_true] at hc
    obtain ⟨⟨h1, h2⟩, h3⟩ := hc
    split at h1
    · rename_i e hu
      simp only [Bool.and_eq_true, decide_eq_true_eq] at h1
      obtain ⟨hz, hsz⟩ := h1
      have hx := ev_rel hs h2
      have hi := ev_rel hs h3
      simp only [opV] at h
      split at h
      · rename_i k m ei
        have hi := int_rel ei hi
        obtain ⟨b, n, c, e1, hb, hr, hu'⟩ : ∃ b n c, a.eval x' = .slice (some b) n c ∧ (0 ≤ m ∧ m < n) ∧ VRel E r (.pointer (some (b.add (m.toNat * sz)))) ∧ ups = [] := by
          split at h
          · rename_i n cs e
            split at h
            · rename_i hb
              obtain ⟨rfl, rfl⟩ := some_pair h
              rw [e] at hx
              simp only [VRel] at hx
              obtain ⟨ad, cap, h1, h2, h3, h4⟩ := hx
              have hs := h3 (by omega)
              obtain ⟨b, rfl⟩ := Option.isSome_iff_exists.1 hs
              refine ⟨b, n, cap, h1, hb, ?_, rfl⟩
              simp only [VRel]
              refine ⟨_, rfl, ?_⟩
              rcases h4 with rfl | ⟨bb, off, h5, h6, h7⟩
              · exact .inl (by simp)
              · cases h5
                exact .inr ⟨bb, off + m.toNat * sz, by rw [Addr.add_mid], h6, h7.drop _⟩
            · cases h
          · rename_i j ver off n sz' e
            split at h
            · rename_i hb
              obtain ⟨rfl, hb⟩ := hb
              obtain ⟨rfl, rfl⟩ := some_pair h
              rw [e] at hx
              simp only [VRel] at hx
              obtain ⟨ad, cap, h1, h2, h3, q, hq, hle, hf⟩ := hx
              have hs := h3 (by omega)
              obtain ⟨b, rfl⟩ := Option.isSome_iff_exists.1 hs
              refine ⟨b, n, cap, h1, hb, ?_, rfl⟩
              simp only [VRel]
              refine ⟨_, rfl, q, hq, hle, fun ev => ?_⟩
              have hf := hf ev
              have hp : PlacedS E j off cap sz' (some b) := by
                cases hb : q.body with
                | none => rw [hb] at hf; exact hf.elim
                | var cs => rw [hb] at hf; exact hf.2
                | row _ _ cs =>
                  rw [hb] at hf
                  rcases hf.2 with h | ⟨_, _, h, _⟩
                  · exact h
                  · cases h
              obtain ⟨bb, base, p1, p2, _⟩ := hp
              cases p2
              exact ⟨bb, base, p1, by rw [Addr.add_mid, Nat.add_assoc]⟩
            · cases h
          · cases h
        subst hu'
        refine .pure hw (v := .pointer (some (b.add (m.toNat * sz)))) ?_ hr
        simp [execOp, ho, e1, hi, Instr.indexAt, run_underlying hu, asIntOf, hb, run_sizeOf' hz]
      · cases h
    · cases h1
  · cases hc

end Go.Ev
