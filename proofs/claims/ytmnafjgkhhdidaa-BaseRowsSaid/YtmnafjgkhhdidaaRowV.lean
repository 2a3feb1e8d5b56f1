/- Rows: the document's order. -/
import Derived.Test.YtmnafjgkhhdidaaRowA
import Derived.Test.YtmnafjgkhhdidaaMeth
set_option linter.unusedSimpArgs false
set_option linter.unusedVariables false
set_option maxHeartbeats 4000000
set_option maxRecDepth 100000
namespace Go.Proofs.Ytmnafjgkhhdidaa
open Go.Ev
theorem rless_ev (r s : Rw) (hr : okW r) (hs : okW s) : cvF tab 61 [.agg (rowC r), .agg (rowC s)] = some (.bool (decide (ltR r s))) := by
  refine cvFA_R (mf := Mf.f61) rfl rfl (by kernel_rfl) ?_
  simp only [Mf.f61]
  have hinj := @keyR_inj r s hr hs
  have hlt : ltR r s ↔ (keyR r < keyR s ∨ (keyR r = keyR s ∧ (r.x < s.x ∨ (r.x = s.x ∧ r.y < s.y)))) := Iff.rfl
  have k1 := rkey_ev r.a r.b r.c r.d hr.a hr.b hr.c hr.d
  have k2 := rkey_ev s.a s.b s.c s.d hs.a hs.b hs.c hs.d
  by_cases hat : r.a = s.a ∧ r.b = s.b ∧ r.c = s.c ∧ r.d = s.d
  · have hk : keyR r = keyR s := by unfold keyR; rw [hat.1, hat.2.1, hat.2.2.1, hat.2.2.2]
    have hd : decide (ltR r s) = decide (r.x < s.x ∨ (r.x = s.x ∧ r.y < s.y)) := decide_eq_decide.2 (by rw [hlt]; omega)
    rw [hd]
    obtain ⟨a, b, c, d, x, y⟩ := r
    obtain ⟨a', b', c', d', x', y'⟩ := s
    obtain ⟨h1, h2, h3, h4⟩ := hat
    simp only at h1 h2 h3 h4
    subst h1 h2 h3 h4
    by_cases c1 : x = x'
    · subst c1
      by_cases c2 : y = y'
      · subst c2
        simp [beqI, bneI, mm_min2, mm_max2, mm_min3, mm_max3, startE, lkE, lkX, lkE_rest, sx, substE, opVA, objs0, List.replicate, XA_seq, XA_region, XOA_go, goE_someA, opV, ev, putA, layAll, XOA_nil, XA_skip_seq, XA_skip_nil, XOA_gd, goG_tA, goG_uA, binV, bi_add, bi_sub, bi_mul, bi_quo, bi_rem, bi_eql, bi_neq, bi_lss, bi_leq, bi_gtr, bi_geq, bi_shl, bi_shr, bi_and, bi_or, bi_xor, unV, XA_ret_nil, XA_ret_cons, endFA_r, endFA_n, endTA_r, endTA_n, endRA_r, endRA_n, endEA_r, endEA_n, List.take, fltR, resultsA, resAs, resA, XA_block, XA_cond, pickX_t, pickX_f, pickX_b, XA_skip_blk, XA_skip_lp, XA_exit_seq, XA_exit_lp, XA_exit_blk, XA_exit_nil, load1, Ev.loadCells, objCells, bodyCells, setCells, AV.flat, AV.flat1, backR, backV, backCell, mapO, AV.cells, AV.atom, AV.tree, fillV, repeatL, treeCell, freezeAll, eqCells, callV_T, callV_F, passN, passV, passCell, srcCells, sliceBounds, hiB, loB, thenQ_nA, thenQ_xA, thenQ_rA, runK_nA, runK_xA, runK_rA, wrap_i64, wrap_u64, wrap_u32, wrap_u8, wrap_u16, XA_round, normA, lkE, fixObjs, fixBody, fixV, fixCell, goN_someA, rowC, eqCells]
      · simp [beqI, bneI, mm_min2, mm_max2, mm_min3, mm_max3, startE, lkE, lkX, lkE_rest, sx, substE, opVA, objs0, List.replicate, XA_seq, XA_region, XOA_go, goE_someA, opV, ev, putA, layAll, XOA_nil, XA_skip_seq, XA_skip_nil, XOA_gd, goG_tA, goG_uA, binV, bi_add, bi_sub, bi_mul, bi_quo, bi_rem, bi_eql, bi_neq, bi_lss, bi_leq, bi_gtr, bi_geq, bi_shl, bi_shr, bi_and, bi_or, bi_xor, unV, XA_ret_nil, XA_ret_cons, endFA_r, endFA_n, endTA_r, endTA_n, endRA_r, endRA_n, endEA_r, endEA_n, List.take, fltR, resultsA, resAs, resA, XA_block, XA_cond, pickX_t, pickX_f, pickX_b, XA_skip_blk, XA_skip_lp, XA_exit_seq, XA_exit_lp, XA_exit_blk, XA_exit_nil, load1, Ev.loadCells, objCells, bodyCells, setCells, AV.flat, AV.flat1, backR, backV, backCell, mapO, AV.cells, AV.atom, AV.tree, fillV, repeatL, treeCell, freezeAll, eqCells, callV_T, callV_F, passN, passV, passCell, srcCells, sliceBounds, hiB, loB, thenQ_nA, thenQ_xA, thenQ_rA, runK_nA, runK_xA, runK_rA, wrap_i64, wrap_u64, wrap_u32, wrap_u8, wrap_u16, XA_round, normA, lkE, fixObjs, fixBody, fixV, fixCell, goN_someA, rowC, eqCells, c2]
    · simp [beqI, bneI, mm_min2, mm_max2, mm_min3, mm_max3, startE, lkE, lkX, lkE_rest, sx, substE, opVA, objs0, List.replicate, XA_seq, XA_region, XOA_go, goE_someA, opV, ev, putA, layAll, XOA_nil, XA_skip_seq, XA_skip_nil, XOA_gd, goG_tA, goG_uA, binV, bi_add, bi_sub, bi_mul, bi_quo, bi_rem, bi_eql, bi_neq, bi_lss, bi_leq, bi_gtr, bi_geq, bi_shl, bi_shr, bi_and, bi_or, bi_xor, unV, XA_ret_nil, XA_ret_cons, endFA_r, endFA_n, endTA_r, endTA_n, endRA_r, endRA_n, endEA_r, endEA_n, List.take, fltR, resultsA, resAs, resA, XA_block, XA_cond, pickX_t, pickX_f, pickX_b, XA_skip_blk, XA_skip_lp, XA_exit_seq, XA_exit_lp, XA_exit_blk, XA_exit_nil, load1, Ev.loadCells, objCells, bodyCells, setCells, AV.flat, AV.flat1, backR, backV, backCell, mapO, AV.cells, AV.atom, AV.tree, fillV, repeatL, treeCell, freezeAll, eqCells, callV_T, callV_F, passN, passV, passCell, srcCells, sliceBounds, hiB, loB, thenQ_nA, thenQ_xA, thenQ_rA, runK_nA, runK_xA, runK_rA, wrap_i64, wrap_u64, wrap_u32, wrap_u8, wrap_u16, XA_round, normA, lkE, fixObjs, fixBody, fixV, fixCell, goN_someA, rowC, eqCells, c1]
  · have hne : ¬ keyR r = keyR s := fun h => hat (hinj h)
    have hd : decide (ltR r s) = decide (keyR r < keyR s) := decide_eq_decide.2 (by rw [hlt]; omega)
    rw [hd]
    have hz : (decide (r.a = s.a) && (decide (r.b = s.b) && (decide (r.c = s.c) && decide (r.d = s.d)))) = false := by
      rw [← Bool.decide_and, ← Bool.decide_and, ← Bool.decide_and]
      exact decide_eq_false hat
    unfold keyR
    simp [beqI, bneI, mm_min2, mm_max2, mm_min3, mm_max3, startE, lkE, lkX, lkE_rest, sx, substE, opVA, objs0, List.replicate, XA_seq, XA_region, XOA_go, goE_someA, opV, ev, putA, layAll, XOA_nil, XA_skip_seq, XA_skip_nil, XOA_gd, goG_tA, goG_uA, binV, bi_add, bi_sub, bi_mul, bi_quo, bi_rem, bi_eql, bi_neq, bi_lss, bi_leq, bi_gtr, bi_geq, bi_shl, bi_shr, bi_and, bi_or, bi_xor, unV, XA_ret_nil, XA_ret_cons, endFA_r, endFA_n, endTA_r, endTA_n, endRA_r, endRA_n, endEA_r, endEA_n, List.take, fltR, resultsA, resAs, resA, XA_block, XA_cond, pickX_t, pickX_f, pickX_b, XA_skip_blk, XA_skip_lp, XA_exit_seq, XA_exit_lp, XA_exit_blk, XA_exit_nil, load1, Ev.loadCells, objCells, bodyCells, setCells, AV.flat, AV.flat1, backR, backV, backCell, mapO, AV.cells, AV.atom, AV.tree, fillV, repeatL, treeCell, freezeAll, eqCells, callV_T, callV_F, passN, passV, passCell, srcCells, sliceBounds, hiB, loB, thenQ_nA, thenQ_xA, thenQ_rA, runK_nA, runK_xA, runK_rA, wrap_i64, wrap_u64, wrap_u32, wrap_u8, wrap_u16, rowC, eqCells, hz, k1, k2]
def insR (r : Rw) : List Rw → List Rw
  | [] => [r]
  | y :: t => if ltR r y then r :: y :: t else y :: insR r t
theorem insR_at (r : Rw) : ∀ (l : List Rw) (k : Nat), k ≤ l.length → (∀ j (h : j < l.length), j < k → ¬ ltR r l[j]) → (∀ h : k < l.length, ltR r l[k]) → insR r l = l.take k ++ r :: l.drop k
  | [], k, hk, _, _ => by
    have : k = 0 := by simpa using hk
    subst this; rfl
  | y :: t, 0, _, _, h => by
    have := h (by simp)
    simp only [List.getElem_cons_zero] at this
    simp [insR, this]
  | y :: t, k + 1, hk, h1, h2 => by
    have h0 := h1 0 (by simp) (by omega)
    simp only [List.getElem_cons_zero] at h0
    have ih := insR_at r t k (by simpa using hk) (fun j hj hjk => by
      have := h1 (j + 1) (by simp; omega) (by omega)
      simpa using this) (fun h => by
      have := h2 (by simp; omega)
      simpa using this)
    simp [insR, h0, ih]
theorem insR_len (r : Rw) : ∀ l : List Rw, (insR r l).length = l.length + 1
  | [] => rfl
  | y :: t => by unfold insR; split <;> simp [insR_len r t]
theorem insR_perm (r : Rw) : ∀ l : List Rw, (insR r l).Perm (r :: l)
  | [] => .refl _
  | y :: t => by
    unfold insR
    split
    · exact .refl _
    · exact ((insR_perm r t).cons y).trans (.swap r y t)
end Go.Proofs.Ytmnafjgkhhdidaa
