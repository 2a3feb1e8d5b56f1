/- Queries drilled down, sliced. -/
import Derived.Test.YtambpbcdnhekbaaQK
set_option linter.unusedSimpArgs false
set_option linter.unusedVariables false
set_option maxHeartbeats 8000000
set_option maxRecDepth 100000
namespace Go.Proofs.Ytambpbcdnhekbaa
open Go.Ev
theorem drill_q (ds : List Dm) (m : Int) (q : Qy) (d : Int) (hC : okC ds) (hq : okQ q) :
    cvT tab 24 [.agg [.ro ds.length (flatD ds), .int .i64 m], .agg (qyC q), .int .i64 d] = some (resQ (drillQ ds m q d)) := by
  refine cvTA_R (mf := Mf.f24) rfl rfl (by kernel_rfl) ?_
  simp only [Mf.f24]
  have e1 := has_q ds m q d hC hq
  unfold drillQ
  cases g : hasQ ds m q d with
  | false =>
    rw [g] at e1
    obtain ⟨a, b, c, e, F, t, me, fn, li⟩ := q
    simp only [qyC] at e1 ⊢
    simp [beqI, bneI, mm_min2, mm_max2, mm_min3, mm_max3, startE, lkE, lkX, lkE_rest, sx, substE, opVA, objs0, List.replicate, XA_seq, XA_region, XOA_go, goE_someA, opV, ev, putA, layAll, XOA_nil, XA_skip_seq, XA_skip_nil, XOA_gd, goG_tA, goG_uA, binV, bi_add, bi_sub, bi_mul, bi_quo, bi_rem, bi_eql, bi_neq, bi_lss, bi_leq, bi_gtr, bi_geq, bi_shl, bi_shr, bi_and, bi_or, bi_xor, unV, XA_ret_nil, XA_ret_cons, endFA_r, endFA_n, endTA_r, endTA_n, endRA_r, endRA_n, fltR, resultsA, resAs, resA, XA_block, XA_cond, pickX_t, pickX_f, pickX_b, XA_skip_blk, XA_skip_lp, XA_exit_seq, XA_exit_lp, XA_exit_blk, XA_exit_nil, load1, Ev.loadCells, objCells, bodyCells, setCells, AV.flat, AV.flat1, backR, backV, backCell, mapO, AV.cells, AV.atom, AV.tree, fillV, repeatL, treeCell, freezeAll, eqCells, callV_T, callV_F, passN, passV, passCell, srcCells, sliceBounds, hiB, loB, thenQ_nA, thenQ_xA, thenQ_rA, runK_nA, runK_xA, runK_rA, wrap_i64, wrap_u64, wrap_u32, wrap_u8, wrap_u16, e1, resQ, zeroQ, flatF_nil, qyC]
  | true =>
    rw [g] at e1
    have hp := hasQ_parts g
    obtain ⟨hg, h0, h1, h4, h5, h6, h7⟩ := hp
    have hgp := goodQ_parts hg
    have hF := hgp.2.2.1
    have e2 := own0_ev q (by omega) (fun f hf => by have := fixG_ms h6 (hF f hf); omega)
    have hnb := hq.n.at h4
    have e3 := fun (x : Int) (hx : byte x) => told_q ds m (q.setN d.toNat x) hC (setN_ok hq hx)
    obtain ⟨k, rfl⟩ : ∃ k : Nat, d = k := ⟨d.toNat, by omega⟩
    simp only [Int.toNat_natCast] at *
    by_cases c : gI q.n k = 0
    · rw [if_neg (fun h => h.2 c)]
      have hgn := gI_n q k h4
      rw [hgn] at c
      obtain ⟨a, b, c', e, F, t, me, fn, li⟩ := q
      simp only [qyC] at e1 c ⊢
      have h4 : k = 0 ∨ k = 1 ∨ k = 2 ∨ k = 3 := by omega
      rcases h4 with rfl | rfl | rfl | rfl <;> simp at c e1 <;> subst c <;> simp [beqI, bneI, mm_min2, mm_max2, mm_min3, mm_max3, startE, lkE, lkX, lkE_rest, sx, substE, opVA, objs0, List.replicate, XA_seq, XA_region, XOA_go, goE_someA, opV, ev, putA, layAll, XOA_nil, XA_skip_seq, XA_skip_nil, XOA_gd, goG_tA, goG_uA, binV, bi_add, bi_sub, bi_mul, bi_quo, bi_rem, bi_eql, bi_neq, bi_lss, bi_leq, bi_gtr, bi_geq, bi_shl, bi_shr, bi_and, bi_or, bi_xor, unV, XA_ret_nil, XA_ret_cons, endFA_r, endFA_n, endTA_r, endTA_n, endRA_r, endRA_n, fltR, resultsA, resAs, resA, XA_block, XA_cond, pickX_t, pickX_f, pickX_b, XA_skip_blk, XA_skip_lp, XA_exit_seq, XA_exit_lp, XA_exit_blk, XA_exit_nil, load1, Ev.loadCells, objCells, bodyCells, setCells, AV.flat, AV.flat1, backR, backV, backCell, mapO, AV.cells, AV.atom, AV.tree, fillV, repeatL, treeCell, freezeAll, eqCells, callV_T, callV_F, passN, passV, passCell, srcCells, sliceBounds, hiB, loB, thenQ_nA, thenQ_xA, thenQ_rA, runK_nA, runK_xA, runK_rA, wrap_i64, wrap_u64, wrap_u32, wrap_u8, wrap_u16, e1, resQ, zeroQ, flatF_nil, qyC]
    · rw [if_pos ⟨trivial, c⟩]
      have hb : byte (gI q.n k - 1) := ⟨by have := hnb.1; omega, by have := hnb.2; omega⟩
      have e3 := e3 _ hb
      have hw8 : IntKind.u8.wrap (gI q.n k - 1) = gI q.n k - 1 := wrap_u8 hb.1 (by have := hb.2; omega)
      have hgn := gI_n q k h4
      generalize toldQ ds m (q.setN k (gI q.n k - 1)) = Z at *
      rw [hgn] at c hw8 e3
      obtain ⟨a, b, c', e, F, t, me, fn, li⟩ := q
      simp only [resQ] at e3 ⊢
      generalize Z.isSome = kk at *
      generalize Z.getD zeroQ = y at *
      obtain ⟨a2, b2, c2, e2', F2, t2, me2, fn2, li2⟩ := y
      simp only [qyC] at e1 e2 e3 ⊢
      clear hF hgp hq
      have h4 : k = 0 ∨ k = 1 ∨ k = 2 ∨ k = 3 := by omega
      rcases h4 with rfl | rfl | rfl | rfl <;> simp [Qy.setN] at c e1 hw8 e3 <;> simp [beqI, bneI, mm_min2, mm_max2, mm_min3, mm_max3, startE, lkE, lkX, lkE_rest, sx, substE, opVA, objs0, List.replicate, XA_seq, XA_region, XOA_go, goE_someA, opV, ev, putA, layAll, XOA_nil, XA_skip_seq, XA_skip_nil, XOA_gd, goG_tA, goG_uA, binV, bi_add, bi_sub, bi_mul, bi_quo, bi_rem, bi_eql, bi_neq, bi_lss, bi_leq, bi_gtr, bi_geq, bi_shl, bi_shr, bi_and, bi_or, bi_xor, unV, XA_ret_nil, XA_ret_cons, endFA_r, endFA_n, endTA_r, endTA_n, endRA_r, endRA_n, fltR, resultsA, resAs, resA, XA_block, XA_cond, pickX_t, pickX_f, pickX_b, XA_skip_blk, XA_skip_lp, XA_exit_seq, XA_exit_lp, XA_exit_blk, XA_exit_nil, load1, Ev.loadCells, objCells, bodyCells, setCells, AV.flat, AV.flat1, backR, backV, backCell, mapO, AV.cells, AV.atom, AV.tree, fillV, repeatL, treeCell, freezeAll, eqCells, callV_T, callV_F, passN, passV, passCell, srcCells, sliceBounds, hiB, loB, thenQ_nA, thenQ_xA, thenQ_rA, runK_nA, runK_xA, runK_rA, wrap_i64, wrap_u64, wrap_u32, wrap_u8, wrap_u16, e1, e2, e3, c, hw8]
theorem whole_ok {ds : List Dm} {m : Int} (g : goodC ds m = true) : okN (wholeN ds m) := by
  unfold wholeN
  rw [if_pos g]
  have h0 := wOf_le g 0
  have h1 := wOf_le g 1
  have h2 := wOf_le g 2
  have h3 := wOf_le g 3
  exact okN4 ⟨by omega, by omega⟩ ⟨by omega, by omega⟩ ⟨by omega, by omega⟩ ⟨by omega, by omega⟩
theorem slice_q (ds : List Dm) (m : Int) (q : Qy) (d l x : Int) (hC : okC ds) (hq : okQ q) (hd : inI d) (hl : inI l) (hx : inI x) :
    cvT tab 35 [.agg [.ro ds.length (flatD ds), .int .i64 m], .agg (qyC q), .int .i64 d, .int .i64 l, .int .i64 x] = some (resQ (sliceQ ds m q d l x)) := by
  refine cvTA_R (mf := Mf.f35) rfl rfl (by kernel_rfl) ?_
  simp only [Mf.f35]
  have e1 := dice_q ds m q d l [x] hC hq hd hl ⟨by simp, by simpa using hx⟩ (by simp)
  unfold sliceQ
  have hp : ∀ p, diceQ ds m q d l [x] = some p → hasQ ds m q d = true ∧ p = q.withF (q.F ++ [⟨d, l, [x]⟩]) := by
    intro p h
    unfold diceQ toldQ at h
    split at h
    · rename_i g
      split at h
      · cases h; exact ⟨g, rfl⟩
      · cases h
    · cases h
  cases g : diceQ ds m q d l [x] with
  | none =>
    rw [g] at e1
    obtain ⟨a, b, c, e, F, t, me, fn, li⟩ := q
    simp [resQ, rI, zeroQ, qyC, flatF_nil] at e1
    simp [beqI, bneI, mm_min2, mm_max2, mm_min3, mm_max3, startE, lkE, lkX, lkE_rest, sx, substE, opVA, objs0, List.replicate, XA_seq, XA_region, XOA_go, goE_someA, opV, ev, putA, layAll, XOA_nil, XA_skip_seq, XA_skip_nil, XOA_gd, goG_tA, goG_uA, binV, bi_add, bi_sub, bi_mul, bi_quo, bi_rem, bi_eql, bi_neq, bi_lss, bi_leq, bi_gtr, bi_geq, bi_shl, bi_shr, bi_and, bi_or, bi_xor, unV, XA_ret_nil, XA_ret_cons, endFA_r, endFA_n, endTA_r, endTA_n, endRA_r, endRA_n, fltR, resultsA, resAs, resA, XA_block, XA_cond, pickX_t, pickX_f, pickX_b, XA_skip_blk, XA_skip_lp, XA_exit_seq, XA_exit_lp, XA_exit_blk, XA_exit_nil, load1, Ev.loadCells, objCells, bodyCells, setCells, AV.flat, AV.flat1, backR, backV, backCell, mapO, AV.cells, AV.atom, AV.tree, fillV, repeatL, treeCell, freezeAll, eqCells, callV_T, callV_F, passN, passV, passCell, srcCells, sliceBounds, hiB, loB, thenQ_nA, thenQ_xA, thenQ_rA, runK_nA, runK_xA, runK_rA, wrap_i64, wrap_u64, wrap_u32, wrap_u8, wrap_u16, qyC, e1, resQ, zeroQ, flatF_nil]
  | some p =>
    rw [g] at e1
    obtain ⟨h1, h2⟩ := hp p g
    obtain ⟨hg, h0, h1', h4, h5, h6, h7⟩ := hasQ_parts h1
    have hq2 : okQ p := by
      rw [h2]
      exact withF_ok hq (by rw [List.length_append]; simp; omega) (fun f hf => by
        rcases List.mem_append.1 hf with h | h
        · exact hq.F.2 f h
        · simp at h; subst h; exact ⟨hd, hl, by simp, by simpa using hx⟩)
    have hw := whole_ok h6
    have e2 := whole_ev ds m hC
    have e3 := told_q ds m _ hC (setN_ok (k := d.toNat) hq2 (hw.at h4))
    obtain ⟨k, rfl⟩ : ∃ k : Nat, d = k := ⟨d.toNat, by omega⟩
    simp only [Int.toNat_natCast] at *
    clear h2 hp g hq2 h1
    generalize hZ : toldQ ds m (p.setN k (gI (wholeN ds m) k)) = Z at *
    clear hZ
    generalize wholeN ds m = W at *
    obtain ⟨w0, w1, w2, w3, rfl, -, -, -, -⟩ := four hw
    obtain ⟨a, b, c', e, F, t, me, fn, li⟩ := q
    obtain ⟨a', b', c'', e', F', t', me', fn', li'⟩ := p
    simp only [resQ] at e3 ⊢
    generalize Z.isSome = kk at *
    generalize Z.getD zeroQ = y at *
    obtain ⟨a2, b2, c2, e2', F2, t2, me2, fn2, li2⟩ := y
    simp [resQ, rI, qyC] at e1
    simp only [qyC, List.map] at e2 e3 ⊢
    have h4 : k = 0 ∨ k = 1 ∨ k = 2 ∨ k = 3 := by omega
    rcases h4 with rfl | rfl | rfl | rfl <;> simp [Qy.setN, gI] at e1 e3 <;> simp [beqI, bneI, mm_min2, mm_max2, mm_min3, mm_max3, startE, lkE, lkX, lkE_rest, sx, substE, opVA, objs0, List.replicate, XA_seq, XA_region, XOA_go, goE_someA, opV, ev, putA, layAll, XOA_nil, XA_skip_seq, XA_skip_nil, XOA_gd, goG_tA, goG_uA, binV, bi_add, bi_sub, bi_mul, bi_quo, bi_rem, bi_eql, bi_neq, bi_lss, bi_leq, bi_gtr, bi_geq, bi_shl, bi_shr, bi_and, bi_or, bi_xor, unV, XA_ret_nil, XA_ret_cons, endFA_r, endFA_n, endTA_r, endTA_n, endRA_r, endRA_n, fltR, resultsA, resAs, resA, XA_block, XA_cond, pickX_t, pickX_f, pickX_b, XA_skip_blk, XA_skip_lp, XA_exit_seq, XA_exit_lp, XA_exit_blk, XA_exit_nil, load1, Ev.loadCells, objCells, bodyCells, setCells, AV.flat, AV.flat1, backR, backV, backCell, mapO, AV.cells, AV.atom, AV.tree, fillV, repeatL, treeCell, freezeAll, eqCells, callV_T, callV_F, passN, passV, passCell, srcCells, sliceBounds, hiB, loB, thenQ_nA, thenQ_xA, thenQ_rA, runK_nA, runK_xA, runK_rA, wrap_i64, wrap_u64, wrap_u32, wrap_u8, wrap_u16, e1, e2, e3]
end Go.Proofs.Ytambpbcdnhekbaa
