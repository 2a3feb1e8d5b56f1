/- The base: the mass with a row's more, or less. -/
import Derived.Test.YtpohmfihpnineaaBaA
set_option linter.unusedSimpArgs false
set_option linter.unusedVariables false
set_option maxHeartbeats 4000000
set_option maxRecDepth 100000
namespace Go.Proofs.Ytpohmfihpnineaa
open Go.Ev
def weighV (S : Bs) (r : Rw) (t : Int) : Int × Int × Bool :=
  if MM < absI r.x then (S.mx, S.my, false) else if MM < S.mx + t * absI r.x then (S.mx + t * absI r.x, S.my, false) else
  if MM < absI r.y then (S.mx + t * absI r.x, S.my, false) else if MM < S.my + t * absI r.y then (S.mx + t * absI r.x, S.my + t * absI r.y, false) else
  (S.mx + t * absI r.x, S.my + t * absI r.y, true)
structure okM (S : Bs) : Prop where
  x0 : 0 ≤ S.mx
  x1 : S.mx ≤ MM
  y0 : 0 ≤ S.my
  y1 : S.my ≤ MM
theorem weigh_cf (ds : List Dm) (m : Int) (S : Bs) (r : Rw) (t : Int) (hS : okM S) (hr : okW r) (ht : t = 1 ∨ t = -1) : ∃ H, cfT tab 51 [.ptr 0 0 0, .agg (rowC r), .int .i64 t] [bV 0 1 0 ds m S, bM 0 S] =
    some (.tup [.agg [.int .i64 (weighV S r t).1, .int .i64 (weighV S r t).2.1], .bool (weighV S r t).2.2], [bV 0 1 0 ds m S, bM 0 S] ++ H) := by
  have s1 := csize_ev r.x hr.x
  have s2 := csize_ev r.y hr.y
  have n1 := absI_nn r.x
  have n2 := absI_nn r.y
  obtain ⟨x0, x1, y0, y1⟩ := hS
  unfold weighV MM at *
  generalize absI r.x = X at *
  generalize absI r.y = Y at *
  have tb : ∀ z : Int, 0 ≤ z → z ≤ 2305843009213693952 → -2305843009213693952 ≤ t * z ∧ t * z ≤ 2305843009213693952 := by
    intro z h1 h2
    rcases ht with rfl | rfl <;> omega
  have w1 : X ≤ 2305843009213693952 → IntKind.i64.wrap X = X := fun h => wrap_i64 (by omega) (by omega)
  have w2 : Y ≤ 2305843009213693952 → IntKind.i64.wrap Y = Y := fun h => wrap_i64 (by omega) (by omega)
  have w3 : X ≤ 2305843009213693952 → IntKind.i64.wrap (t * X) = t * X := fun h => wrap_i64 (by have := tb X n1 h; omega) (by have := tb X n1 h; omega)
  have w4 : Y ≤ 2305843009213693952 → IntKind.i64.wrap (t * Y) = t * Y := fun h => wrap_i64 (by have := tb Y n2 h; omega) (by have := tb Y n2 h; omega)
  have w5 : X ≤ 2305843009213693952 → IntKind.i64.wrap (S.mx + t * X) = S.mx + t * X := fun h => wrap_i64 (by have := tb X n1 h; omega) (by have := tb X n1 h; omega)
  have w6 : Y ≤ 2305843009213693952 → IntKind.i64.wrap (S.my + t * Y) = S.my + t * Y := fun h => wrap_i64 (by have := tb Y n2 h; omega) (by have := tb Y n2 h; omega)
  have v1 : IntKind.i64.wrap 1 = 1 := rfl
  have v2 : IntKind.i64.wrap 2 = 2 := rfl
  refine cfTA_E (mf := Mf.f51) rfl rfl (by kernel_rfl) ?_
  simp only [Mf.f51]
  by_cases c1 : 2305843009213693952 < X
  · simp [beqI, bneI, mm_min2, mm_max2, mm_min3, mm_max3, startE, lkE, lkX, lkE_rest, sx, substE, opVA, objs0, List.replicate, XA_seq, XA_region, XOA_go, goE_someA, opV, ev, putA, layAll, XOA_nil, XA_skip_seq, XA_skip_nil, XOA_gd, goG_tA, goG_uA, binV, bi_add, bi_sub, bi_mul, bi_quo, bi_rem, bi_eql, bi_neq, bi_lss, bi_leq, bi_gtr, bi_geq, bi_shl, bi_shr, bi_and, bi_or, bi_xor, unV, XA_ret_nil, XA_ret_cons, endFA_r, endFA_n, endTA_r, endTA_n, endRA_r, endRA_n, endEA_r, endEA_n, List.take, fltR, resultsA, resAs, resA, XA_block, XA_cond, pickX_t, pickX_f, pickX_b, XA_skip_blk, XA_skip_lp, XA_exit_seq, XA_exit_lp, XA_exit_blk, XA_exit_nil, load1, Ev.loadCells, objCells, bodyCells, setCells, AV.flat, AV.flat1, backR, backV, backCell, mapO, AV.cells, AV.atom, AV.tree, fillV, repeatL, treeCell, freezeAll, eqCells, callV_T, callV_F, passN, passV, passCell, srcCells, sliceBounds, hiB, loB, thenQ_nA, thenQ_xA, thenQ_rA, runK_nA, runK_xA, runK_rA, wrap_i64, wrap_u64, wrap_u32, wrap_u8, wrap_u16, XA_round, normA, lkE, fixObjs, fixBody, fixV, fixCell, goN_someA, bV, bM, s1, c1, rowC]
  · have c1' : X ≤ 2305843009213693952 := by omega
    have w1 := w1 c1'
    have w3 := w3 c1'
    have w5 := w5 c1'
    by_cases c2 : 2305843009213693952 < S.mx + t * X
    · simp [beqI, bneI, mm_min2, mm_max2, mm_min3, mm_max3, startE, lkE, lkX, lkE_rest, sx, substE, opVA, objs0, List.replicate, XA_seq, XA_region, XOA_go, goE_someA, opV, ev, putA, layAll, XOA_nil, XA_skip_seq, XA_skip_nil, XOA_gd, goG_tA, goG_uA, binV, bi_add, bi_sub, bi_mul, bi_quo, bi_rem, bi_eql, bi_neq, bi_lss, bi_leq, bi_gtr, bi_geq, bi_shl, bi_shr, bi_and, bi_or, bi_xor, unV, XA_ret_nil, XA_ret_cons, endFA_r, endFA_n, endTA_r, endTA_n, endRA_r, endRA_n, endEA_r, endEA_n, List.take, fltR, resultsA, resAs, resA, XA_block, XA_cond, pickX_t, pickX_f, pickX_b, XA_skip_blk, XA_skip_lp, XA_exit_seq, XA_exit_lp, XA_exit_blk, XA_exit_nil, load1, Ev.loadCells, objCells, bodyCells, setCells, AV.flat, AV.flat1, backR, backV, backCell, mapO, AV.cells, AV.atom, AV.tree, fillV, repeatL, treeCell, freezeAll, eqCells, callV_T, callV_F, passN, passV, passCell, srcCells, sliceBounds, hiB, loB, thenQ_nA, thenQ_xA, thenQ_rA, runK_nA, runK_xA, runK_rA, wrap_i64, wrap_u64, wrap_u32, wrap_u8, wrap_u16, XA_round, normA, lkE, fixObjs, fixBody, fixV, fixCell, goN_someA, bV, bM, s1, c1, c1', c2, w1, w3, w5, rowC]
    · by_cases c3 : 2305843009213693952 < Y
      · simp [beqI, bneI, mm_min2, mm_max2, mm_min3, mm_max3, startE, lkE, lkX, lkE_rest, sx, substE, opVA, objs0, List.replicate, XA_seq, XA_region, XOA_go, goE_someA, opV, ev, putA, layAll, XOA_nil, XA_skip_seq, XA_skip_nil, XOA_gd, goG_tA, goG_uA, binV, bi_add, bi_sub, bi_mul, bi_quo, bi_rem, bi_eql, bi_neq, bi_lss, bi_leq, bi_gtr, bi_geq, bi_shl, bi_shr, bi_and, bi_or, bi_xor, unV, XA_ret_nil, XA_ret_cons, endFA_r, endFA_n, endTA_r, endTA_n, endRA_r, endRA_n, endEA_r, endEA_n, List.take, fltR, resultsA, resAs, resA, XA_block, XA_cond, pickX_t, pickX_f, pickX_b, XA_skip_blk, XA_skip_lp, XA_exit_seq, XA_exit_lp, XA_exit_blk, XA_exit_nil, load1, Ev.loadCells, objCells, bodyCells, setCells, AV.flat, AV.flat1, backR, backV, backCell, mapO, AV.cells, AV.atom, AV.tree, fillV, repeatL, treeCell, freezeAll, eqCells, callV_T, callV_F, passN, passV, passCell, srcCells, sliceBounds, hiB, loB, thenQ_nA, thenQ_xA, thenQ_rA, runK_nA, runK_xA, runK_rA, wrap_i64, wrap_u64, wrap_u32, wrap_u8, wrap_u16, XA_round, normA, lkE, fixObjs, fixBody, fixV, fixCell, goN_someA, bV, bM, s1, s2, c1, c1', c2, c3, w1, w3, w5, rowC]
      · have c3' : Y ≤ 2305843009213693952 := by omega
        have w2 := w2 c3'
        have w4 := w4 c3'
        have w6 := w6 c3'
        by_cases c4 : 2305843009213693952 < S.my + t * Y
        · simp [beqI, bneI, mm_min2, mm_max2, mm_min3, mm_max3, startE, lkE, lkX, lkE_rest, sx, substE, opVA, objs0, List.replicate, XA_seq, XA_region, XOA_go, goE_someA, opV, ev, putA, layAll, XOA_nil, XA_skip_seq, XA_skip_nil, XOA_gd, goG_tA, goG_uA, binV, bi_add, bi_sub, bi_mul, bi_quo, bi_rem, bi_eql, bi_neq, bi_lss, bi_leq, bi_gtr, bi_geq, bi_shl, bi_shr, bi_and, bi_or, bi_xor, unV, XA_ret_nil, XA_ret_cons, endFA_r, endFA_n, endTA_r, endTA_n, endRA_r, endRA_n, endEA_r, endEA_n, List.take, fltR, resultsA, resAs, resA, XA_block, XA_cond, pickX_t, pickX_f, pickX_b, XA_skip_blk, XA_skip_lp, XA_exit_seq, XA_exit_lp, XA_exit_blk, XA_exit_nil, load1, Ev.loadCells, objCells, bodyCells, setCells, AV.flat, AV.flat1, backR, backV, backCell, mapO, AV.cells, AV.atom, AV.tree, fillV, repeatL, treeCell, freezeAll, eqCells, callV_T, callV_F, passN, passV, passCell, srcCells, sliceBounds, hiB, loB, thenQ_nA, thenQ_xA, thenQ_rA, runK_nA, runK_xA, runK_rA, wrap_i64, wrap_u64, wrap_u32, wrap_u8, wrap_u16, XA_round, normA, lkE, fixObjs, fixBody, fixV, fixCell, goN_someA, bV, bM, s1, s2, c1, c1', c2, c3, c3', c4, w1, w2, w3, w4, w5, w6, rowC]
        · simp [beqI, bneI, mm_min2, mm_max2, mm_min3, mm_max3, startE, lkE, lkX, lkE_rest, sx, substE, opVA, objs0, List.replicate, XA_seq, XA_region, XOA_go, goE_someA, opV, ev, putA, layAll, XOA_nil, XA_skip_seq, XA_skip_nil, XOA_gd, goG_tA, goG_uA, binV, bi_add, bi_sub, bi_mul, bi_quo, bi_rem, bi_eql, bi_neq, bi_lss, bi_leq, bi_gtr, bi_geq, bi_shl, bi_shr, bi_and, bi_or, bi_xor, unV, XA_ret_nil, XA_ret_cons, endFA_r, endFA_n, endTA_r, endTA_n, endRA_r, endRA_n, endEA_r, endEA_n, List.take, fltR, resultsA, resAs, resA, XA_block, XA_cond, pickX_t, pickX_f, pickX_b, XA_skip_blk, XA_skip_lp, XA_exit_seq, XA_exit_lp, XA_exit_blk, XA_exit_nil, load1, Ev.loadCells, objCells, bodyCells, setCells, AV.flat, AV.flat1, backR, backV, backCell, mapO, AV.cells, AV.atom, AV.tree, fillV, repeatL, treeCell, freezeAll, eqCells, callV_T, callV_F, passN, passV, passCell, srcCells, sliceBounds, hiB, loB, thenQ_nA, thenQ_xA, thenQ_rA, runK_nA, runK_xA, runK_rA, wrap_i64, wrap_u64, wrap_u32, wrap_u8, wrap_u16, XA_round, normA, lkE, fixObjs, fixBody, fixV, fixCell, goN_someA, bV, bM, s1, s2, c1, c1', c2, c3, c3', c4, w1, w2, w3, w4, w5, w6, rowC]
end Go.Proofs.Ytpohmfihpnineaa
