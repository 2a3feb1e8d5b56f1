/- Rows: held against each other; one order. -/
import Derived.Test.YtpohmfihpnineaaPgB
import Derived.Test.YtpohmfihpnineaaRowSorts
set_option linter.unusedSimpArgs false
set_option linter.unusedVariables false
set_option maxHeartbeats 4000000
set_option maxRecDepth 100000
namespace Go.Proofs.Ytpohmfihpnineaa
open Go.Ev
theorem rwsame_ev (l : List Rw) (hn : l.length ≤ 1000) : cvF tab 15 [rW l, rW l] = some (.bool true) := by
  refine cvFA_R (mf := Mf.f15) rfl rfl (by kernel_rfl) ?_
  simp only [Mf.f15]
  simp [beqI, bneI, mm_min2, mm_max2, mm_min3, mm_max3, startE, lkE, lkX, lkE_rest, sx, substE, opVA, objs0, List.replicate, XA_seq, XA_region, XOA_go, goE_someA, opV, ev, putA, layAll, XOA_nil, XA_skip_seq, XA_skip_nil, XOA_gd, goG_tA, goG_uA, binV, bi_add, bi_sub, bi_mul, bi_quo, bi_rem, bi_eql, bi_neq, bi_lss, bi_leq, bi_gtr, bi_geq, bi_shl, bi_shr, bi_and, bi_or, bi_xor, unV, XA_ret_nil, XA_ret_cons, endFA_r, endFA_n, endTA_r, endTA_n, endRA_r, endRA_n, endEA_r, endEA_n, List.take, fltR, resultsA, resAs, resA, XA_block, XA_cond, pickX_t, pickX_f, pickX_b, XA_skip_blk, XA_skip_lp, XA_exit_seq, XA_exit_lp, XA_exit_blk, XA_exit_nil, load1, Ev.loadCells, objCells, bodyCells, setCells, AV.flat, AV.flat1, backR, backV, backCell, mapO, AV.cells, AV.atom, AV.tree, fillV, repeatL, treeCell, freezeAll, eqCells, callV_T, callV_F, passN, passV, passCell, srcCells, sliceBounds, hiB, loB, thenQ_nA, thenQ_xA, thenQ_rA, runK_nA, runK_xA, runK_rA, wrap_i64, wrap_u64, wrap_u32, wrap_u8, wrap_u16, rW]
  refine XA_for (fun i => ⟨[(0, .ro l.length (flatW l)), (1, .ro l.length (flatW l)), (5, .int .i64 i)], []⟩)
    (fun _ => True) l.length 0 (Nat.zero_le _) (by simp [AV.atom, normA, lkE, fixObjs, fixBody, fixV, fixCell]) trivial ?_ ?_
  · intro i _ hi _
    have hi' : (i : Int) < l.length := by omega
    have hd := dropW l i hi
    have hw := wrap_succ i l.length hi (by omega)
    generalize l[i] = p at *
    simp only [rowC, List.cons_append, List.nil_append] at hd
    simp [beqI, bneI, mm_min2, mm_max2, mm_min3, mm_max3, startE, lkE, lkX, lkE_rest, sx, substE, opVA, objs0, List.replicate, XA_seq, XA_region, XOA_go, goE_someA, opV, ev, putA, layAll, XOA_nil, XA_skip_seq, XA_skip_nil, XOA_gd, goG_tA, goG_uA, binV, bi_add, bi_sub, bi_mul, bi_quo, bi_rem, bi_eql, bi_neq, bi_lss, bi_leq, bi_gtr, bi_geq, bi_shl, bi_shr, bi_and, bi_or, bi_xor, unV, XA_ret_nil, XA_ret_cons, endFA_r, endFA_n, endTA_r, endTA_n, endRA_r, endRA_n, endEA_r, endEA_n, List.take, fltR, resultsA, resAs, resA, XA_block, XA_cond, pickX_t, pickX_f, pickX_b, XA_skip_blk, XA_skip_lp, XA_exit_seq, XA_exit_lp, XA_exit_blk, XA_exit_nil, load1, Ev.loadCells, objCells, bodyCells, setCells, AV.flat, AV.flat1, backR, backV, backCell, mapO, AV.cells, AV.atom, AV.tree, fillV, repeatL, treeCell, freezeAll, eqCells, callV_T, callV_F, passN, passV, passCell, srcCells, sliceBounds, hiB, loB, thenQ_nA, thenQ_xA, thenQ_rA, runK_nA, runK_xA, runK_rA, wrap_i64, wrap_u64, wrap_u32, wrap_u8, wrap_u16, AV.atom, normA, lkE, fixObjs, fixBody, fixV, fixCell, eqCells, hi', hi, hd, hw]
  · intro _
    simp [beqI, bneI, mm_min2, mm_max2, mm_min3, mm_max3, startE, lkE, lkX, lkE_rest, sx, substE, opVA, objs0, List.replicate, XA_seq, XA_region, XOA_go, goE_someA, opV, ev, putA, layAll, XOA_nil, XA_skip_seq, XA_skip_nil, XOA_gd, goG_tA, goG_uA, binV, bi_add, bi_sub, bi_mul, bi_quo, bi_rem, bi_eql, bi_neq, bi_lss, bi_leq, bi_gtr, bi_geq, bi_shl, bi_shr, bi_and, bi_or, bi_xor, unV, XA_ret_nil, XA_ret_cons, endFA_r, endFA_n, endTA_r, endTA_n, endRA_r, endRA_n, endEA_r, endEA_n, List.take, fltR, resultsA, resAs, resA, XA_block, XA_cond, pickX_t, pickX_f, pickX_b, XA_skip_blk, XA_skip_lp, XA_exit_seq, XA_exit_lp, XA_exit_blk, XA_exit_nil, load1, Ev.loadCells, objCells, bodyCells, setCells, AV.flat, AV.flat1, backR, backV, backCell, mapO, AV.cells, AV.atom, AV.tree, fillV, repeatL, treeCell, freezeAll, eqCells, callV_T, callV_F, passN, passV, passCell, srcCells, sliceBounds, hiB, loB, thenQ_nA, thenQ_xA, thenQ_rA, runK_nA, runK_xA, runK_rA, wrap_i64, wrap_u64, wrap_u32, wrap_u8, wrap_u16, AV.atom, normA, lkE, fixObjs, fixBody, fixV, fixCell]
end Go.Proofs.Ytpohmfihpnineaa
