/- The mass of rows: the document's; near the bound. -/
import Derived.Test.YtpohmfihpnineaaPgB
import Derived.Test.YtpohmfihpnineaaRowCom
set_option linter.unusedSimpArgs false
set_option linter.unusedVariables false
set_option maxHeartbeats 4000000
set_option maxRecDepth 100000
namespace Go.Proofs.Ytpohmfihpnineaa
open Go.Ev
def massR (l : List Rw) : AV := if massG l = true then .agg [.int .i64 (sumX l), .int .i64 (sumY l), .bool true] else .agg [.int .i64 0, .int .i64 0, .bool false]
theorem rmass_ev (l : List Rw) (hl : l.length ≤ 1000000) (hk : okL l) : cvF tab 16 [rW l] = some (massR l) := by
  refine cvFA_R (mf := Mf.f16) rfl rfl (by kernel_rfl) ?_
  simp only [Mf.f16]
  simp [beqI, bneI, mm_min2, mm_max2, mm_min3, mm_max3, startE, lkE, lkX, lkE_rest, sx, substE, opVA, objs0, List.replicate, XA_seq, XA_region, XOA_go, goE_someA, opV, ev, putA, layAll, XOA_nil, XA_skip_seq, XA_skip_nil, XOA_gd, goG_tA, goG_uA, binV, bi_add, bi_sub, bi_mul, bi_quo, bi_rem, bi_eql, bi_neq, bi_lss, bi_leq, bi_gtr, bi_geq, bi_shl, bi_shr, bi_and, bi_or, bi_xor, unV, XA_ret_nil, XA_ret_cons, endFA_r, endFA_n, endTA_r, endTA_n, endRA_r, endRA_n, endEA_r, endEA_n, List.take, fltR, resultsA, resAs, resA, XA_block, XA_cond, pickX_t, pickX_f, pickX_b, XA_skip_blk, XA_skip_lp, XA_exit_seq, XA_exit_lp, XA_exit_blk, XA_exit_nil, load1, Ev.loadCells, objCells, bodyCells, setCells, AV.flat, AV.flat1, backR, backV, backCell, mapO, AV.cells, AV.atom, AV.tree, fillV, repeatL, treeCell, freezeAll, eqCells, callV_T, callV_F, passN, passV, passCell, srcCells, sliceBounds, hiB, loB, thenQ_nA, thenQ_xA, thenQ_rA, runK_nA, runK_xA, runK_rA, wrap_i64, wrap_u64, wrap_u32, wrap_u8, wrap_u16, rW]
  refine XA_for (fun j => ⟨[(0, rW l), (2, .ptr 0 0 0), (3, .ptr 1 0 0), (4, .int .i64 j)], [⟨0, .var [.int .i64 0, .int .i64 0, .bool false]⟩, ⟨0, .var [.int .i64 (sumX (l.take j)), .int .i64 (sumY (l.take j)), .bool false]⟩]⟩)
    (fun j => sumX (l.take j) ≤ MM ∧ sumY (l.take j) ≤ MM) l.length 0 (by omega) (by simp [AV.atom, normA, lkE, fixObjs, fixBody, fixV, fixCell, rW, sumX, sumY]) (by simp [sumX, sumY, MM]) ?_ ?_
  · intro j _ hj hJ
    have hj' : (j : Int) < l.length := by omega
    have hd := dropW l j hj
    have hsx : sumX (l.take (j + 1)) = sumX (l.take j) + absI l[j].x := sum_snoc _ l j hj
    have hsy : sumY (l.take (j + 1)) = sumY (l.take j) + absI l[j].y := sum_snoc _ l j hj
    have hr := hk _ (List.getElem_mem hj)
    have ex := crsize_ev l[j].x hr.x
    have ey := crsize_ev l[j].y hr.y
    have hx0 : 0 ≤ sumX (l.take j) := sum_nn _ (fun r => absI_nn _) _
    have hy0 : 0 ≤ sumY (l.take j) := sum_nn _ (fun r => absI_nn _) _
    have hlx : sumX (l.take (j + 1)) ≤ sumX l := sum_le _ (fun r => absI_nn _) l (j + 1)
    have hly : sumY (l.take (j + 1)) ≤ sumY l := sum_le _ (fun r => absI_nn _) l (j + 1)
    have hax : 0 ≤ absI l[j].x ∧ absI l[j].x ≤ 9223372036854775808 := by
      have := hr.x
      unfold inI at this
      unfold absI
      split <;> omega
    have hay : 0 ≤ absI l[j].y ∧ absI l[j].y ≤ 9223372036854775808 := by
      have := hr.y
      unfold inI at this
      unfold absI
      split <;> omega
    rw [hsx] at hlx ⊢
    rw [hsy] at hly ⊢
    unfold rowC at hd
    generalize l[j] = r at *
    obtain ⟨X, hX⟩ : ∃ S, sumX (l.take j) = S := ⟨_, rfl⟩
    obtain ⟨Y, hY⟩ : ∃ S, sumY (l.take j) = S := ⟨_, rfl⟩
    rw [hX] at hJ hx0 hlx ⊢
    rw [hY] at hJ hy0 hly ⊢
    have hJ1 := hJ.1
    have hJ2 := hJ.2
    unfold MM at hJ1 hJ2
    have w1 : IntKind.i64.wrap (2305843009213693952 - X) = 2305843009213693952 - X := wrap_i64 (by omega) (by omega)
    have w2 : IntKind.u64.wrap (2305843009213693952 - X) = 2305843009213693952 - X := wrap_u64 (by omega) (by omega)
    have w3 : IntKind.i64.wrap (2305843009213693952 - Y) = 2305843009213693952 - Y := wrap_i64 (by omega) (by omega)
    have w4 : IntKind.u64.wrap (2305843009213693952 - Y) = 2305843009213693952 - Y := wrap_u64 (by omega) (by omega)
    have wj := wrap_succ j l.length hj (by omega)
    simp [beqI, bneI, mm_min2, mm_max2, mm_min3, mm_max3, startE, lkE, lkX, lkE_rest, sx, substE, opVA, objs0, List.replicate, XA_seq, XA_region, XOA_go, goE_someA, opV, ev, putA, layAll, XOA_nil, XA_skip_seq, XA_skip_nil, XOA_gd, goG_tA, goG_uA, binV, bi_add, bi_sub, bi_mul, bi_quo, bi_rem, bi_eql, bi_neq, bi_lss, bi_leq, bi_gtr, bi_geq, bi_shl, bi_shr, bi_and, bi_or, bi_xor, unV, XA_ret_nil, XA_ret_cons, endFA_r, endFA_n, endTA_r, endTA_n, endRA_r, endRA_n, endEA_r, endEA_n, List.take, fltR, resultsA, resAs, resA, XA_block, XA_cond, pickX_t, pickX_f, pickX_b, XA_skip_blk, XA_skip_lp, XA_exit_seq, XA_exit_lp, XA_exit_blk, XA_exit_nil, load1, Ev.loadCells, objCells, bodyCells, setCells, AV.flat, AV.flat1, backR, backV, backCell, mapO, AV.cells, AV.atom, AV.tree, fillV, repeatL, treeCell, freezeAll, eqCells, callV_T, callV_F, passN, passV, passCell, srcCells, sliceBounds, hiB, loB, thenQ_nA, thenQ_xA, thenQ_rA, runK_nA, runK_xA, runK_rA, wrap_i64, wrap_u64, wrap_u32, wrap_u8, wrap_u16, AV.atom, normA, lkE, fixObjs, fixBody, fixV, fixCell, rW, hj']
    refine XA_for (fun k => ⟨[(0, rW l), (2, .ptr 0 0 0), (3, .ptr 1 0 0), (4, .int .i64 j), (5, .int .i64 k)], [⟨0, .var [.int .i64 0, .int .i64 0, .bool false]⟩, ⟨0, .var [.int .i64 (if 0 < k then X + absI r.x else X), .int .i64 (if 1 < k then Y + absI r.y else Y), .bool false]⟩]⟩)
      (fun k => (0 < k → X + absI r.x ≤ MM) ∧ (1 < k → Y + absI r.y ≤ MM)) 2 0 (by omega) (by simp [AV.atom, normA, lkE, fixObjs, fixBody, fixV, fixCell, rW]) (by omega) ?_ ?_
    · intro k _ hk2 hK
      have h01 : k = 0 ∨ k = 1 := by omega
      rcases h01 with rfl | rfl
      · by_cases c : 2305843009213693952 - X < absI r.x
        · have hbad : massG l = false := by
            unfold massG MM
            simp; intro; omega
          simp [beqI, bneI, mm_min2, mm_max2, mm_min3, mm_max3, startE, lkE, lkX, lkE_rest, sx, substE, opVA, objs0, List.replicate, XA_seq, XA_region, XOA_go, goE_someA, opV, ev, putA, layAll, XOA_nil, XA_skip_seq, XA_skip_nil, XOA_gd, goG_tA, goG_uA, binV, bi_add, bi_sub, bi_mul, bi_quo, bi_rem, bi_eql, bi_neq, bi_lss, bi_leq, bi_gtr, bi_geq, bi_shl, bi_shr, bi_and, bi_or, bi_xor, unV, XA_ret_nil, XA_ret_cons, endFA_r, endFA_n, endTA_r, endTA_n, endRA_r, endRA_n, endEA_r, endEA_n, List.take, fltR, resultsA, resAs, resA, XA_block, XA_cond, pickX_t, pickX_f, pickX_b, XA_skip_blk, XA_skip_lp, XA_exit_seq, XA_exit_lp, XA_exit_blk, XA_exit_nil, load1, Ev.loadCells, objCells, bodyCells, setCells, AV.flat, AV.flat1, backR, backV, backCell, mapO, AV.cells, AV.atom, AV.tree, fillV, repeatL, treeCell, freezeAll, eqCells, callV_T, callV_F, passN, passV, passCell, srcCells, sliceBounds, hiB, loB, thenQ_nA, thenQ_xA, thenQ_rA, runK_nA, runK_xA, runK_rA, wrap_i64, wrap_u64, wrap_u32, wrap_u8, wrap_u16, AV.atom, normA, lkE, fixObjs, fixBody, fixV, fixCell, rW, hj', hd, ex, w1, w2, c, massR, hbad]
        · have w5 : IntKind.i64.wrap (absI r.x) = absI r.x := wrap_i64 (by omega) (by omega)
          have w6 : IntKind.i64.wrap (X + absI r.x) = X + absI r.x := wrap_i64 (by omega) (by omega)
          have c2 : X + absI r.x ≤ MM := by unfold MM; omega
          have w7 := wrap_succ 0 2 (by omega) (by omega)
          simp at w7
          simp [beqI, bneI, mm_min2, mm_max2, mm_min3, mm_max3, startE, lkE, lkX, lkE_rest, sx, substE, opVA, objs0, List.replicate, XA_seq, XA_region, XOA_go, goE_someA, opV, ev, putA, layAll, XOA_nil, XA_skip_seq, XA_skip_nil, XOA_gd, goG_tA, goG_uA, binV, bi_add, bi_sub, bi_mul, bi_quo, bi_rem, bi_eql, bi_neq, bi_lss, bi_leq, bi_gtr, bi_geq, bi_shl, bi_shr, bi_and, bi_or, bi_xor, unV, XA_ret_nil, XA_ret_cons, endFA_r, endFA_n, endTA_r, endTA_n, endRA_r, endRA_n, endEA_r, endEA_n, List.take, fltR, resultsA, resAs, resA, XA_block, XA_cond, pickX_t, pickX_f, pickX_b, XA_skip_blk, XA_skip_lp, XA_exit_seq, XA_exit_lp, XA_exit_blk, XA_exit_nil, load1, Ev.loadCells, objCells, bodyCells, setCells, AV.flat, AV.flat1, backR, backV, backCell, mapO, AV.cells, AV.atom, AV.tree, fillV, repeatL, treeCell, freezeAll, eqCells, callV_T, callV_F, passN, passV, passCell, srcCells, sliceBounds, hiB, loB, thenQ_nA, thenQ_xA, thenQ_rA, runK_nA, runK_xA, runK_rA, wrap_i64, wrap_u64, wrap_u32, wrap_u8, wrap_u16, AV.atom, normA, lkE, fixObjs, fixBody, fixV, fixCell, rW, hj', hd, ex, w1, w2, w5, w6, w7, c, c2]
      · have h1 := hK.1 (by omega)
        by_cases c : 2305843009213693952 - Y < absI r.y
        · have hbad : massG l = false := by
            unfold massG MM
            simp; intro; omega
          simp [beqI, bneI, mm_min2, mm_max2, mm_min3, mm_max3, startE, lkE, lkX, lkE_rest, sx, substE, opVA, objs0, List.replicate, XA_seq, XA_region, XOA_go, goE_someA, opV, ev, putA, layAll, XOA_nil, XA_skip_seq, XA_skip_nil, XOA_gd, goG_tA, goG_uA, binV, bi_add, bi_sub, bi_mul, bi_quo, bi_rem, bi_eql, bi_neq, bi_lss, bi_leq, bi_gtr, bi_geq, bi_shl, bi_shr, bi_and, bi_or, bi_xor, unV, XA_ret_nil, XA_ret_cons, endFA_r, endFA_n, endTA_r, endTA_n, endRA_r, endRA_n, endEA_r, endEA_n, List.take, fltR, resultsA, resAs, resA, XA_block, XA_cond, pickX_t, pickX_f, pickX_b, XA_skip_blk, XA_skip_lp, XA_exit_seq, XA_exit_lp, XA_exit_blk, XA_exit_nil, load1, Ev.loadCells, objCells, bodyCells, setCells, AV.flat, AV.flat1, backR, backV, backCell, mapO, AV.cells, AV.atom, AV.tree, fillV, repeatL, treeCell, freezeAll, eqCells, callV_T, callV_F, passN, passV, passCell, srcCells, sliceBounds, hiB, loB, thenQ_nA, thenQ_xA, thenQ_rA, runK_nA, runK_xA, runK_rA, wrap_i64, wrap_u64, wrap_u32, wrap_u8, wrap_u16, AV.atom, normA, lkE, fixObjs, fixBody, fixV, fixCell, rW, hj', hd, ey, w3, w4, c, massR, hbad]
        · have w5 : IntKind.i64.wrap (absI r.y) = absI r.y := wrap_i64 (by omega) (by omega)
          have w6 : IntKind.i64.wrap (Y + absI r.y) = Y + absI r.y := wrap_i64 (by omega) (by omega)
          have c2 : Y + absI r.y ≤ MM := by unfold MM; omega
          have w7 := wrap_succ 1 2 (by omega) (by omega)
          simp at w7
          simp [beqI, bneI, mm_min2, mm_max2, mm_min3, mm_max3, startE, lkE, lkX, lkE_rest, sx, substE, opVA, objs0, List.replicate, XA_seq, XA_region, XOA_go, goE_someA, opV, ev, putA, layAll, XOA_nil, XA_skip_seq, XA_skip_nil, XOA_gd, goG_tA, goG_uA, binV, bi_add, bi_sub, bi_mul, bi_quo, bi_rem, bi_eql, bi_neq, bi_lss, bi_leq, bi_gtr, bi_geq, bi_shl, bi_shr, bi_and, bi_or, bi_xor, unV, XA_ret_nil, XA_ret_cons, endFA_r, endFA_n, endTA_r, endTA_n, endRA_r, endRA_n, endEA_r, endEA_n, List.take, fltR, resultsA, resAs, resA, XA_block, XA_cond, pickX_t, pickX_f, pickX_b, XA_skip_blk, XA_skip_lp, XA_exit_seq, XA_exit_lp, XA_exit_blk, XA_exit_nil, load1, Ev.loadCells, objCells, bodyCells, setCells, AV.flat, AV.flat1, backR, backV, backCell, mapO, AV.cells, AV.atom, AV.tree, fillV, repeatL, treeCell, freezeAll, eqCells, callV_T, callV_F, passN, passV, passCell, srcCells, sliceBounds, hiB, loB, thenQ_nA, thenQ_xA, thenQ_rA, runK_nA, runK_xA, runK_rA, wrap_i64, wrap_u64, wrap_u32, wrap_u8, wrap_u16, AV.atom, normA, lkE, fixObjs, fixBody, fixV, fixCell, rW, hj', hd, ey, w3, w4, w5, w6, w7, c, c2, h1]
    · intro hK
      have h1 := hK.1 (by omega)
      have h2 := hK.2 (by omega)
      simp [beqI, bneI, mm_min2, mm_max2, mm_min3, mm_max3, startE, lkE, lkX, lkE_rest, sx, substE, opVA, objs0, List.replicate, XA_seq, XA_region, XOA_go, goE_someA, opV, ev, putA, layAll, XOA_nil, XA_skip_seq, XA_skip_nil, XOA_gd, goG_tA, goG_uA, binV, bi_add, bi_sub, bi_mul, bi_quo, bi_rem, bi_eql, bi_neq, bi_lss, bi_leq, bi_gtr, bi_geq, bi_shl, bi_shr, bi_and, bi_or, bi_xor, unV, XA_ret_nil, XA_ret_cons, endFA_r, endFA_n, endTA_r, endTA_n, endRA_r, endRA_n, endEA_r, endEA_n, List.take, fltR, resultsA, resAs, resA, XA_block, XA_cond, pickX_t, pickX_f, pickX_b, XA_skip_blk, XA_skip_lp, XA_exit_seq, XA_exit_lp, XA_exit_blk, XA_exit_nil, load1, Ev.loadCells, objCells, bodyCells, setCells, AV.flat, AV.flat1, backR, backV, backCell, mapO, AV.cells, AV.atom, AV.tree, fillV, repeatL, treeCell, freezeAll, eqCells, callV_T, callV_F, passN, passV, passCell, srcCells, sliceBounds, hiB, loB, thenQ_nA, thenQ_xA, thenQ_rA, runK_nA, runK_xA, runK_rA, wrap_i64, wrap_u64, wrap_u32, wrap_u8, wrap_u16, AV.atom, normA, lkE, fixObjs, fixBody, fixV, fixCell, rW, wj, h1, h2]
  · intro hJ
    rw [List.take_length] at hJ ⊢
    have hg : massG l = true := by unfold massG; simp [hJ.1, hJ.2]
    simp [beqI, bneI, mm_min2, mm_max2, mm_min3, mm_max3, startE, lkE, lkX, lkE_rest, sx, substE, opVA, objs0, List.replicate, XA_seq, XA_region, XOA_go, goE_someA, opV, ev, putA, layAll, XOA_nil, XA_skip_seq, XA_skip_nil, XOA_gd, goG_tA, goG_uA, binV, bi_add, bi_sub, bi_mul, bi_quo, bi_rem, bi_eql, bi_neq, bi_lss, bi_leq, bi_gtr, bi_geq, bi_shl, bi_shr, bi_and, bi_or, bi_xor, unV, XA_ret_nil, XA_ret_cons, endFA_r, endFA_n, endTA_r, endTA_n, endRA_r, endRA_n, endEA_r, endEA_n, List.take, fltR, resultsA, resAs, resA, XA_block, XA_cond, pickX_t, pickX_f, pickX_b, XA_skip_blk, XA_skip_lp, XA_exit_seq, XA_exit_lp, XA_exit_blk, XA_exit_nil, load1, Ev.loadCells, objCells, bodyCells, setCells, AV.flat, AV.flat1, backR, backV, backCell, mapO, AV.cells, AV.atom, AV.tree, fillV, repeatL, treeCell, freezeAll, eqCells, callV_T, callV_F, passN, passV, passCell, srcCells, sliceBounds, hiB, loB, thenQ_nA, thenQ_xA, thenQ_rA, runK_nA, runK_xA, runK_rA, wrap_i64, wrap_u64, wrap_u32, wrap_u8, wrap_u16, AV.atom, normA, lkE, fixObjs, fixBody, fixV, fixCell, rW, massR, hg]
end Go.Proofs.Ytpohmfihpnineaa
