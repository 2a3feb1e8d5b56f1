/- The mass of rows: the document's; near the bound. -/
import Derived.Test.YtnlihobhbbopfaaRowB
import Derived.Test.YtnlihobhbbopfaaRowCom
set_option linter.unusedSimpArgs false
set_option linter.unusedVariables false
set_option maxHeartbeats 4000000
set_option maxRecDepth 100000
namespace Go.Proofs.Ytnlihobhbbopfaa
open Go.Ev
def massR (l : List Rw) : AV := if massG l = true then .agg [.int .i64 (sumX l), .int .i64 (sumY l), .bool true] else .agg [.int .i64 0, .int .i64 0, .bool false]
theorem rmass_ev (l : List Rw) (hl : l.length ≤ 1000000) (hk : okL l) : cvF tab 12 [rW l] = some (massR l) := by
  refine cvFA_R (mf := Mf.f12) rfl rfl (by kernel_rfl) ?_
  simp only [Mf.f12]
  simp [beqI, bneI, mm_min2, mm_max2, mm_min3, mm_max3, startE, lkE, lkX, lkE_rest, sx, substE, opVA, objs0, List.replicate, XA_seq, XA_region, XOA_go, goE_someA, opV, ev, putA, layAll, XOA_nil, XA_skip_seq, XA_skip_nil, XOA_gd, goG_tA, goG_uA, binV, bi_add, bi_sub, bi_mul, bi_quo, bi_rem, bi_eql, bi_neq, bi_lss, bi_leq, bi_gtr, bi_geq, bi_shl, bi_shr, bi_and, bi_or, bi_xor, unV, XA_ret_nil, XA_ret_cons, endFA_r, endFA_n, endTA_r, endTA_n, endRA_r, endRA_n, fltR, resultsA, resAs, resA, XA_block, XA_cond, pickX_t, pickX_f, pickX_b, XA_skip_blk, XA_skip_lp, XA_exit_seq, XA_exit_lp, XA_exit_blk, XA_exit_nil, load1, Ev.loadCells, objCells, bodyCells, setCells, AV.flat, AV.flat1, backR, backV, backCell, mapO, AV.cells, AV.atom, AV.tree, fillV, repeatL, treeCell, freezeAll, eqCells, callV_T, callV_F, passV, passCell, srcCells, sliceBounds, hiB, loB, thenQ_nA, thenQ_xA, thenQ_rA, runK_nA, runK_xA, runK_rA, wrap_i64, wrap_u64, wrap_u32, wrap_u8, wrap_u16, rW]
  refine XA_for (fun j => ⟨[(0, rW l), (2, .ptr 0 0 0), (3, .ptr 1 0 0), (4, .int .i64 j)], [⟨0, .var [.int .i64 0, .int .i64 0, .bool false]⟩, ⟨0, .var [.int .i64 (sumX (l.take j)), .int .i64 (sumY (l.take j)), .bool false]⟩]⟩)
    (fun j => sumX (l.take j) ≤ MM ∧ sumY (l.take j) ≤ MM) l.length 0 (by omega) (by simp [AV.atom, normA, lkE, fixObjs, fixBody, fixV, fixCell, rW, sumX, sumY]) (by simp [sumX, sumY, MM]) ?_ ?_
  · intro j _ hj hJ
    have hj' : (j : Int) < l.length := by omega
    have hd := dropW l j hj
    have hsx : sumX (l.take (j + 1)) = sumX (l.take j) + absI l[j].x := sum_snoc _ l j hj
    have hsy : sumY (l.take (j + 1)) = sumY (l.take j) + absI l[j].y := sum_snoc _ l j hj
    have hr := hk _ (List.getElem_mem hj)
    have ex := crsize_ev l[j].x hr.x
    have ey := crsize_ev l[j].y hr.y
    have hx0 : 0 ≤ sumX (l.take j) := sum_nn _ (fun r => absI_nn _) _
    have hy0 : 0 ≤ sumY (l.take j) := sum_nn _ (fun r => absI_nn _) _
    have hlx : sumX (l.take (j + 1)) ≤ sumX l := sum_le _ (fun r => absI_nn _) l (j + 1)
    have hly : sumY (l.take (j + 1)) ≤ sumY l := sum_le _ (fun r => absI_nn _) l (j + 1)
    have hax : 0 ≤ absI l[j].x ∧ absI l[j].x ≤ 9223372036854775808 := by
      have := hr.x
      unfold inI at this
      unfold absI
      split <;> omega
    have hay : 0 ≤ absI l[j].y ∧ absI l[j].y ≤ 9223372036854775808 := by
      have := hr.y
      unfold inI at this
      unfold absI
      split <;> omega
    rw [hsx] at hlx ⊢
    rw [hsy] at hly ⊢
    unfold rowC at hd
    generalize l[j] = r at *
    obtain ⟨X, hX⟩ : ∃ S, sumX (l.take j) = S := ⟨_, rfl⟩
    obtain ⟨Y, hY⟩ : ∃ S, sumY (l.take j) = S := ⟨_, rfl⟩
    rw [hX] at hJ hx0 hlx ⊢
    rw [hY] at hJ hy0 hly ⊢
    have hJ1 := hJ.1
    have hJ2 := hJ.2
    unfold MM at hJ1 hJ2
    have w1 : IntKind.i64.wrap (2305843009213693952 - X) = 2305843009213693952 - X := wrap_i64 (by omega) (by omega)
    have w2 : IntKind.u64.wrap (2305843009213693952 - X) = 2305843009213693952 - X := wrap_u64 (by omega) (by omega)
    have w3 : IntKind.i64.wrap (2305843009213693952 - Y) = 2305843009213693952 - Y := wrap_i64 (by omega) (by omega)
    have w4 : IntKind.u64.wrap (2305843009213693952 - Y) = 2305843009213693952 - Y := wrap_u64 (by omega) (by omega)
    have wj := wrap_succ j l.length hj (by omega)
    simp [beqI, bneI, mm_min2, mm_max2, mm_min3, mm_max3, startE, lkE, lkX, lkE_rest, sx, substE, opVA, objs0, List.replicate, XA_seq, XA_region, XOA_go, goE_someA, opV, ev, putA, layAll, XOA_nil, XA_skip_seq, XA_skip_nil, XOA_gd, goG_tA, goG_uA, binV, bi_add, bi_sub, bi_mul, bi_quo, bi_rem, bi_eql, bi_neq, bi_lss, bi_leq, bi_gtr, bi_geq, bi_shl, bi_shr, bi_and, bi_or, bi_xor, unV, XA_ret_nil, XA_ret_cons, endFA_r, endFA_n, endTA_r, endTA_n, endRA_r, endRA_n, fltR, resultsA, resAs, resA, XA_block, XA_cond, pickX_t, pickX_f, pickX_b, XA_skip_blk, XA_skip_lp, XA_exit_seq, XA_exit_lp, XA_exit_blk, XA_exit_nil, load1, Ev.loadCells, objCells, bodyCells, setCells, AV.flat, AV.flat1, backR, backV, backCell, mapO, AV.cells, AV.atom, AV.tree, fillV, repeatL, treeCell, freezeAll, eqCells, callV_T, callV_F, passV, passCell, srcCells, sliceBounds, hiB, loB, thenQ_nA, thenQ_xA, thenQ_rA, runK_nA, runK_xA, runK_rA, wrap_i64, wrap_u64, wrap_u32, wrap_u8, wrap_u16, AV.atom, normA, lkE, fixObjs, fixBody, fixV, fixCell, rW, hj']
    refine XA_for (fun k => ⟨[(0, rW l), (2, .ptr 0 0 0), (3, .ptr 1 0 0), (4, .int .i64 j), (5, .int .i64 k)], [⟨0, .var [.int .i64 0, .int .i64 0, .bool false]⟩, ⟨0, .var [.int .i64 (if 0 < k then X + absI r.x else X), .int .i64 (if 1 < k then Y + absI r.y else Y), .bool false]⟩]⟩)
      (fun k => (0 < k → X + absI r.x ≤ MM) ∧ (1 < k → Y + absI r.y ≤ MM)) 2 0 (by omega) (by simp [AV.atom, normA, lkE, fixObjs, fixBody, fixV, fixCell, rW]) (by omega) ?_ ?_
    · intro k _ hk2 hK
      have h01 : k = 0 ∨ k = 1 := by omega
      rcases h01 with rfl | rfl
      · by_cases c : 2305843009213693952 - X < absI r.x
        · have hbad : massG l = false := by
            unfold massG MM
            simp; intro; omega
          simp [beqI, bneI, mm_min2, mm_max2, mm_min3, mm_max3, startE, lkE, lkX, lkE_rest, sx, substE, opVA, objs0, List.replicate, XA_seq, XA_region, XOA_go, goE_someA, opV, ev, putA, layAll, XOA_nil, XA_skip_seq, XA_skip_nil, XOA_gd, goG_tA, goG_uA, binV, bi_add, bi_sub, bi_mul, bi_quo, bi_rem, bi_eql, bi_neq, bi_lss, bi_leq, bi_gtr, bi_geq, bi_shl, bi_shr, bi_and, bi_or, bi_xor, unV, XA_ret_nil, XA_ret_cons, endFA_r, endFA_n, endTA_r, endTA_n, endRA_r, endRA_n, fltR, resultsA, resAs, resA, XA_block, XA_cond, pickX_t, pickX_f, pickX_b, XA_skip_blk, XA_skip_lp, XA_exit_seq, XA_exit_lp, XA_exit_blk, XA_exit_nil, load1, Ev.loadCells, objCells, bodyCells, setCells, AV.flat, AV.flat1, backR, backV, backCell, mapO, AV.cells, AV.atom, AV.tree, fillV, repeatL, treeCell, freezeAll, eqCells, callV_T, callV_F, passV, passCell, srcCells, sliceBounds, hiB, loB, thenQ_nA, thenQ_xA, thenQ_rA, runK_nA, runK_xA, runK_rA, wrap_i64, wrap_u64, wrap_u32, wrap_u8, wrap_u16, AV.atom, normA, lkE, fixObjs, fixBody, fixV, fixCell, rW, hj', hd, ex, w1, w2, c, massR, hbad]
        · have w5 : IntKind.i64.wrap (absI r.x) = absI r.x := wrap_i64 (by omega) (by omega)
          have w6 : IntKind.i64.wrap (X + absI r.x) = X + absI r.x := wrap_i64 (by omega) (by omega)
          have c2 : X + absI r.x ≤ MM := by unfold MM; omega
          have w7 := wrap_succ 0 2 (by omega) (by omega)
          simp at w7
          simp [beqI, bneI, mm_min2, mm_max2, mm_min3, mm_max3, startE, lkE, lkX, lkE_rest, sx, substE, opVA, objs0, List.replicate, XA_seq, XA_region, XOA_go, goE_someA, opV, ev, putA, layAll, XOA_nil, XA_skip_seq, XA_skip_nil, XOA_gd, goG_tA, goG_uA, binV, bi_add, bi_sub, bi_mul, bi_quo, bi_rem, bi_eql, bi_neq, bi_lss, bi_leq, bi_gtr, bi_geq, bi_shl, bi_shr, bi_and, bi_or, bi_xor, unV, XA_ret_nil, XA_ret_cons, endFA_r, endFA_n, endTA_r, endTA_n, endRA_r, endRA_n, fltR, resultsA, resAs, resA, XA_block, XA_cond, pickX_t, pickX_f, pickX_b, XA_skip_blk, XA_skip_lp, XA_exit_seq, XA_exit_lp, XA_exit_blk, XA_exit_nil, load1, Ev.loadCells, objCells, bodyCells, setCells, AV.flat, AV.flat1, backR, backV, backCell, mapO, AV.cells, AV.atom, AV.tree, fillV, repeatL, treeCell, freezeAll, eqCells, callV_T, callV_F, passV, passCell, srcCells, sliceBounds, hiB, loB, thenQ_nA, thenQ_xA, thenQ_rA, runK_nA, runK_xA, runK_rA, wrap_i64, wrap_u64, wrap_u32, wrap_u8, wrap_u16, AV.atom, normA, lkE, fixObjs, fixBody, fixV, fixCell, rW, hj', hd, ex, w1, w2, w5, w6, w7, c, c2]
      · have h1 := hK.1 (by omega)
        by_cases c : 2305843009213693952 - Y < absI r.y
        · have hbad : massG l = false := by
            unfold massG MM
            simp; intro; omega
          simp [beqI, bneI, mm_min2, mm_max2, mm_min3, mm_max3, startE, lkE, lkX, lkE_rest, sx, substE, opVA, objs0, List.replicate, XA_seq, XA_region, XOA_go, goE_someA, opV, ev, putA, layAll, XOA_nil, XA_skip_seq, XA_skip_nil, XOA_gd, goG_tA, goG_uA, binV, bi_add, bi_sub, bi_mul, bi_quo, bi_rem, bi_eql, bi_neq, bi_lss, bi_leq, bi_gtr, bi_geq, bi_shl, bi_shr, bi_and, bi_or, bi_xor, unV, XA_ret_nil, XA_ret_cons, endFA_r, endFA_n, endTA_r, endTA_n, endRA_r, endRA_n, fltR, resultsA, resAs, resA, XA_block, XA_cond, pickX_t, pickX_f, pickX_b, XA_skip_blk, XA_skip_lp, XA_exit_seq, XA_exit_lp, XA_exit_blk, XA_exit_nil, load1, Ev.loadCells, objCells, bodyCells, setCells, AV.flat, AV.flat1, backR, backV, backCell, mapO, AV.cells, AV.atom, AV.tree, fillV, repeatL, treeCell, freezeAll, eqCells, callV_T, callV_F, passV, passCell, srcCells, sliceBounds, hiB, loB, thenQ_nA, thenQ_xA, thenQ_rA, runK_nA, runK_xA, runK_rA, wrap_i64, wrap_u64, wrap_u32, wrap_u8, wrap_u16, AV.atom, normA, lkE, fixObjs, fixBody, fixV, fixCell, rW, hj', hd, ey, w3, w4, c, massR, hbad]
        · have w5 : IntKind.i64.wrap (absI r.y) = absI r.y := wrap_i64 (by omega) (by omega)
          have w6 : IntKind.i64.wrap (Y + absI r.y) = Y + absI r.y := wrap_i64 (by omega) (by omega)
          have c2 : Y + absI r.y ≤ MM := by unfold MM; omega
          have w7 := wrap_succ 1 2 (by omega) (by omega)
          simp at w7
          simp [beqI, bneI, mm_min2, mm_max2, mm_min3, mm_max3, startE, lkE, lkX, lkE_rest, sx, substE, opVA, objs0, List.replicate, XA_seq, XA_region, XOA_go, goE_someA, opV, ev, putA, layAll, XOA_nil, XA_skip_seq, XA_skip_nil, XOA_gd, goG_tA, goG_uA, binV, bi_add, bi_sub, bi_mul, bi_quo, bi_rem, bi_eql, bi_neq, bi_lss, bi_leq, bi_gtr, bi_geq, bi_shl, bi_shr, bi_and, bi_or, bi_xor, unV, XA_ret_nil, XA_ret_cons, endFA_r, endFA_n, endTA_r, endTA_n, endRA_r, endRA_n, fltR, resultsA, resAs, resA, XA_block, XA_cond, pickX_t, pickX_f, pickX_b, XA_skip_blk, XA_skip_lp, XA_exit_seq, XA_exit_lp, XA_exit_blk, XA_exit_nil, load1, Ev.loadCells, objCells, bodyCells, setCells, AV.flat, AV.flat1, backR, backV, backCell, mapO, AV.cells, AV.atom, AV.tree, fillV, repeatL, treeCell, freezeAll, eqCells, callV_T, callV_F, passV, passCell, srcCells, sliceBounds, hiB, loB, thenQ_nA, thenQ_xA, thenQ_rA, runK_nA, runK_xA, runK_rA, wrap_i64, wrap_u64, wrap_u32, wrap_u8, wrap_u16, AV.atom, normA, lkE, fixObjs, fixBody, fixV, fixCell, rW, hj', hd, ey, w3, w4, w5, w6, w7, c, c2, h1]
    · intro hK
      have h1 := hK.1 (by omega)
      have h2 := hK.2 (by omega)
      simp [beqI, bneI, mm_min2, mm_max2, mm_min3, mm_max3, startE, lkE, lkX, lkE_rest, sx, substE, opVA, objs0, List.replicate, XA_seq, XA_region, XOA_go, goE_someA, opV, ev, putA, layAll, XOA_nil, XA_skip_seq, XA_skip_nil, XOA_gd, goG_tA, goG_uA, binV, bi_add, bi_sub, bi_mul, bi_quo, bi_rem, bi_eql, bi_neq, bi_lss, bi_leq, bi_gtr, bi_geq, bi_shl, bi_shr, bi_and, bi_or, bi_xor, unV, XA_ret_nil, XA_ret_cons, endFA_r, endFA_n, endTA_r, endTA_n, endRA_r, endRA_n, fltR, resultsA, resAs, resA, XA_block, XA_cond, pickX_t, pickX_f, pickX_b, XA_skip_blk, XA_skip_lp, XA_exit_seq, XA_exit_lp, XA_exit_blk, XA_exit_nil, load1, Ev.loadCells, objCells, bodyCells, setCells, AV.flat, AV.flat1, backR, backV, backCell, mapO, AV.cells, AV.atom, AV.tree, fillV, repeatL, treeCell, freezeAll, eqCells, callV_T, callV_F, passV, passCell, srcCells, sliceBounds, hiB, loB, thenQ_nA, thenQ_xA, thenQ_rA, runK_nA, runK_xA, runK_rA, wrap_i64, wrap_u64, wrap_u32, wrap_u8, wrap_u16, AV.atom, normA, lkE, fixObjs, fixBody, fixV, fixCell, rW, wj, h1, h2]
  · intro hJ
    rw [List.take_length] at hJ ⊢
    have hg : massG l = true := by unfold massG; simp [hJ.1, hJ.2]
    simp [beqI, bneI, mm_min2, mm_max2, mm_min3, mm_max3, startE, lkE, lkX, lkE_rest, sx, substE, opVA, objs0, List.replicate, XA_seq, XA_region, XOA_go, goE_someA, opV, ev, putA, layAll, XOA_nil, XA_skip_seq, XA_skip_nil, XOA_gd, goG_tA, goG_uA, binV, bi_add, bi_sub, bi_mul, bi_quo, bi_rem, bi_eql, bi_neq, bi_lss, bi_leq, bi_gtr, bi_geq, bi_shl, bi_shr, bi_and, bi_or, bi_xor, unV, XA_ret_nil, XA_ret_cons, endFA_r, endFA_n, endTA_r, endTA_n, endRA_r, endRA_n, fltR, resultsA, resAs, resA, XA_block, XA_cond, pickX_t, pickX_f, pickX_b, XA_skip_blk, XA_skip_lp, XA_exit_seq, XA_exit_lp, XA_exit_blk, XA_exit_nil, load1, Ev.loadCells, objCells, bodyCells, setCells, AV.flat, AV.flat1, backR, backV, backCell, mapO, AV.cells, AV.atom, AV.tree, fillV, repeatL, treeCell, freezeAll, eqCells, callV_T, callV_F, passV, passCell, srcCells, sliceBounds, hiB, loB, thenQ_nA, thenQ_xA, thenQ_rA, runK_nA, runK_xA, runK_rA, wrap_i64, wrap_u64, wrap_u32, wrap_u8, wrap_u16, AV.atom, normA, lkE, fixObjs, fixBody, fixV, fixCell, rW, massR, hg]
theorem rowMass_ev (l : List Rw) (near : Int) (hk : okL l) (hn : inI near) : cvF tab 4 [rW l, .int .i64 near] = some (.bool true) := by
  refine cvFA_R (mf := Mf.f4) rfl rfl (by kernel_rfl) ?_
  simp only [Mf.f4]
  by_cases hl : l.length ≤ 200
  · have hl' : ¬ 200 < (l.length : Int) := by omega
    have e1 := mass_ev l (by omega) hk
    have e2 := rmass_ev l (by omega) hk
    obtain ⟨A, hA⟩ : ∃ A : Rw, A = ⟨0, 0, 0, 0, 2305843009213693952, -2305843009213693952⟩ := ⟨_, rfl⟩
    obtain ⟨B, hB⟩ : ∃ B : Rw, B = ⟨0, 0, 0, 0, near, 0⟩ := ⟨_, rfl⟩
    have okA : okW A := by rw [hA]; constructor <;> simp [byte, inI]
    have okB : okW B := by rw [hB]; unfold inI at hn; constructor <;> simp [byte, inI]; omega
    have e3 := mass_ev [A] (by simp) (fun r hr => by simp at hr; rw [hr]; exact okA)
    have e4 := mass_ev [A, B] (by simp) (fun r hr => by simp at hr; rcases hr with rfl | rfl <;> assumption)
    have g3 : massG [A] = true := by simp [massG, sumX, sumY, MM, hA, absI]
    have g4 : massG [A, B] = decide (near = 0) := by
      have h1 : sumX [A, B] = 2305843009213693952 + absI near := by simp [sumX, hA, hB, absI]
      have h2 : sumY [A, B] = 2305843009213693952 := by simp [sumY, hA, hB, absI]
      unfold massG MM
      rw [h1, h2]
      by_cases c : near = 0
      · simp [c, absI]
      · have : ¬ (2305843009213693952 + absI near ≤ 2305843009213693952) := by unfold absI; split <;> omega
        simp [c, this]
    unfold massV at e1 e3 e4
    unfold massR at e2
    rw [g3, if_pos rfl] at e3
    rw [g4] at e4
    generalize sumX [A] = s1 at *
    generalize sumY [A] = s2 at *
    generalize sumX [A, B] = s3 at *
    generalize sumY [A, B] = s4 at *
    subst hA
    subst hB
    simp only [rW, flatW, List.flatMap_cons, List.flatMap_nil, rowC, List.cons_append, List.nil_append, List.length_cons, List.length_nil] at e1 e2 e3 e4 ⊢
    by_cases c : near = 0
    · subst c
      cases g : massG l <;> (rw [g] at e1 e2; simp [beqI, bneI, mm_min2, mm_max2, mm_min3, mm_max3, startE, lkE, lkX, lkE_rest, sx, substE, opVA, objs0, List.replicate, XA_seq, XA_region, XOA_go, goE_someA, opV, ev, putA, layAll, XOA_nil, XA_skip_seq, XA_skip_nil, XOA_gd, goG_tA, goG_uA, binV, bi_add, bi_sub, bi_mul, bi_quo, bi_rem, bi_eql, bi_neq, bi_lss, bi_leq, bi_gtr, bi_geq, bi_shl, bi_shr, bi_and, bi_or, bi_xor, unV, XA_ret_nil, XA_ret_cons, endFA_r, endFA_n, endTA_r, endTA_n, endRA_r, endRA_n, fltR, resultsA, resAs, resA, XA_block, XA_cond, pickX_t, pickX_f, pickX_b, XA_skip_blk, XA_skip_lp, XA_exit_seq, XA_exit_lp, XA_exit_blk, XA_exit_nil, load1, Ev.loadCells, objCells, bodyCells, setCells, AV.flat, AV.flat1, backR, backV, backCell, mapO, AV.cells, AV.atom, AV.tree, fillV, repeatL, treeCell, freezeAll, eqCells, callV_T, callV_F, passV, passCell, srcCells, sliceBounds, hiB, loB, thenQ_nA, thenQ_xA, thenQ_rA, runK_nA, runK_xA, runK_rA, wrap_i64, wrap_u64, wrap_u32, wrap_u8, wrap_u16, hl', e1, e2, e3, e4, wakes_ev])
    · cases g : massG l <;> (rw [g] at e1 e2; simp [beqI, bneI, mm_min2, mm_max2, mm_min3, mm_max3, startE, lkE, lkX, lkE_rest, sx, substE, opVA, objs0, List.replicate, XA_seq, XA_region, XOA_go, goE_someA, opV, ev, putA, layAll, XOA_nil, XA_skip_seq, XA_skip_nil, XOA_gd, goG_tA, goG_uA, binV, bi_add, bi_sub, bi_mul, bi_quo, bi_rem, bi_eql, bi_neq, bi_lss, bi_leq, bi_gtr, bi_geq, bi_shl, bi_shr, bi_and, bi_or, bi_xor, unV, XA_ret_nil, XA_ret_cons, endFA_r, endFA_n, endTA_r, endTA_n, endRA_r, endRA_n, fltR, resultsA, resAs, resA, XA_block, XA_cond, pickX_t, pickX_f, pickX_b, XA_skip_blk, XA_skip_lp, XA_exit_seq, XA_exit_lp, XA_exit_blk, XA_exit_nil, load1, Ev.loadCells, objCells, bodyCells, setCells, AV.flat, AV.flat1, backR, backV, backCell, mapO, AV.cells, AV.atom, AV.tree, fillV, repeatL, treeCell, freezeAll, eqCells, callV_T, callV_F, passV, passCell, srcCells, sliceBounds, hiB, loB, thenQ_nA, thenQ_xA, thenQ_rA, runK_nA, runK_xA, runK_rA, wrap_i64, wrap_u64, wrap_u32, wrap_u8, wrap_u16, hl', e1, e2, e3, e4, wakes_ev, c])
  · have hl' : 200 < (l.length : Int) := by omega
    simp [beqI, bneI, mm_min2, mm_max2, mm_min3, mm_max3, startE, lkE, lkX, lkE_rest, sx, substE, opVA, objs0, List.replicate, XA_seq, XA_region, XOA_go, goE_someA, opV, ev, putA, layAll, XOA_nil, XA_skip_seq, XA_skip_nil, XOA_gd, goG_tA, goG_uA, binV, bi_add, bi_sub, bi_mul, bi_quo, bi_rem, bi_eql, bi_neq, bi_lss, bi_leq, bi_gtr, bi_geq, bi_shl, bi_shr, bi_and, bi_or, bi_xor, unV, XA_ret_nil, XA_ret_cons, endFA_r, endFA_n, endTA_r, endTA_n, endRA_r, endRA_n, fltR, resultsA, resAs, resA, XA_block, XA_cond, pickX_t, pickX_f, pickX_b, XA_skip_blk, XA_skip_lp, XA_exit_seq, XA_exit_lp, XA_exit_blk, XA_exit_nil, load1, Ev.loadCells, objCells, bodyCells, setCells, AV.flat, AV.flat1, backR, backV, backCell, mapO, AV.cells, AV.atom, AV.tree, fillV, repeatL, treeCell, freezeAll, eqCells, callV_T, callV_F, passV, passCell, srcCells, sliceBounds, hiB, loB, thenQ_nA, thenQ_xA, thenQ_rA, runK_nA, runK_xA, runK_rA, wrap_i64, wrap_u64, wrap_u32, wrap_u8, wrap_u16, rW, hl', wakes_ev]
theorem rowMass_law (l : List AV) (h : RDargs [.slice gRow, .int .i64] l) : ∃ H1, cfT tab 4 l [] = some (.bool true, H1) := by
  obtain ⟨x, r, rfl, hx, y, r, rfl, hy, rfl⟩ := h
  obtain ⟨l, rfl, hk⟩ := rdarg_rows hx
  obtain ⟨n, rfl, hn⟩ := rdarg_i64 hy
  exact cvF_bool (rowMass_ev l n hk hn)
theorem rowMass_lifted (os : Os) (started : os.Started) (H : Type) (enc : TypeId × Value → H) :
    ReturnsInHanded {} Try.checked os 4 .any (Rows.rowMassSpec.pre6 enc Try.prog Try.f4 Rows.rowMassRow.domain false) (Rows.rowMassSpec.post enc Try.prog Try.f4 false true false false) := by
  refine returnsInHanded_of_change (C := Try.checked) Try.own started (by kernel_rfl) Try.func4
    (ChangeSpec.witness6 (enc := enc) (C := Try.checked) false ⟨#[], #[.slice none 0 0, .int .i64 0], []⟩ 8 (by kernel_rfl) (by kernel_rfl) (by kernel_rfl) (by kernel_rfl)) ?_
  intro W base args ds gs before hval hW hcnd _
  have hval' : ∀ (j : Nat) (t : TypeId) (v : Value), Try.f4.params.toList[j]? = some t → args[j]? = some v → Value.okWide Try.prog W .any base t v := fun j t v h1 h2 => hval j t v (by simpa using h1) h2
  obtain ⟨p, q, hA, hV, hpq, _, _⟩ := id hW
  have hg : gtsB Try.prog [.slice gRow, .int .i64] Try.f4.params.toList = true := by kernel_rfl
  refine (law_calls' tab_ok hg rowMass_law hval' hA).mono fun e W' ⟨he, hb⟩ => ?_
  subst he
  refine ⟨_, rfl, post_true Try.laidOut (rt := 4) (fun ds h => ?_) rfl (by kernel_rfl) (by kernel_rfl) (by kernel_rfl) hW hb⟩
  match ds, h with
  | [_, _], _ => rfl
theorem rowMass_holds : Rows.RowMassSaid :=
  OpenClaim.holds_of_wide 4 Try.f4 rfl rfl rfl rfl rfl rfl rfl ⟨rfl, rfl, rfl, rfl, rfl⟩ rfl rfl rfl rfl rfl (by kernel_rfl) Try.func4 (by kernel_rfl)
    (of_decide_eq_true (by kernel_rfl)) (by unfold Func.isWrapper; first | (rw [if_pos (by decide +kernel)]; kernel_rfl) | (rw [if_neg (by decide +kernel)]; exact ⟨rfl, rfl⟩))
    (fun os started H enc _ => rowMass_lifted os started H enc)
end Go.Proofs.Ytnlihobhbbopfaa
