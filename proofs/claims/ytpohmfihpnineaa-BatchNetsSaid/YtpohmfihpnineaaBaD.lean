/- The base: Do. -/
import Derived.Test.YtpohmfihpnineaaBaC
set_option linter.unusedSimpArgs false
set_option linter.unusedVariables false
set_option maxHeartbeats 16000000
set_option maxRecDepth 100000
namespace Go.Proofs.Ytpohmfihpnineaa
open Go.Ev
theorem sgn_or (del : Bool) : sgn del = 1 ∨ sgn del = -1 := by cases del <;> simp [sgn]
theorem do_cf (ds : List Dm) (m : Int) (S : Bs) (del : Bool) (r : Rw) (hC : okC ds) (hS : okM S) (hE : okE S) (hr : okW r) : ∃ H, cfT tab 30 [.ptr 0 0 0, .agg (chC del r)] [bV 0 1 0 ds m S, bM 0 S] =
    some (.int .i64 (doS ds m S del r).1, [bV 0 1 0 ds m (doS ds m S del r).2, bM 0 (doS ds m S del r).2] ++ H) := by
  have e1 := wgood_ev ds m r hC hr
  obtain ⟨HW, e2⟩ := weigh_cf ds m S r (sgn del) hS hr (sgn_or del)
  unfold doS
  by_cases c1 : goodW ds m r = false
  · rw [if_pos c1]
    rw [c1] at e1
    refine cfTA_E (mf := Mf.f30) rfl rfl (by kernel_rfl) ?_
    simp only [Mf.f30]
    simp only [rowC] at e1
    simp [beqI, bneI, mm_min2, mm_max2, mm_min3, mm_max3, startE, lkE, lkX, lkE_rest, sx, substE, opVA, objs0, List.replicate, XA_seq, XA_region, XOA_go, goE_someA, opV, ev, putA, layAll, XOA_nil, XA_skip_seq, XA_skip_nil, XOA_gd, goG_tA, goG_uA, binV, bi_add, bi_sub, bi_mul, bi_quo, bi_rem, bi_eql, bi_neq, bi_lss, bi_leq, bi_gtr, bi_geq, bi_shl, bi_shr, bi_and, bi_or, bi_xor, unV, XA_ret_nil, XA_ret_cons, endFA_r, endFA_n, endTA_r, endTA_n, endRA_r, endRA_n, endEA_r, endEA_n, List.take, fltR, resultsA, resAs, resA, XA_block, XA_cond, pickX_t, pickX_f, pickX_b, XA_skip_blk, XA_skip_lp, XA_exit_seq, XA_exit_lp, XA_exit_blk, XA_exit_nil, load1, Ev.loadCells, objCells, bodyCells, setCells, AV.flat, AV.flat1, backR, backV, backCell, mapO, AV.cells, AV.atom, AV.tree, fillV, repeatL, treeCell, freezeAll, eqCells, callV_T, callV_F, passN, passV, passCell, srcCells, sliceBounds, hiB, loB, thenQ_nA, thenQ_xA, thenQ_rA, runK_nA, runK_xA, runK_rA, wrap_i64, wrap_u64, wrap_u32, wrap_u8, wrap_u16, callV_O, okIds, passObjs, passBody, backObjs, backBody, adopts, List.idxOf?, List.findIdx?, List.findIdx?.go, isNilP, mapLook, mapGet, keyGet, adopts, List.lookup, bV, bM, chC, rowC, e1]
  · have c1' : goodW ds m r = true := by simpa using c1
    rw [if_neg c1]
    rw [c1'] at e1
    have hlk := mfind_enc r S.es 0
    unfold cntE
    generalize weighV S r (sgn del) = W at *
    obtain ⟨w0, w1, wk⟩ := W
    unfold updE
    cases hf : findE r S.es 0 with
    | none =>
      rw [hf] at hlk
      simp only [Option.map_none] at hlk
      cases del with
      | true =>
        rw [if_pos ⟨rfl, rfl⟩]
        refine cfTA_E (mf := Mf.f30) rfl rfl (by kernel_rfl) ?_
        simp only [Mf.f30]
        simp only [rowC, ks6] at e1 hlk
        simp [beqI, bneI, mm_min2, mm_max2, mm_min3, mm_max3, startE, lkE, lkX, lkE_rest, sx, substE, opVA, objs0, List.replicate, XA_seq, XA_region, XOA_go, goE_someA, opV, ev, putA, layAll, XOA_nil, XA_skip_seq, XA_skip_nil, XOA_gd, goG_tA, goG_uA, binV, bi_add, bi_sub, bi_mul, bi_quo, bi_rem, bi_eql, bi_neq, bi_lss, bi_leq, bi_gtr, bi_geq, bi_shl, bi_shr, bi_and, bi_or, bi_xor, unV, XA_ret_nil, XA_ret_cons, endFA_r, endFA_n, endTA_r, endTA_n, endRA_r, endRA_n, endEA_r, endEA_n, List.take, fltR, resultsA, resAs, resA, XA_block, XA_cond, pickX_t, pickX_f, pickX_b, XA_skip_blk, XA_skip_lp, XA_exit_seq, XA_exit_lp, XA_exit_blk, XA_exit_nil, load1, Ev.loadCells, objCells, bodyCells, setCells, AV.flat, AV.flat1, backR, backV, backCell, mapO, AV.cells, AV.atom, AV.tree, fillV, repeatL, treeCell, freezeAll, eqCells, callV_T, callV_F, passN, passV, passCell, srcCells, sliceBounds, hiB, loB, thenQ_nA, thenQ_xA, thenQ_rA, runK_nA, runK_xA, runK_rA, wrap_i64, wrap_u64, wrap_u32, wrap_u8, wrap_u16, callV_O, okIds, passObjs, passBody, backObjs, backBody, adopts, List.idxOf?, List.findIdx?, List.findIdx?.go, isNilP, mapLook, mapGet, keyGet, adopts, List.lookup, bV, bM, chC, rowC, e1, hlk]
      | false =>
        have e3 : ¬ ((false : Bool) = true ∧ (0 : Int) = 0) := by simp
        rw [if_neg e3]
        simp only [sgn, Bool.false_eq_true, if_false] at e2 ⊢
        cases wk with
        | false =>
          rw [if_pos rfl]
          refine cfTA_E (mf := Mf.f30) rfl rfl (by kernel_rfl) ?_
          simp only [Mf.f30]
          simp only [rowC, bV, bM] at e1 e2
          simp [beqI, bneI, mm_min2, mm_max2, mm_min3, mm_max3, startE, lkE, lkX, lkE_rest, sx, substE, opVA, objs0, List.replicate, XA_seq, XA_region, XOA_go, goE_someA, opV, ev, putA, layAll, XOA_nil, XA_skip_seq, XA_skip_nil, XOA_gd, goG_tA, goG_uA, binV, bi_add, bi_sub, bi_mul, bi_quo, bi_rem, bi_eql, bi_neq, bi_lss, bi_leq, bi_gtr, bi_geq, bi_shl, bi_shr, bi_and, bi_or, bi_xor, unV, XA_ret_nil, XA_ret_cons, endFA_r, endFA_n, endTA_r, endTA_n, endRA_r, endRA_n, endEA_r, endEA_n, List.take, fltR, resultsA, resAs, resA, XA_block, XA_cond, pickX_t, pickX_f, pickX_b, XA_skip_blk, XA_skip_lp, XA_exit_seq, XA_exit_lp, XA_exit_blk, XA_exit_nil, load1, Ev.loadCells, objCells, bodyCells, setCells, AV.flat, AV.flat1, backR, backV, backCell, mapO, AV.cells, AV.atom, AV.tree, fillV, repeatL, treeCell, freezeAll, eqCells, callV_T, callV_F, passN, passV, passCell, srcCells, sliceBounds, hiB, loB, thenQ_nA, thenQ_xA, thenQ_rA, runK_nA, runK_xA, runK_rA, wrap_i64, wrap_u64, wrap_u32, wrap_u8, wrap_u16, callV_O, okIds, passObjs, passBody, backObjs, backBody, adopts, List.idxOf?, List.findIdx?, List.findIdx?.go, isNilP, mapLook, mapGet, keyGet, adopts, List.lookup, bV, bM, chC, rowC, e1, e2]
        | true =>
          rw [if_neg (by simp)]
          have hap := findE_app [(r, (0 : Int), S.clk)] hf
          have hl2 := mfind_enc r (S.es ++ [(r, (0 : Int), S.clk)]) 0
          rw [hap] at hl2
          have hap3 := findE_app [(r, (1 : Int), S.clk)] hf
          have hl3 := mfind_enc r (S.es ++ [(r, (1 : Int), S.clk)]) 0
          rw [hap3] at hl3
          have hb := bornIdx_last (r := r) (v := 0) hE.lt
          have hm : modE (S.es.map encE ++ [(rowC r, 0, S.clk)]) S.es.length 1 = S.es.map encE ++ [(rowC r, 1, S.clk)] := by
            have := modE_last (S.es.map encE) (rowC r, 0, S.clk) 1
            rw [List.length_map] at this
            exact this
          simp only [List.map_append, List.map_cons, List.map_nil, encE, findE, if_true, Option.map_some, Nat.zero_add] at hl2 hl3
          have hw : IntKind.i64.wrap (S.n + 1) = S.n + 1 := wrap_i64 (by have := hE.n0; omega) (by have := hE.n1; omega)
          refine cfTA_E (mf := Mf.f30) rfl rfl (by kernel_rfl) ?_
          simp only [Mf.f30]
          simp only [rowC, bV, bM, ks6] at e1 e2 hlk hl2 hl3 hb hm
          simp [beqI, bneI, mm_min2, mm_max2, mm_min3, mm_max3, startE, lkE, lkX, lkE_rest, sx, substE, opVA, objs0, List.replicate, XA_seq, XA_region, XOA_go, goE_someA, opV, ev, putA, layAll, XOA_nil, XA_skip_seq, XA_skip_nil, XOA_gd, goG_tA, goG_uA, binV, bi_add, bi_sub, bi_mul, bi_quo, bi_rem, bi_eql, bi_neq, bi_lss, bi_leq, bi_gtr, bi_geq, bi_shl, bi_shr, bi_and, bi_or, bi_xor, unV, XA_ret_nil, XA_ret_cons, endFA_r, endFA_n, endTA_r, endTA_n, endRA_r, endRA_n, endEA_r, endEA_n, List.take, fltR, resultsA, resAs, resA, XA_block, XA_cond, pickX_t, pickX_f, pickX_b, XA_skip_blk, XA_skip_lp, XA_exit_seq, XA_exit_lp, XA_exit_blk, XA_exit_nil, load1, Ev.loadCells, objCells, bodyCells, setCells, AV.flat, AV.flat1, backR, backV, backCell, mapO, AV.cells, AV.atom, AV.tree, fillV, repeatL, treeCell, freezeAll, eqCells, callV_T, callV_F, passN, passV, passCell, srcCells, sliceBounds, hiB, loB, thenQ_nA, thenQ_xA, thenQ_rA, runK_nA, runK_xA, runK_rA, wrap_i64, wrap_u64, wrap_u32, wrap_u8, wrap_u16, callV_O, okIds, passObjs, passBody, backObjs, backBody, adopts, List.idxOf?, List.findIdx?, List.findIdx?.go, isNilP, mapLook, mapGet, keyGet, adopts, List.lookup, bV, bM, chC, rowC, e1, e2, hlk, hl2, hl3, hb, hm, hw, encE]
    | some p =>
      obtain ⟨i, e⟩ := p
      obtain ⟨_, hg, hke⟩ := findE_get hf
      obtain ⟨er, v, s⟩ := e
      simp only [Nat.sub_zero] at hg hke
      subst hke
      rw [hf] at hlk
      have hv := hE.po _ (List.mem_of_getElem? hg)
      simp only at hv
      have hv0 : ¬ v = 0 := by omega
      have hb := bornIdx_get hE.nd hg
      have hm1 := modE_enc (v + sgn del) S.es i
      have hfm := findE_mod (v + sgn del) hf
      simp only [Nat.sub_zero] at hfm
      have hl2 := mfind_enc er (modM S.es i (v + sgn del)) 0
      rw [hfm, ← hm1] at hl2
      have her : (modE (S.es.map encE) i (v + sgn del)).eraseIdx i = (S.es.eraseIdx i).map encE := by
        rw [hm1, eraseIdx_mapL]
        unfold modM
        rw [mod_erase]
      rw [if_neg (by simp [hv0])]
      simp only [Option.map_some, encE] at hlk hl2 hb
      have hw : IntKind.i64.wrap (v + sgn del) = v + sgn del := by rcases sgn_or del with h | h <;> rw [h] <;> exact wrap_i64 (by omega) (by omega)
      have hw2 : IntKind.i64.wrap (S.n + sgn del) = S.n + sgn del := by
        have := hE.n0
        have := hE.n1
        rcases sgn_or del with h | h <;> rw [h] <;> exact wrap_i64 (by omega) (by omega)
      have hsg : (if del = true then (-1 : Int) else 1) = sgn del := rfl
      cases wk with
      | false =>
        rw [if_pos rfl]
        refine cfTA_E (mf := Mf.f30) rfl rfl (by kernel_rfl) ?_
        simp only [Mf.f30]
        simp only [rowC, bV, bM, ks6] at e1 e2 hlk
        cases del
        · simp only [sgn, Bool.false_eq_true, if_false] at e2
          simp [beqI, bneI, mm_min2, mm_max2, mm_min3, mm_max3, startE, lkE, lkX, lkE_rest, sx, substE, opVA, objs0, List.replicate, XA_seq, XA_region, XOA_go, goE_someA, opV, ev, putA, layAll, XOA_nil, XA_skip_seq, XA_skip_nil, XOA_gd, goG_tA, goG_uA, binV, bi_add, bi_sub, bi_mul, bi_quo, bi_rem, bi_eql, bi_neq, bi_lss, bi_leq, bi_gtr, bi_geq, bi_shl, bi_shr, bi_and, bi_or, bi_xor, unV, XA_ret_nil, XA_ret_cons, endFA_r, endFA_n, endTA_r, endTA_n, endRA_r, endRA_n, endEA_r, endEA_n, List.take, fltR, resultsA, resAs, resA, XA_block, XA_cond, pickX_t, pickX_f, pickX_b, XA_skip_blk, XA_skip_lp, XA_exit_seq, XA_exit_lp, XA_exit_blk, XA_exit_nil, load1, Ev.loadCells, objCells, bodyCells, setCells, AV.flat, AV.flat1, backR, backV, backCell, mapO, AV.cells, AV.atom, AV.tree, fillV, repeatL, treeCell, freezeAll, eqCells, callV_T, callV_F, passN, passV, passCell, srcCells, sliceBounds, hiB, loB, thenQ_nA, thenQ_xA, thenQ_rA, runK_nA, runK_xA, runK_rA, wrap_i64, wrap_u64, wrap_u32, wrap_u8, wrap_u16, callV_O, okIds, passObjs, passBody, backObjs, backBody, adopts, List.idxOf?, List.findIdx?, List.findIdx?.go, isNilP, mapLook, mapGet, keyGet, adopts, List.lookup, bV, bM, chC, rowC, e1, e2, hlk, hv0]
        · simp only [sgn, if_true] at e2
          simp [beqI, bneI, mm_min2, mm_max2, mm_min3, mm_max3, startE, lkE, lkX, lkE_rest, sx, substE, opVA, objs0, List.replicate, XA_seq, XA_region, XOA_go, goE_someA, opV, ev, putA, layAll, XOA_nil, XA_skip_seq, XA_skip_nil, XOA_gd, goG_tA, goG_uA, binV, bi_add, bi_sub, bi_mul, bi_quo, bi_rem, bi_eql, bi_neq, bi_lss, bi_leq, bi_gtr, bi_geq, bi_shl, bi_shr, bi_and, bi_or, bi_xor, unV, XA_ret_nil, XA_ret_cons, endFA_r, endFA_n, endTA_r, endTA_n, endRA_r, endRA_n, endEA_r, endEA_n, List.take, fltR, resultsA, resAs, resA, XA_block, XA_cond, pickX_t, pickX_f, pickX_b, XA_skip_blk, XA_skip_lp, XA_exit_seq, XA_exit_lp, XA_exit_blk, XA_exit_nil, load1, Ev.loadCells, objCells, bodyCells, setCells, AV.flat, AV.flat1, backR, backV, backCell, mapO, AV.cells, AV.atom, AV.tree, fillV, repeatL, treeCell, freezeAll, eqCells, callV_T, callV_F, passN, passV, passCell, srcCells, sliceBounds, hiB, loB, thenQ_nA, thenQ_xA, thenQ_rA, runK_nA, runK_xA, runK_rA, wrap_i64, wrap_u64, wrap_u32, wrap_u8, wrap_u16, callV_O, okIds, passObjs, passBody, backObjs, backBody, adopts, List.idxOf?, List.findIdx?, List.findIdx?.go, isNilP, mapLook, mapGet, keyGet, adopts, List.lookup, bV, bM, chC, rowC, e1, e2, hlk, hv0]
      | true =>
        rw [if_neg (by simp)]
        refine cfTA_E (mf := Mf.f30) rfl rfl (by kernel_rfl) ?_
        simp only [Mf.f30]
        simp only [rowC, bV, bM, ks6] at e1 e2 hlk hl2
        by_cases cz : v + sgn del = 0
        · simp only [cz, if_true] at hl2 her hw ⊢
          cases del
          · simp only [sgn, Bool.false_eq_true, if_false] at cz
            omega
          · simp only [sgn, if_true] at e2 cz hw2 ⊢
            simp [beqI, bneI, mm_min2, mm_max2, mm_min3, mm_max3, startE, lkE, lkX, lkE_rest, sx, substE, opVA, objs0, List.replicate, XA_seq, XA_region, XOA_go, goE_someA, opV, ev, putA, layAll, XOA_nil, XA_skip_seq, XA_skip_nil, XOA_gd, goG_tA, goG_uA, binV, bi_add, bi_sub, bi_mul, bi_quo, bi_rem, bi_eql, bi_neq, bi_lss, bi_leq, bi_gtr, bi_geq, bi_shl, bi_shr, bi_and, bi_or, bi_xor, unV, XA_ret_nil, XA_ret_cons, endFA_r, endFA_n, endTA_r, endTA_n, endRA_r, endRA_n, endEA_r, endEA_n, List.take, fltR, resultsA, resAs, resA, XA_block, XA_cond, pickX_t, pickX_f, pickX_b, XA_skip_blk, XA_skip_lp, XA_exit_seq, XA_exit_lp, XA_exit_blk, XA_exit_nil, load1, Ev.loadCells, objCells, bodyCells, setCells, AV.flat, AV.flat1, backR, backV, backCell, mapO, AV.cells, AV.atom, AV.tree, fillV, repeatL, treeCell, freezeAll, eqCells, callV_T, callV_F, passN, passV, passCell, srcCells, sliceBounds, hiB, loB, thenQ_nA, thenQ_xA, thenQ_rA, runK_nA, runK_xA, runK_rA, wrap_i64, wrap_u64, wrap_u32, wrap_u8, wrap_u16, callV_O, okIds, passObjs, passBody, backObjs, backBody, adopts, List.idxOf?, List.findIdx?, List.findIdx?.go, isNilP, mapLook, mapGet, keyGet, adopts, List.lookup, bV, bM, chC, rowC, e1, e2, hlk, hl2, hv0, hb, her, hw2, cz, encE]
        · simp only [cz, if_false] at ⊢
          rw [hm1] at hl2
          cases del
          · simp only [sgn, Bool.false_eq_true, if_false] at e2 cz hw2 hl2 hw hm1 ⊢
            simp [beqI, bneI, mm_min2, mm_max2, mm_min3, mm_max3, startE, lkE, lkX, lkE_rest, sx, substE, opVA, objs0, List.replicate, XA_seq, XA_region, XOA_go, goE_someA, opV, ev, putA, layAll, XOA_nil, XA_skip_seq, XA_skip_nil, XOA_gd, goG_tA, goG_uA, binV, bi_add, bi_sub, bi_mul, bi_quo, bi_rem, bi_eql, bi_neq, bi_lss, bi_leq, bi_gtr, bi_geq, bi_shl, bi_shr, bi_and, bi_or, bi_xor, unV, XA_ret_nil, XA_ret_cons, endFA_r, endFA_n, endTA_r, endTA_n, endRA_r, endRA_n, endEA_r, endEA_n, List.take, fltR, resultsA, resAs, resA, XA_block, XA_cond, pickX_t, pickX_f, pickX_b, XA_skip_blk, XA_skip_lp, XA_exit_seq, XA_exit_lp, XA_exit_blk, XA_exit_nil, load1, Ev.loadCells, objCells, bodyCells, setCells, AV.flat, AV.flat1, backR, backV, backCell, mapO, AV.cells, AV.atom, AV.tree, fillV, repeatL, treeCell, freezeAll, eqCells, callV_T, callV_F, passN, passV, passCell, srcCells, sliceBounds, hiB, loB, thenQ_nA, thenQ_xA, thenQ_rA, runK_nA, runK_xA, runK_rA, wrap_i64, wrap_u64, wrap_u32, wrap_u8, wrap_u16, callV_O, okIds, passObjs, passBody, backObjs, backBody, adopts, List.idxOf?, List.findIdx?, List.findIdx?.go, isNilP, mapLook, mapGet, keyGet, adopts, List.lookup, bV, bM, chC, rowC, e1, e2, hlk, hl2, hv0, hb, hm1, hw, hw2, cz, encE]
          · simp only [sgn, if_true] at e2 cz hw2 hl2 hw hm1 ⊢
            simp [beqI, bneI, mm_min2, mm_max2, mm_min3, mm_max3, startE, lkE, lkX, lkE_rest, sx, substE, opVA, objs0, List.replicate, XA_seq, XA_region, XOA_go, goE_someA, opV, ev, putA, layAll, XOA_nil, XA_skip_seq, XA_skip_nil, XOA_gd, goG_tA, goG_uA, binV, bi_add, bi_sub, bi_mul, bi_quo, bi_rem, bi_eql, bi_neq, bi_lss, bi_leq, bi_gtr, bi_geq, bi_shl, bi_shr, bi_and, bi_or, bi_xor, unV, XA_ret_nil, XA_ret_cons, endFA_r, endFA_n, endTA_r, endTA_n, endRA_r, endRA_n, endEA_r, endEA_n, List.take, fltR, resultsA, resAs, resA, XA_block, XA_cond, pickX_t, pickX_f, pickX_b, XA_skip_blk, XA_skip_lp, XA_exit_seq, XA_exit_lp, XA_exit_blk, XA_exit_nil, load1, Ev.loadCells, objCells, bodyCells, setCells, AV.flat, AV.flat1, backR, backV, backCell, mapO, AV.cells, AV.atom, AV.tree, fillV, repeatL, treeCell, freezeAll, eqCells, callV_T, callV_F, passN, passV, passCell, srcCells, sliceBounds, hiB, loB, thenQ_nA, thenQ_xA, thenQ_rA, runK_nA, runK_xA, runK_rA, wrap_i64, wrap_u64, wrap_u32, wrap_u8, wrap_u16, callV_O, okIds, passObjs, passBody, backObjs, backBody, adopts, List.idxOf?, List.findIdx?, List.findIdx?.go, isNilP, mapLook, mapGet, keyGet, adopts, List.lookup, bV, bM, chC, rowC, e1, e2, hlk, hl2, hv0, hb, hm1, hw, hw2, cz, encE]
end Go.Proofs.Ytpohmfihpnineaa
