/- A batch may be folded in two parts. -/
import Derived.Test.YtpohmfihpnineaaBtM
import Derived.Test.YtpohmfihpnineaaPgB
set_option linter.unusedSimpArgs false
set_option linter.unusedVariables false
set_option maxHeartbeats 16000000
set_option maxRecDepth 100000
namespace Go.Proofs.Ytpohmfihpnineaa
open Go.Ev
def gAsk21 : GT := .pair gCat (.pair (.slice gRow) (.pair (.slice gCh) .unit))
theorem rd_ask21 {x : AV} (h : RDarg gAsk21 x) : ∃ ds m rows l, x = .agg [.ro ds.length (flatD ds), .int .i64 m, rW rows, rH l] ∧ okC ds ∧ okL rows ∧ okH l := by
  simp only [RDarg, gAsk21, isAggG, if_true] at h
  obtain ⟨cs, rfl, a, b, rfl, ha, c, d, rfl, hc, e, f, rfl, he, rfl⟩ := h
  obtain ⟨ds, m, rfl, hC, hm⟩ := rd_cat ha
  obtain ⟨rows, hr1, hr⟩ := rdarg_rows (a := c.headD .undef) (by
    obtain ⟨L, rfl, h2, h3⟩ := hc
    exact ⟨L, rfl, h2, h3⟩)
  obtain ⟨l, hl1, hl⟩ := rdarg_chs (a := e.headD .undef) (by
    obtain ⟨L, rfl, h2, h3⟩ := he
    exact ⟨L, rfl, h2, h3⟩)
  obtain ⟨L, rfl, h2, h3⟩ := hc
  obtain ⟨L, rfl, h4, h5⟩ := he
  simp only [List.headD_cons] at hl1 hr1
  exact ⟨ds, m, rows, l, by rw [hr1, hl1]; rfl, hC, hr, hl⟩
theorem rwsameC (l : List Rw) (hn : l.length ≤ 1000) : cvF tabC 15 [rW l, rW l] = some (.bool true) := cvFC (cvFB (cvFS (rwsame_ev l hn)))
theorem goF_len {ds : List Dm} {m : Int} (l : List Ch) : ∀ (rows : List Rw) (i : Nat), (goF ds m rows l i).1.length ≤ rows.length + l.length := by
  induction l with
  | nil => intro rows i; simp [goF]
  | cons c l ih =>
    intro rows i
    rw [goF_cons]
    split
    · have := ih (nxtL ds m rows c.1 c.2) (i + 1)
      have := nxtL_len ds m rows c.1 c.2
      simp only [List.length_cons]
      omega
    · simp
theorem fold_len (ds : List Dm) (m : Int) (rows : List Rw) (l : List Ch) : (foldB ds m rows l).1.length ≤ rows.length + l.length := by
  unfold foldB
  split
  · simp
  · split
    · simp
    · simp only [srt_len]
      exact goF_len l rows 0
theorem fold_at (ds : List Dm) (m : Int) (rows : List Rw) (l : List Ch) : (foldB ds m rows l).2.1 ≤ l.length := by
  unfold foldB
  split
  · simp
  · split
    · by_cases c : 40 < l.length
      · unfold chkB; rw [if_pos c]; simp
      · rcases chk_cases ds m l c with ⟨k, hk, _, _, h⟩ | ⟨_, h⟩ <;> rw [h] <;> simp only <;> omega
    · rcases goF_cases ds m l rows 0 with ⟨k, hk, _, _, h⟩ | ⟨_, h⟩ <;> rw [h] <;> simp only <;> omega
theorem parts_ev (ds : List Dm) (m : Int) (rows : List Rw) (l : List Ch) (a : Int) (hC : okC ds) (hk : okL rows) (hl : okH l) (ha : 0 ≤ a ∧ a ≤ 255) : cvF tabC 7 [.agg [.ro ds.length (flatD ds), .int .i64 m, rW rows, rH l], .int .u8 a] = some (.bool true) := by
  have eL := cvFC (cvFB (cvFS (lightCat_ev ds m)))
  have ew := wakeC_ev
  by_cases c1 : lightC ds = true
  · rw [c1] at eL
    by_cases c2 : rows.length ≤ 45
    · have c2' : ¬ 45 < (rows.length : Int) := by omega
      by_cases c3 : l.length ≤ 45
      · have c3' : ¬ 45 < (l.length : Int) := by omega
        have er := rrows_ev ds m rows hC hk (by omega)
        have ec := rcheck_ev ds m l hC hl (by omega)
        by_cases c4 : givB ds m rows = true
        · rw [c4] at er
          by_cases c5 : (chkB ds m l).2 = 0
          · rw [(chk_ok c5).2.2] at ec
            have w0 : IntKind.i64.wrap a = a := wrap_i64 (by omega) (by omega)
            have w1 : IntKind.i64.wrap ((l.length : Int) + 1) = (l.length : Int) + 1 := wrap_i64 (by omega) (by omega)
            have w2 : a.tmod ((l.length : Int) + 1) = ((a.toNat % (l.length + 1) : Nat) : Int) := by
              rw [Int.tmod_eq_emod_of_nonneg ha.1, Int.natCast_emod, Int.toNat_of_nonneg ha.1]; rfl
            have hkl : a.toNat % (l.length + 1) ≤ l.length := by have := Nat.mod_lt a.toNat (show l.length + 1 > 0 by omega); omega
            have w3 : ¬ (l.length : Int) + 1 = 0 := by omega
            obtain ⟨k, hke⟩ : ∃ k, a.toNat % (l.length + 1) = k := ⟨_, rfl⟩
            rw [hke] at w2 hkl
            have w4 : IntKind.i64.wrap (k : Int) = k := wrap_i64 (by omega) (by omega)
            have hkl' : (k : Int) ≤ l.length := by omega
            have e1 := fold_ev ds m rows l hC hk hl (by omega) (by omega)
            have hlt : okH (l.take k) := fun x hx => hl x (List.mem_of_mem_take hx)
            have hld : okH (l.drop k) := fun x hx => hl x (List.mem_of_mem_drop hx)
            have lt : (l.take k).length = k := by rw [List.length_take]; omega
            have ld : (l.drop k).length = l.length - k := List.length_drop
            have e2 := fold_ev ds m rows (l.take k) hC hk hlt (by omega) (by omega)
            obtain ⟨L1, L2⟩ := parts_law hk hl c4 c5 k hkl
            have s1 := flatH_take l k
            have s2 := flatH_drop l k
            have s3 : (flatH (l.drop k)).take ((l.length - k) * 7) = flatH (l.drop k) := List.take_of_length_le (by rw [flatH_len, ld]; omega)
            have n1 := fold_len ds m rows l
            simp only [rH, lt] at e2
            generalize foldB ds m rows l = P1 at *
            obtain ⟨Z1, p1, q1⟩ := P1
            by_cases d1 : (foldB ds m rows (l.take k)).2.2 = 0
            · obtain ⟨o1, o2, L3, L4⟩ := L2 d1
              clear L1 L2
              generalize foldB ds m rows (l.take k) = P2 at *
              obtain ⟨Z2, p2, q2⟩ := P2
              simp only at d1 o1 o2 L3 L4
              subst d1
              have e3 := fold_ev ds m Z2 (l.drop k) hC o1 hld (by omega) (by omega)
              simp only [rH, ld] at e3
              by_cases d2 : (foldB ds m Z2 (l.drop k)).2.2 = 0
              · have L6 := L4 d2
                clear L3 L4
                generalize foldB ds m Z2 (l.drop k) = P3 at *
                obtain ⟨Z3, p3, q3⟩ := P3
                simp only at L6 d2
                subst d2
                simp only [Prod.mk.injEq] at L6
                obtain ⟨rfl, rfl, rfl⟩ := L6
                have es := rwsameC Z1 (by simp only at n1; omega)
                simp only [toldT, toldC, rH, rW, flatW_nil] at e1 e2 e3 es er ec ⊢
                generalize flatH l = fl at *
                generalize flatH (l.take k) = fl1 at *
                generalize flatH (l.drop k) = fl2 at *
                generalize flatW rows = fw at *
                refine cvFA_R (mf := Mf.f7) rfl rfl (by kernel_rfl) ?_
                simp only [Mf.f7]
                simp [beqI, bneI, mm_min2, mm_max2, mm_min3, mm_max3, startE, lkE, lkX, lkE_rest, sx, substE, opVA, objs0, List.replicate, XA_seq, XA_region, XOA_go, goE_someA, opV, ev, putA, layAll, XOA_nil, XA_skip_seq, XA_skip_nil, XOA_gd, goG_tA, goG_uA, binV, bi_add, bi_sub, bi_mul, bi_quo, bi_rem, bi_eql, bi_neq, bi_lss, bi_leq, bi_gtr, bi_geq, bi_shl, bi_shr, bi_and, bi_or, bi_xor, unV, XA_ret_nil, XA_ret_cons, endFA_r, endFA_n, endTA_r, endTA_n, endRA_r, endRA_n, endEA_r, endEA_n, List.take, fltR, resultsA, resAs, resA, XA_block, XA_cond, pickX_t, pickX_f, pickX_b, XA_skip_blk, XA_skip_lp, XA_exit_seq, XA_exit_lp, XA_exit_blk, XA_exit_nil, load1, Ev.loadCells, objCells, bodyCells, setCells, AV.flat, AV.flat1, backR, backV, backCell, mapO, AV.cells, AV.atom, AV.tree, fillV, repeatL, treeCell, freezeAll, eqCells, callV_T, callV_F, passN, passV, passCell, srcCells, sliceBounds, hiB, loB, thenQ_nA, thenQ_xA, thenQ_rA, runK_nA, runK_xA, runK_rA, wrap_i64, wrap_u64, wrap_u32, wrap_u8, wrap_u16, callV_O, okIds, passObjs, passBody, backObjs, backBody, adopts, List.idxOf?, List.findIdx?, List.findIdx?.go, isNilP, mapLook, mapGet, keyGet, adopts, List.lookup, eL, c2', c3', er, ec, w0, w1, w2, w3, w4, hkl', hkl, s1, s2, s3, e1, e2, e3, es, ew]
              · obtain ⟨L3, L5⟩ := L3 d2
                clear L4
                have hat := fold_at ds m Z2 (l.drop k)
                rw [ld] at hat
                generalize foldB ds m Z2 (l.drop k) = P3 at *
                obtain ⟨Z3, p3, q3⟩ := P3
                simp only at L3 L5 d2 hat
                simp only [Prod.mk.injEq] at L3
                obtain ⟨rfl, rfl⟩ := L3
                subst L5
                have w5 : IntKind.i64.wrap ((k : Int) + (p3 : Int)) = (k : Int) + (p3 : Int) := wrap_i64 (by omega) (by omega)
                simp only [toldT, toldC, rH, rW, flatW_nil] at e1 e2 e3 er ec ⊢
                generalize flatH l = fl at *
                generalize flatH (l.take k) = fl1 at *
                generalize flatH (l.drop k) = fl2 at *
                generalize flatW rows = fw at *
                refine cvFA_R (mf := Mf.f7) rfl rfl (by kernel_rfl) ?_
                simp only [Mf.f7]
                simp [beqI, bneI, mm_min2, mm_max2, mm_min3, mm_max3, startE, lkE, lkX, lkE_rest, sx, substE, opVA, objs0, List.replicate, XA_seq, XA_region, XOA_go, goE_someA, opV, ev, putA, layAll, XOA_nil, XA_skip_seq, XA_skip_nil, XOA_gd, goG_tA, goG_uA, binV, bi_add, bi_sub, bi_mul, bi_quo, bi_rem, bi_eql, bi_neq, bi_lss, bi_leq, bi_gtr, bi_geq, bi_shl, bi_shr, bi_and, bi_or, bi_xor, unV, XA_ret_nil, XA_ret_cons, endFA_r, endFA_n, endTA_r, endTA_n, endRA_r, endRA_n, endEA_r, endEA_n, List.take, fltR, resultsA, resAs, resA, XA_block, XA_cond, pickX_t, pickX_f, pickX_b, XA_skip_blk, XA_skip_lp, XA_exit_seq, XA_exit_lp, XA_exit_blk, XA_exit_nil, load1, Ev.loadCells, objCells, bodyCells, setCells, AV.flat, AV.flat1, backR, backV, backCell, mapO, AV.cells, AV.atom, AV.tree, fillV, repeatL, treeCell, freezeAll, eqCells, callV_T, callV_F, passN, passV, passCell, srcCells, sliceBounds, hiB, loB, thenQ_nA, thenQ_xA, thenQ_rA, runK_nA, runK_xA, runK_rA, wrap_i64, wrap_u64, wrap_u32, wrap_u8, wrap_u16, callV_O, okIds, passObjs, passBody, backObjs, backBody, adopts, List.idxOf?, List.findIdx?, List.findIdx?.go, isNilP, mapLook, mapGet, keyGet, adopts, List.lookup, eL, c2', c3', er, ec, w0, w1, w2, w3, w4, w5, hkl', hkl, s1, s2, s3, e1, e2, e3, d2, ew]
            · obtain ⟨L3, L5⟩ := L1 d1
              clear L1 L2
              generalize foldB ds m rows (l.take k) = P2 at *
              obtain ⟨Z2, p2, q2⟩ := P2
              simp only at L3 L5 d1
              simp only [Prod.mk.injEq] at L3
              obtain ⟨rfl, rfl⟩ := L3
              subst L5
              simp only [toldT, toldC, rH, rW, flatW_nil] at e1 e2 er ec ⊢
              generalize flatH l = fl at *
              generalize flatH (l.take k) = fl1 at *
              generalize flatW rows = fw at *
              refine cvFA_R (mf := Mf.f7) rfl rfl (by kernel_rfl) ?_
              simp only [Mf.f7]
              simp [beqI, bneI, mm_min2, mm_max2, mm_min3, mm_max3, startE, lkE, lkX, lkE_rest, sx, substE, opVA, objs0, List.replicate, XA_seq, XA_region, XOA_go, goE_someA, opV, ev, putA, layAll, XOA_nil, XA_skip_seq, XA_skip_nil, XOA_gd, goG_tA, goG_uA, binV, bi_add, bi_sub, bi_mul, bi_quo, bi_rem, bi_eql, bi_neq, bi_lss, bi_leq, bi_gtr, bi_geq, bi_shl, bi_shr, bi_and, bi_or, bi_xor, unV, XA_ret_nil, XA_ret_cons, endFA_r, endFA_n, endTA_r, endTA_n, endRA_r, endRA_n, endEA_r, endEA_n, List.take, fltR, resultsA, resAs, resA, XA_block, XA_cond, pickX_t, pickX_f, pickX_b, XA_skip_blk, XA_skip_lp, XA_exit_seq, XA_exit_lp, XA_exit_blk, XA_exit_nil, load1, Ev.loadCells, objCells, bodyCells, setCells, AV.flat, AV.flat1, backR, backV, backCell, mapO, AV.cells, AV.atom, AV.tree, fillV, repeatL, treeCell, freezeAll, eqCells, callV_T, callV_F, passN, passV, passCell, srcCells, sliceBounds, hiB, loB, thenQ_nA, thenQ_xA, thenQ_rA, runK_nA, runK_xA, runK_rA, wrap_i64, wrap_u64, wrap_u32, wrap_u8, wrap_u16, callV_O, okIds, passObjs, passBody, backObjs, backBody, adopts, List.idxOf?, List.findIdx?, List.findIdx?.go, isNilP, mapLook, mapGet, keyGet, adopts, List.lookup, eL, c2', c3', er, ec, w0, w1, w2, w3, w4, hkl', hkl, s1, e1, e2, d1, ew]
          · generalize chkB ds m l = CK at *
            obtain ⟨x1, x2⟩ := CK
            simp only at c5
            simp only [toldC, rH, rW, flatW_nil] at er ec ⊢
            refine cvFA_R (mf := Mf.f7) rfl rfl (by kernel_rfl) ?_
            simp only [Mf.f7]
            simp [beqI, bneI, mm_min2, mm_max2, mm_min3, mm_max3, startE, lkE, lkX, lkE_rest, sx, substE, opVA, objs0, List.replicate, XA_seq, XA_region, XOA_go, goE_someA, opV, ev, putA, layAll, XOA_nil, XA_skip_seq, XA_skip_nil, XOA_gd, goG_tA, goG_uA, binV, bi_add, bi_sub, bi_mul, bi_quo, bi_rem, bi_eql, bi_neq, bi_lss, bi_leq, bi_gtr, bi_geq, bi_shl, bi_shr, bi_and, bi_or, bi_xor, unV, XA_ret_nil, XA_ret_cons, endFA_r, endFA_n, endTA_r, endTA_n, endRA_r, endRA_n, endEA_r, endEA_n, List.take, fltR, resultsA, resAs, resA, XA_block, XA_cond, pickX_t, pickX_f, pickX_b, XA_skip_blk, XA_skip_lp, XA_exit_seq, XA_exit_lp, XA_exit_blk, XA_exit_nil, load1, Ev.loadCells, objCells, bodyCells, setCells, AV.flat, AV.flat1, backR, backV, backCell, mapO, AV.cells, AV.atom, AV.tree, fillV, repeatL, treeCell, freezeAll, eqCells, callV_T, callV_F, passN, passV, passCell, srcCells, sliceBounds, hiB, loB, thenQ_nA, thenQ_xA, thenQ_rA, runK_nA, runK_xA, runK_rA, wrap_i64, wrap_u64, wrap_u32, wrap_u8, wrap_u16, callV_O, okIds, passObjs, passBody, backObjs, backBody, adopts, List.idxOf?, List.findIdx?, List.findIdx?.go, isNilP, mapLook, mapGet, keyGet, adopts, List.lookup, eL, c2', c3', er, ec, c5, ew]
        · have c4' : givB ds m rows = false := by simpa using c4
          rw [c4'] at er
          simp only [rH, rW] at er ⊢
          refine cvFA_R (mf := Mf.f7) rfl rfl (by kernel_rfl) ?_
          simp only [Mf.f7]
          simp [beqI, bneI, mm_min2, mm_max2, mm_min3, mm_max3, startE, lkE, lkX, lkE_rest, sx, substE, opVA, objs0, List.replicate, XA_seq, XA_region, XOA_go, goE_someA, opV, ev, putA, layAll, XOA_nil, XA_skip_seq, XA_skip_nil, XOA_gd, goG_tA, goG_uA, binV, bi_add, bi_sub, bi_mul, bi_quo, bi_rem, bi_eql, bi_neq, bi_lss, bi_leq, bi_gtr, bi_geq, bi_shl, bi_shr, bi_and, bi_or, bi_xor, unV, XA_ret_nil, XA_ret_cons, endFA_r, endFA_n, endTA_r, endTA_n, endRA_r, endRA_n, endEA_r, endEA_n, List.take, fltR, resultsA, resAs, resA, XA_block, XA_cond, pickX_t, pickX_f, pickX_b, XA_skip_blk, XA_skip_lp, XA_exit_seq, XA_exit_lp, XA_exit_blk, XA_exit_nil, load1, Ev.loadCells, objCells, bodyCells, setCells, AV.flat, AV.flat1, backR, backV, backCell, mapO, AV.cells, AV.atom, AV.tree, fillV, repeatL, treeCell, freezeAll, eqCells, callV_T, callV_F, passN, passV, passCell, srcCells, sliceBounds, hiB, loB, thenQ_nA, thenQ_xA, thenQ_rA, runK_nA, runK_xA, runK_rA, wrap_i64, wrap_u64, wrap_u32, wrap_u8, wrap_u16, callV_O, okIds, passObjs, passBody, backObjs, backBody, adopts, List.idxOf?, List.findIdx?, List.findIdx?.go, isNilP, mapLook, mapGet, keyGet, adopts, List.lookup, eL, c2', c3', er, ew]
      · have c3' : 45 < (l.length : Int) := by omega
        simp only [rH, rW]
        refine cvFA_R (mf := Mf.f7) rfl rfl (by kernel_rfl) ?_
        simp only [Mf.f7]
        simp [beqI, bneI, mm_min2, mm_max2, mm_min3, mm_max3, startE, lkE, lkX, lkE_rest, sx, substE, opVA, objs0, List.replicate, XA_seq, XA_region, XOA_go, goE_someA, opV, ev, putA, layAll, XOA_nil, XA_skip_seq, XA_skip_nil, XOA_gd, goG_tA, goG_uA, binV, bi_add, bi_sub, bi_mul, bi_quo, bi_rem, bi_eql, bi_neq, bi_lss, bi_leq, bi_gtr, bi_geq, bi_shl, bi_shr, bi_and, bi_or, bi_xor, unV, XA_ret_nil, XA_ret_cons, endFA_r, endFA_n, endTA_r, endTA_n, endRA_r, endRA_n, endEA_r, endEA_n, List.take, fltR, resultsA, resAs, resA, XA_block, XA_cond, pickX_t, pickX_f, pickX_b, XA_skip_blk, XA_skip_lp, XA_exit_seq, XA_exit_lp, XA_exit_blk, XA_exit_nil, load1, Ev.loadCells, objCells, bodyCells, setCells, AV.flat, AV.flat1, backR, backV, backCell, mapO, AV.cells, AV.atom, AV.tree, fillV, repeatL, treeCell, freezeAll, eqCells, callV_T, callV_F, passN, passV, passCell, srcCells, sliceBounds, hiB, loB, thenQ_nA, thenQ_xA, thenQ_rA, runK_nA, runK_xA, runK_rA, wrap_i64, wrap_u64, wrap_u32, wrap_u8, wrap_u16, callV_O, okIds, passObjs, passBody, backObjs, backBody, adopts, List.idxOf?, List.findIdx?, List.findIdx?.go, isNilP, mapLook, mapGet, keyGet, adopts, List.lookup, eL, c2', c3', ew]
    · have c2' : 45 < (rows.length : Int) := by omega
      simp only [rH, rW]
      refine cvFA_R (mf := Mf.f7) rfl rfl (by kernel_rfl) ?_
      simp only [Mf.f7]
      simp [beqI, bneI, mm_min2, mm_max2, mm_min3, mm_max3, startE, lkE, lkX, lkE_rest, sx, substE, opVA, objs0, List.replicate, XA_seq, XA_region, XOA_go, goE_someA, opV, ev, putA, layAll, XOA_nil, XA_skip_seq, XA_skip_nil, XOA_gd, goG_tA, goG_uA, binV, bi_add, bi_sub, bi_mul, bi_quo, bi_rem, bi_eql, bi_neq, bi_lss, bi_leq, bi_gtr, bi_geq, bi_shl, bi_shr, bi_and, bi_or, bi_xor, unV, XA_ret_nil, XA_ret_cons, endFA_r, endFA_n, endTA_r, endTA_n, endRA_r, endRA_n, endEA_r, endEA_n, List.take, fltR, resultsA, resAs, resA, XA_block, XA_cond, pickX_t, pickX_f, pickX_b, XA_skip_blk, XA_skip_lp, XA_exit_seq, XA_exit_lp, XA_exit_blk, XA_exit_nil, load1, Ev.loadCells, objCells, bodyCells, setCells, AV.flat, AV.flat1, backR, backV, backCell, mapO, AV.cells, AV.atom, AV.tree, fillV, repeatL, treeCell, freezeAll, eqCells, callV_T, callV_F, passN, passV, passCell, srcCells, sliceBounds, hiB, loB, thenQ_nA, thenQ_xA, thenQ_rA, runK_nA, runK_xA, runK_rA, wrap_i64, wrap_u64, wrap_u32, wrap_u8, wrap_u16, callV_O, okIds, passObjs, passBody, backObjs, backBody, adopts, List.idxOf?, List.findIdx?, List.findIdx?.go, isNilP, mapLook, mapGet, keyGet, adopts, List.lookup, eL, c2', ew]
  · have c1' : lightC ds = false := by simpa using c1
    rw [c1'] at eL
    simp only [rH, rW]
    refine cvFA_R (mf := Mf.f7) rfl rfl (by kernel_rfl) ?_
    simp only [Mf.f7]
    simp [beqI, bneI, mm_min2, mm_max2, mm_min3, mm_max3, startE, lkE, lkX, lkE_rest, sx, substE, opVA, objs0, List.replicate, XA_seq, XA_region, XOA_go, goE_someA, opV, ev, putA, layAll, XOA_nil, XA_skip_seq, XA_skip_nil, XOA_gd, goG_tA, goG_uA, binV, bi_add, bi_sub, bi_mul, bi_quo, bi_rem, bi_eql, bi_neq, bi_lss, bi_leq, bi_gtr, bi_geq, bi_shl, bi_shr, bi_and, bi_or, bi_xor, unV, XA_ret_nil, XA_ret_cons, endFA_r, endFA_n, endTA_r, endTA_n, endRA_r, endRA_n, endEA_r, endEA_n, List.take, fltR, resultsA, resAs, resA, XA_block, XA_cond, pickX_t, pickX_f, pickX_b, XA_skip_blk, XA_skip_lp, XA_exit_seq, XA_exit_lp, XA_exit_blk, XA_exit_nil, load1, Ev.loadCells, objCells, bodyCells, setCells, AV.flat, AV.flat1, backR, backV, backCell, mapO, AV.cells, AV.atom, AV.tree, fillV, repeatL, treeCell, freezeAll, eqCells, callV_T, callV_F, passN, passV, passCell, srcCells, sliceBounds, hiB, loB, thenQ_nA, thenQ_xA, thenQ_rA, runK_nA, runK_xA, runK_rA, wrap_i64, wrap_u64, wrap_u32, wrap_u8, wrap_u16, callV_O, okIds, passObjs, passBody, backObjs, backBody, adopts, List.idxOf?, List.findIdx?, List.findIdx?.go, isNilP, mapLook, mapGet, keyGet, adopts, List.lookup, eL, ew]
theorem batchParts_law (l : List AV) (h : RDargs [gAsk21, .int .u8] l) : ∃ H1, cfT tabC 7 l [] = some (.bool true, H1) := by
  obtain ⟨x, r, rfl, hx, y, r2, rfl, hy, rfl⟩ := h
  obtain ⟨ds, m, rows, l, rfl, hC, hk, hl⟩ := rd_ask21 hx
  obtain ⟨a, rfl, ha⟩ : ∃ n, y = .int .u8 n ∧ 0 ≤ n ∧ n ≤ 255 := by
    simp only [RDarg, isAggG] at hy
    obtain ⟨n, h1, h2⟩ := hy
    simp at h1
    exact ⟨n, h1, h2.1, h2.2⟩
  exact cvF_bool (parts_ev ds m rows l a hC hk hl ha)
theorem batchParts_lifted (os : Os) (started : os.Started) (H : Type) (enc : TypeId × Value → H) :
    ReturnsInHanded {} Try.checked os 7 .any (Rows.batchPartsSpec.pre6 enc Try.prog Try.f7 Rows.batchPartsRow.domain false) (Rows.batchPartsSpec.post enc Try.prog Try.f7 false true false false) := by
  refine returnsInHanded_of_change (C := Try.checked) Try.own started (by kernel_rfl) Try.func7
    (ChangeSpec.witness6 (enc := enc) (C := Try.checked) false ⟨#[], #[.agg #[.slice none 0 0, .int .i64 0, .slice none 0 0, .slice none 0 0] , .int .u8 0], []⟩ 8 (by kernel_rfl) (by kernel_rfl) (by kernel_rfl) (by kernel_rfl)) ?_
  intro W base args ds gs before hval hW hcnd _
  have hval' : ∀ (j : Nat) (t : TypeId) (v : Value), Try.f7.params.toList[j]? = some t → args[j]? = some v → Value.okWide Try.prog W .any base t v := fun j t v h1 h2 => hval j t v (by simpa using h1) h2
  obtain ⟨p, q, hA, hV, hpq, _, _⟩ := id hW
  have hg : gtsB Try.prog [gAsk21, .int .u8] Try.f7.params.toList = true := by kernel_rfl
  refine (law_calls' tabC_ok hg batchParts_law hval' hA).mono fun e W' ⟨he, hb⟩ => ?_
  subst he
  refine ⟨_, rfl, post_true Try.laidOut (rt := 4) (fun ds h => ?_) rfl (by kernel_rfl) (by kernel_rfl) (by kernel_rfl) hW hb⟩
  match ds, h with
  | [_, _], _ => rfl
theorem batchParts_holds : Rows.BatchPartsSaid :=
  OpenClaim.holds_of_wide 7 Try.f7 rfl rfl rfl rfl rfl rfl rfl ⟨rfl, rfl, rfl, rfl, rfl⟩ rfl rfl rfl rfl rfl (by kernel_rfl) Try.func7 (by kernel_rfl)
    (of_decide_eq_true (by kernel_rfl)) (by unfold Func.isWrapper; first | (rw [if_pos (by decide +kernel)]; kernel_rfl) | (rw [if_neg (by decide +kernel)]; exact ⟨rfl, rfl⟩))
    (fun os started H enc _ => batchParts_lifted os started H enc)
end Go.Proofs.Ytpohmfihpnineaa
