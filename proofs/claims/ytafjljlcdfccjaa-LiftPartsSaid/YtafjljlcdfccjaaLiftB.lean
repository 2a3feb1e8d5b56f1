/- Which places lie in one: Fiber; the document's answers. -/
import Derived.Test.YtafjljlcdfccjaaLiftA
set_option linter.unusedSimpArgs false
set_option linter.unusedVariables false
set_option maxHeartbeats 4000000
set_option maxRecDepth 100000
namespace Go.Proofs.Ytafjljlcdfccjaa
open Go.Ev
theorem rlevels_ev (ds : List Dm) (m i : Int) (hC : okC ds) : cvF tab 24 [.agg [.ro ds.length (flatD ds), .int .i64 m], .int .i64 i] = some (.int .i64 (levelsC ds m i)) := by
  refine cvFA_R (mf := Mf.f24) rfl rfl (by kernel_rfl) ?_
  simp only [Mf.f24]
  cases g : goodC ds m with
  | false => simp [beqI, bneI, mm_min2, mm_max2, mm_min3, mm_max3, startE, lkE, lkX, lkE_rest, sx, substE, opVA, objs0, List.replicate, XA_seq, XA_region, XOA_go, goE_someA, opV, ev, putA, layAll, XOA_nil, XA_skip_seq, XA_skip_nil, XOA_gd, goG_tA, goG_uA, binV, binInt, unV, XA_ret_nil, XA_ret_cons, endFA_r, endFA_n, endTA_r, endTA_n, endRA_r, endRA_n, fltR, resultsA, resAs, resA, XA_block, XA_cond, pickX_t, pickX_f, pickX_b, XA_skip_blk, XA_skip_lp, XA_exit_seq, XA_exit_lp, XA_exit_blk, XA_exit_nil, load1, Ev.loadCells, objCells, bodyCells, setCells, AV.flat, AV.flat1, backR, backV, backCell, mapO, AV.cells, AV.atom, AV.tree, fillV, repeatL, treeCell, freezeAll, eqCells, callV_T, callV_F, passV, passCell, srcCells, sliceBounds, hiB, loB, thenQ_nA, thenQ_xA, thenQ_rA, runK_nA, runK_xA, runK_rA, wrap_i64, wrap_u64, wrap_u32, wrap_u8, wrap_u16, rgood_ev ds m hC, g, levelsC]
  | true =>
    have hl := goodC_len g
    by_cases c1 : 0 ≤ i
    · have c1' : ¬ i < 0 := by omega
      by_cases c2 : i < ds.length
      · have c2' : ¬ (ds.length : Int) ≤ i := by omega
        have hi : i.toNat < ds.length := by omega
        have hgl := good_len (goodC_at g hi)
        have hw2 : IntKind.i64.wrap (((gD ds i.toNat).S.length : Int) + 1) = ((gD ds i.toNat).S.length : Int) + 1 := wrap_i64 (by omega) (by omega)
        simp [beqI, bneI, mm_min2, mm_max2, mm_min3, mm_max3, startE, lkE, lkX, lkE_rest, sx, substE, opVA, objs0, List.replicate, XA_seq, XA_region, XOA_go, goE_someA, opV, ev, putA, layAll, XOA_nil, XA_skip_seq, XA_skip_nil, XOA_gd, goG_tA, goG_uA, binV, binInt, unV, XA_ret_nil, XA_ret_cons, endFA_r, endFA_n, endTA_r, endTA_n, endRA_r, endRA_n, fltR, resultsA, resAs, resA, XA_block, XA_cond, pickX_t, pickX_f, pickX_b, XA_skip_blk, XA_skip_lp, XA_exit_seq, XA_exit_lp, XA_exit_blk, XA_exit_nil, load1, Ev.loadCells, objCells, bodyCells, setCells, AV.flat, AV.flat1, backR, backV, backCell, mapO, AV.cells, AV.atom, AV.tree, fillV, repeatL, treeCell, freezeAll, eqCells, callV_T, callV_F, passV, passCell, srcCells, sliceBounds, hiB, loB, thenQ_nA, thenQ_xA, thenQ_rA, runK_nA, runK_xA, runK_rA, wrap_i64, wrap_u64, wrap_u32, wrap_u8, wrap_u16, rgood_ev ds m hC, g, c1, c1', c2, c2', dropD ds i.toNat hi, rI, hw2, levelsC]
      · have c2' : (ds.length : Int) ≤ i := by omega
        simp [beqI, bneI, mm_min2, mm_max2, mm_min3, mm_max3, startE, lkE, lkX, lkE_rest, sx, substE, opVA, objs0, List.replicate, XA_seq, XA_region, XOA_go, goE_someA, opV, ev, putA, layAll, XOA_nil, XA_skip_seq, XA_skip_nil, XOA_gd, goG_tA, goG_uA, binV, binInt, unV, XA_ret_nil, XA_ret_cons, endFA_r, endFA_n, endTA_r, endTA_n, endRA_r, endRA_n, fltR, resultsA, resAs, resA, XA_block, XA_cond, pickX_t, pickX_f, pickX_b, XA_skip_blk, XA_skip_lp, XA_exit_seq, XA_exit_lp, XA_exit_blk, XA_exit_nil, load1, Ev.loadCells, objCells, bodyCells, setCells, AV.flat, AV.flat1, backR, backV, backCell, mapO, AV.cells, AV.atom, AV.tree, fillV, repeatL, treeCell, freezeAll, eqCells, callV_T, callV_F, passV, passCell, srcCells, sliceBounds, hiB, loB, thenQ_nA, thenQ_xA, thenQ_rA, runK_nA, runK_xA, runK_rA, wrap_i64, wrap_u64, wrap_u32, wrap_u8, wrap_u16, rgood_ev ds m hC, g, c1', c2', levelsC, c2]
    · have c1' : i < 0 := by omega
      simp [beqI, bneI, mm_min2, mm_max2, mm_min3, mm_max3, startE, lkE, lkX, lkE_rest, sx, substE, opVA, objs0, List.replicate, XA_seq, XA_region, XOA_go, goE_someA, opV, ev, putA, layAll, XOA_nil, XA_skip_seq, XA_skip_nil, XOA_gd, goG_tA, goG_uA, binV, binInt, unV, XA_ret_nil, XA_ret_cons, endFA_r, endFA_n, endTA_r, endTA_n, endRA_r, endRA_n, fltR, resultsA, resAs, resA, XA_block, XA_cond, pickX_t, pickX_f, pickX_b, XA_skip_blk, XA_skip_lp, XA_exit_seq, XA_exit_lp, XA_exit_blk, XA_exit_nil, load1, Ev.loadCells, objCells, bodyCells, setCells, AV.flat, AV.flat1, backR, backV, backCell, mapO, AV.cells, AV.atom, AV.tree, fillV, repeatL, treeCell, freezeAll, eqCells, callV_T, callV_F, passV, passCell, srcCells, sliceBounds, hiB, loB, thenQ_nA, thenQ_xA, thenQ_rA, runK_nA, runK_xA, runK_rA, wrap_i64, wrap_u64, wrap_u32, wrap_u8, wrap_u16, rgood_ev ds m hC, g, c1', levelsC, c1]
theorem rWithin_ev (ds : List Dm) (m : Int) (v a : List Int) (dim lv : Int) (ms : List Int) (hC : okC ds) (hv : okN v) (ha : okN a) (hms : ms.length ≤ 9223372036854775807) :
    cvF tab 14 [.agg [.ro ds.length (flatD ds), .int .i64 m], .agg (v.map (.int .u8)), .agg (a.map (.int .u8)), .agg [.int .i64 dim, .int .i64 lv, rI ms]] = some (.bool (withinC ds m v a dim lv ms)) := by
  refine cvFA_R (mf := Mf.f14) rfl rfl (by kernel_rfl) ?_
  simp only [Mf.f14]
  have e1 := rright_ev ds m v a hC hv ha
  have pf := passN hv
  have pa := passN ha
  have tf := take4 hv
  have ta := take4 ha
  have lf := hv.1
  have la := ha.1
  cases c1 : rightC ds m v a with
  | false =>
    rw [c1] at e1
    simp [beqI, bneI, mm_min2, mm_max2, mm_min3, mm_max3, startE, lkE, lkX, lkE_rest, sx, substE, opVA, objs0, List.replicate, XA_seq, XA_region, XOA_go, goE_someA, opV, ev, putA, layAll, XOA_nil, XA_skip_seq, XA_skip_nil, XOA_gd, goG_tA, goG_uA, binV, binInt, unV, XA_ret_nil, XA_ret_cons, endFA_r, endFA_n, endTA_r, endTA_n, endRA_r, endRA_n, fltR, resultsA, resAs, resA, XA_block, XA_cond, pickX_t, pickX_f, pickX_b, XA_skip_blk, XA_skip_lp, XA_exit_seq, XA_exit_lp, XA_exit_blk, XA_exit_nil, load1, Ev.loadCells, objCells, bodyCells, setCells, AV.flat, AV.flat1, backR, backV, backCell, mapO, AV.cells, AV.atom, AV.tree, fillV, repeatL, treeCell, freezeAll, eqCells, callV_T, callV_F, passV, passCell, srcCells, sliceBounds, hiB, loB, thenQ_nA, thenQ_xA, thenQ_rA, runK_nA, runK_xA, runK_rA, wrap_i64, wrap_u64, wrap_u32, wrap_u8, wrap_u16, rI, e1, lf, la, pf, pa, tf, ta, withinC, c1]
  | true =>
    rw [c1] at e1
    have g := rightC_good c1
    have hl := goodC_len g
    by_cases c2 : 0 ≤ dim
    · have c2' : ¬ dim < 0 := by omega
      by_cases c3 : dim < ds.length
      · have c3' : ¬ (ds.length : Int) ≤ dim := by omega
        obtain ⟨i, rfl⟩ : ∃ i : Nat, dim = i := ⟨dim.toNat, by omega⟩
        have hi : i < ds.length := by omega
        have hi4 : i < 4 := by omega
        have hi4' : (i : Int) < 4 := by omega
        obtain ⟨hS, hU⟩ := fits_of (hC.at hi)
        have gd := goodC_at g hi
        have el := refLift_ev (gD ds i).S (gD ds i).U (gI v i) lv (gI a i) hS hU
        simp only [rI, rR] at el
        have bf := hv.at hi4
        have ba := ha.at hi4
        unfold byte at bf ba
        have hsz := rightC_at c1 hi
        have w1 : IntKind.i64.wrap (gI v i) = gI v i := wrap_i64 (by omega) (by omega)
        have w3 : IntKind.i64.wrap (gI a i) = gI a i := wrap_i64 (by omega) (by omega)
        have elv := rlevels_ev ds m i hC
        have hlv : levelsC ds m i = ((gD ds i).S.length : Int) + 1 := by
          unfold levelsC
          rw [if_pos ⟨g, by omega, c3⟩]
          simp
        rw [hlv] at elv
        by_cases d1 : gI v i ≤ lv
        · have d1' : ¬ lv < gI v i := by omega
          by_cases d2 : lv < ((gD ds i).S.length : Int) + 1
          · have d2' : ¬ ((gD ds i).S.length : Int) + 1 ≤ lv := by omega
            have k := liftOk_of gd bf.1 d1 (show lv ≤ (gD ds i).S.length by omega) ba.1 hsz
            have hwc : withinC ds m v a i lv ms = decide (liftD (gD ds i).S (gD ds i).U (gI v i).toNat lv.toNat (gI a i) ∈ ms) := by
              simp [withinC, c1, c3, k, hi]
            unfold refL at el
            rw [k, if_pos rfl] at el
            rw [hwc]
            generalize liftD (gD ds i).S (gD ds i).U (gI v i).toNat lv.toNat (gI a i) = y at *
            simp [beqI, bneI, mm_min2, mm_max2, mm_min3, mm_max3, startE, lkE, lkX, lkE_rest, sx, substE, opVA, objs0, List.replicate, XA_seq, XA_region, XOA_go, goE_someA, opV, ev, putA, layAll, XOA_nil, XA_skip_seq, XA_skip_nil, XOA_gd, goG_tA, goG_uA, binV, binInt, unV, XA_ret_nil, XA_ret_cons, endFA_r, endFA_n, endTA_r, endTA_n, endRA_r, endRA_n, fltR, resultsA, resAs, resA, XA_block, XA_cond, pickX_t, pickX_f, pickX_b, XA_skip_blk, XA_skip_lp, XA_exit_seq, XA_exit_lp, XA_exit_blk, XA_exit_nil, load1, Ev.loadCells, objCells, bodyCells, setCells, AV.flat, AV.flat1, backR, backV, backCell, mapO, AV.cells, AV.atom, AV.tree, fillV, repeatL, treeCell, freezeAll, eqCells, callV_T, callV_F, passV, passCell, srcCells, sliceBounds, hiB, loB, thenQ_nA, thenQ_xA, thenQ_rA, runK_nA, runK_xA, runK_rA, wrap_i64, wrap_u64, wrap_u32, wrap_u8, wrap_u16, rI, rR, e1, lf, la, pf, pa, tf, ta, c2', c3, c3', dropD ds i hi, getN hv hi4, getN ha hi4, hi4', w1, w3, el, elv, d1', d2']
            refine XA_for (fun j => ⟨[(7, .ptr 3 0 0), (9, .int .i64 y), (10, .int .i64 j)], [⟨0, .none⟩, ⟨0, .none⟩, ⟨0, .none⟩, ⟨0, .var [.int .i64 i, .int .i64 lv, .ro ms.length (ms.map (.int .i64))]⟩]⟩)
              (fun j => y ∉ ms.take j) ms.length 0 (Nat.zero_le _) (by simp [AV.atom, normA, lkE, fixObjs, fixBody, fixV, fixCell]) (by simp) ?_ ?_
            · intro j _ hj hJ
              have hj' : (j : Int) < ms.length := by omega
              by_cases c : ms[j] = y
              · have hin : y ∈ ms := by rw [← c]; exact List.getElem_mem hj
                simp [beqI, bneI, mm_min2, mm_max2, mm_min3, mm_max3, startE, lkE, lkX, lkE_rest, sx, substE, opVA, objs0, List.replicate, XA_seq, XA_region, XOA_go, goE_someA, opV, ev, putA, layAll, XOA_nil, XA_skip_seq, XA_skip_nil, XOA_gd, goG_tA, goG_uA, binV, binInt, unV, XA_ret_nil, XA_ret_cons, endFA_r, endFA_n, endTA_r, endTA_n, endRA_r, endRA_n, fltR, resultsA, resAs, resA, XA_block, XA_cond, pickX_t, pickX_f, pickX_b, XA_skip_blk, XA_skip_lp, XA_exit_seq, XA_exit_lp, XA_exit_blk, XA_exit_nil, load1, Ev.loadCells, objCells, bodyCells, setCells, AV.flat, AV.flat1, backR, backV, backCell, mapO, AV.cells, AV.atom, AV.tree, fillV, repeatL, treeCell, freezeAll, eqCells, callV_T, callV_F, passV, passCell, srcCells, sliceBounds, hiB, loB, thenQ_nA, thenQ_xA, thenQ_rA, runK_nA, runK_xA, runK_rA, wrap_i64, wrap_u64, wrap_u32, wrap_u8, wrap_u16, AV.atom, normA, lkE, fixObjs, fixBody, fixV, fixCell, hj', idxI ms j hj, c, hin]
              · have hJ2 : y ∉ ms.take (j + 1) := by
                  rw [List.take_succ_eq_append_getElem hj]
                  intro h
                  rcases List.mem_append.1 h with h | h
                  · exact hJ h
                  · rw [List.mem_singleton] at h
                    exact c h.symm
                simp [beqI, bneI, mm_min2, mm_max2, mm_min3, mm_max3, startE, lkE, lkX, lkE_rest, sx, substE, opVA, objs0, List.replicate, XA_seq, XA_region, XOA_go, goE_someA, opV, ev, putA, layAll, XOA_nil, XA_skip_seq, XA_skip_nil, XOA_gd, goG_tA, goG_uA, binV, binInt, unV, XA_ret_nil, XA_ret_cons, endFA_r, endFA_n, endTA_r, endTA_n, endRA_r, endRA_n, fltR, resultsA, resAs, resA, XA_block, XA_cond, pickX_t, pickX_f, pickX_b, XA_skip_blk, XA_skip_lp, XA_exit_seq, XA_exit_lp, XA_exit_blk, XA_exit_nil, load1, Ev.loadCells, objCells, bodyCells, setCells, AV.flat, AV.flat1, backR, backV, backCell, mapO, AV.cells, AV.atom, AV.tree, fillV, repeatL, treeCell, freezeAll, eqCells, callV_T, callV_F, passV, passCell, srcCells, sliceBounds, hiB, loB, thenQ_nA, thenQ_xA, thenQ_rA, runK_nA, runK_xA, runK_rA, wrap_i64, wrap_u64, wrap_u32, wrap_u8, wrap_u16, AV.atom, normA, lkE, fixObjs, fixBody, fixV, fixCell, hj', idxI ms j hj, c, wrap_succ j ms.length hj hms]
                exact hJ2
            · intro hJ
              rw [List.take_length] at hJ
              simp [beqI, bneI, mm_min2, mm_max2, mm_min3, mm_max3, startE, lkE, lkX, lkE_rest, sx, substE, opVA, objs0, List.replicate, XA_seq, XA_region, XOA_go, goE_someA, opV, ev, putA, layAll, XOA_nil, XA_skip_seq, XA_skip_nil, XOA_gd, goG_tA, goG_uA, binV, binInt, unV, XA_ret_nil, XA_ret_cons, endFA_r, endFA_n, endTA_r, endTA_n, endRA_r, endRA_n, fltR, resultsA, resAs, resA, XA_block, XA_cond, pickX_t, pickX_f, pickX_b, XA_skip_blk, XA_skip_lp, XA_exit_seq, XA_exit_lp, XA_exit_blk, XA_exit_nil, load1, Ev.loadCells, objCells, bodyCells, setCells, AV.flat, AV.flat1, backR, backV, backCell, mapO, AV.cells, AV.atom, AV.tree, fillV, repeatL, treeCell, freezeAll, eqCells, callV_T, callV_F, passV, passCell, srcCells, sliceBounds, hiB, loB, thenQ_nA, thenQ_xA, thenQ_rA, runK_nA, runK_xA, runK_rA, wrap_i64, wrap_u64, wrap_u32, wrap_u8, wrap_u16, AV.atom, normA, lkE, fixObjs, fixBody, fixV, fixCell, hJ]
          · have d2' : ((gD ds i).S.length : Int) + 1 ≤ lv := by omega
            have k : liftOk (gD ds i).S (gD ds i).U (gI v i) lv (gI a i) = false := by
              rw [Bool.eq_false_iff]
              intro h
              have := liftOk_iff h
              omega
            simp [beqI, bneI, mm_min2, mm_max2, mm_min3, mm_max3, startE, lkE, lkX, lkE_rest, sx, substE, opVA, objs0, List.replicate, XA_seq, XA_region, XOA_go, goE_someA, opV, ev, putA, layAll, XOA_nil, XA_skip_seq, XA_skip_nil, XOA_gd, goG_tA, goG_uA, binV, binInt, unV, XA_ret_nil, XA_ret_cons, endFA_r, endFA_n, endTA_r, endTA_n, endRA_r, endRA_n, fltR, resultsA, resAs, resA, XA_block, XA_cond, pickX_t, pickX_f, pickX_b, XA_skip_blk, XA_skip_lp, XA_exit_seq, XA_exit_lp, XA_exit_blk, XA_exit_nil, load1, Ev.loadCells, objCells, bodyCells, setCells, AV.flat, AV.flat1, backR, backV, backCell, mapO, AV.cells, AV.atom, AV.tree, fillV, repeatL, treeCell, freezeAll, eqCells, callV_T, callV_F, passV, passCell, srcCells, sliceBounds, hiB, loB, thenQ_nA, thenQ_xA, thenQ_rA, runK_nA, runK_xA, runK_rA, wrap_i64, wrap_u64, wrap_u32, wrap_u8, wrap_u16, rI, rR, e1, lf, la, pf, pa, tf, ta, c2', c3, c3', getN hv hi4, hi4', w1, elv, d1', d2', withinC, c1, k]
        · have d1' : lv < gI v i := by omega
          have k : liftOk (gD ds i).S (gD ds i).U (gI v i) lv (gI a i) = false := by simp [liftOk, d1]
          simp [beqI, bneI, mm_min2, mm_max2, mm_min3, mm_max3, startE, lkE, lkX, lkE_rest, sx, substE, opVA, objs0, List.replicate, XA_seq, XA_region, XOA_go, goE_someA, opV, ev, putA, layAll, XOA_nil, XA_skip_seq, XA_skip_nil, XOA_gd, goG_tA, goG_uA, binV, binInt, unV, XA_ret_nil, XA_ret_cons, endFA_r, endFA_n, endTA_r, endTA_n, endRA_r, endRA_n, fltR, resultsA, resAs, resA, XA_block, XA_cond, pickX_t, pickX_f, pickX_b, XA_skip_blk, XA_skip_lp, XA_exit_seq, XA_exit_lp, XA_exit_blk, XA_exit_nil, load1, Ev.loadCells, objCells, bodyCells, setCells, AV.flat, AV.flat1, backR, backV, backCell, mapO, AV.cells, AV.atom, AV.tree, fillV, repeatL, treeCell, freezeAll, eqCells, callV_T, callV_F, passV, passCell, srcCells, sliceBounds, hiB, loB, thenQ_nA, thenQ_xA, thenQ_rA, runK_nA, runK_xA, runK_rA, wrap_i64, wrap_u64, wrap_u32, wrap_u8, wrap_u16, rI, rR, e1, lf, la, pf, pa, tf, ta, c2', c3, c3', getN hv hi4, hi4', w1, d1', withinC, c1, k]
      · have c3' : (ds.length : Int) ≤ dim := by omega
        simp [beqI, bneI, mm_min2, mm_max2, mm_min3, mm_max3, startE, lkE, lkX, lkE_rest, sx, substE, opVA, objs0, List.replicate, XA_seq, XA_region, XOA_go, goE_someA, opV, ev, putA, layAll, XOA_nil, XA_skip_seq, XA_skip_nil, XOA_gd, goG_tA, goG_uA, binV, binInt, unV, XA_ret_nil, XA_ret_cons, endFA_r, endFA_n, endTA_r, endTA_n, endRA_r, endRA_n, fltR, resultsA, resAs, resA, XA_block, XA_cond, pickX_t, pickX_f, pickX_b, XA_skip_blk, XA_skip_lp, XA_exit_seq, XA_exit_lp, XA_exit_blk, XA_exit_nil, load1, Ev.loadCells, objCells, bodyCells, setCells, AV.flat, AV.flat1, backR, backV, backCell, mapO, AV.cells, AV.atom, AV.tree, fillV, repeatL, treeCell, freezeAll, eqCells, callV_T, callV_F, passV, passCell, srcCells, sliceBounds, hiB, loB, thenQ_nA, thenQ_xA, thenQ_rA, runK_nA, runK_xA, runK_rA, wrap_i64, wrap_u64, wrap_u32, wrap_u8, wrap_u16, rI, e1, lf, la, pf, pa, tf, ta, c2', c3', withinC, c1, c3]
    · have c2' : dim < 0 := by omega
      simp [beqI, bneI, mm_min2, mm_max2, mm_min3, mm_max3, startE, lkE, lkX, lkE_rest, sx, substE, opVA, objs0, List.replicate, XA_seq, XA_region, XOA_go, goE_someA, opV, ev, putA, layAll, XOA_nil, XA_skip_seq, XA_skip_nil, XOA_gd, goG_tA, goG_uA, binV, binInt, unV, XA_ret_nil, XA_ret_cons, endFA_r, endFA_n, endTA_r, endTA_n, endRA_r, endRA_n, fltR, resultsA, resAs, resA, XA_block, XA_cond, pickX_t, pickX_f, pickX_b, XA_skip_blk, XA_skip_lp, XA_exit_seq, XA_exit_lp, XA_exit_blk, XA_exit_nil, load1, Ev.loadCells, objCells, bodyCells, setCells, AV.flat, AV.flat1, backR, backV, backCell, mapO, AV.cells, AV.atom, AV.tree, fillV, repeatL, treeCell, freezeAll, eqCells, callV_T, callV_F, passV, passCell, srcCells, sliceBounds, hiB, loB, thenQ_nA, thenQ_xA, thenQ_rA, runK_nA, runK_xA, runK_rA, wrap_i64, wrap_u64, wrap_u32, wrap_u8, wrap_u16, rI, e1, lf, la, pf, pa, tf, ta, c2', withinC, c1, c2]
/-! ### With each member -/
def withL (l : List (List Int)) (dim : Nat) (ms : List Int) : List (List Int) := l.flatMap fun v => ms.map fun x => v.set dim x
theorem withL_len4 {l : List (List Int)} (h : ∀ v ∈ l, v.length = 4) (dim : Nat) (ms : List Int) : ∀ v ∈ withL l dim ms, v.length = 4 := by
  intro v hv
  obtain ⟨w, hw, hv⟩ := List.mem_flatMap.1 hv
  obtain ⟨x, _, rfl⟩ := List.mem_map.1 hv
  rw [List.length_set]
  exact h w hw
theorem withL_len (l : List (List Int)) (dim : Nat) (ms : List Int) : (withL l dim ms).length = l.length * ms.length := by
  unfold withL
  rw [List.length_flatMap]
  simp only [List.length_map]
  induction l with
  | nil => simp
  | cons a l ih => rw [List.map_cons, List.sum_cons, ih, List.length_cons, Nat.succ_mul]; omega
def atS (v : List Int) (dim : Nat) (ms : List Int) : Nat → List Int
  | 0 => v
  | j + 1 => v.set dim (gI ms j)
theorem atS_set (v : List Int) (dim : Nat) (ms : List Int) (j : Nat) (y : Int) : (atS v dim ms j).set dim y = v.set dim y := by
  cases j with
  | zero => rfl
  | succ j => simp [atS]
theorem with_ev (l : List (List Int)) (dim : Nat) (ms : List Int) (h4 : ∀ v ∈ l, v.length = 4) (hd : dim < 4) (hm : ∀ x ∈ ms, byte x) (hl : l.length ≤ 200000) (hml : ms.length ≤ 40) :
    cvT tab 36 [rN l, .int .i64 dim, rI ms] = some (rN (withL l dim ms)) := by
  refine cvTA_R (mf := Mf.f36) rfl rfl (by kernel_rfl) ?_
  simp only [Mf.f36]
  have hd' : (dim : Int) < 4 := by omega
  simp [beqI, bneI, mm_min2, mm_max2, mm_min3, mm_max3, startE, lkE, lkX, lkE_rest, sx, substE, opVA, objs0, List.replicate, XA_seq, XA_region, XOA_go, goE_someA, opV, ev, putA, layAll, XOA_nil, XA_skip_seq, XA_skip_nil, XOA_gd, goG_tA, goG_uA, binV, binInt, unV, XA_ret_nil, XA_ret_cons, endFA_r, endFA_n, endTA_r, endTA_n, endRA_r, endRA_n, fltR, resultsA, resAs, resA, XA_block, XA_cond, pickX_t, pickX_f, pickX_b, XA_skip_blk, XA_skip_lp, XA_exit_seq, XA_exit_lp, XA_exit_blk, XA_exit_nil, load1, Ev.loadCells, objCells, bodyCells, setCells, AV.flat, AV.flat1, backR, backV, backCell, mapO, AV.cells, AV.atom, AV.tree, fillV, repeatL, treeCell, freezeAll, eqCells, callV_T, callV_F, passV, passCell, srcCells, sliceBounds, hiB, loB, thenQ_nA, thenQ_xA, thenQ_rA, runK_nA, runK_xA, runK_rA, wrap_i64, wrap_u64, wrap_u32, wrap_u8, wrap_u16, rN, rI]
  refine XA_for (fun i => ⟨[(1, .int .i64 dim), (2, .ro ms.length (ms.map (.int .i64))), (7, .own 0 0 0 ((l.take i).length * ms.length) 4), (12, .ro l.length (flatN l)), (13, .int .i64 l.length), (14, .int .i64 i)], [⟨0, .row true 4 (flatN (withL (l.take i) dim ms))⟩, ⟨0, .none⟩]⟩)
    (fun _ => True) l.length 0 (Nat.zero_le _) (by simp [AV.atom, normA, lkE, fixObjs, fixBody, fixV, fixCell, withL, flatN]) trivial ?_ ?_
  · intro i _ hi _
    have hi' : (i : Int) < l.length := by omega
    have hdr := dropN h4 hi
    have hx4 := h4 _ (gR_mem hi)
    have hsucc : withL (l.take (i + 1)) dim ms = withL (l.take i) dim ms ++ ms.map fun x => (gR l i).set dim x := by
      unfold withL
      rw [List.take_succ_eq_append_getElem hi, List.flatMap_append, gR_get _ _ hi]
      simp
    have hbase4 := withL_len4 (l := l.take i) (fun v hv => h4 v (List.mem_of_mem_take hv)) dim ms
    have hbl := withL_len (l.take i) dim ms
    have hlt : (l.take i).length = i := by rw [List.length_take]; omega
    have hlt2 : (l.take (i + 1)).length = i + 1 := by rw [List.length_take]; omega
    rw [hsucc, hlt2]
    rw [hlt] at hbl ⊢
    generalize withL (l.take i) dim ms = base at *
    generalize gR l i = v at *
    have hx := list4 hx4
    have hbb : i * ms.length ≤ 200000 * 40 := Nat.mul_le_mul (by omega) hml
    have hws := wrap_succ i l.length hi (by omega)
    simp [beqI, bneI, mm_min2, mm_max2, mm_min3, mm_max3, startE, lkE, lkX, lkE_rest, sx, substE, opVA, objs0, List.replicate, XA_seq, XA_region, XOA_go, goE_someA, opV, ev, putA, layAll, XOA_nil, XA_skip_seq, XA_skip_nil, XOA_gd, goG_tA, goG_uA, binV, binInt, unV, XA_ret_nil, XA_ret_cons, endFA_r, endFA_n, endTA_r, endTA_n, endRA_r, endRA_n, fltR, resultsA, resAs, resA, XA_block, XA_cond, pickX_t, pickX_f, pickX_b, XA_skip_blk, XA_skip_lp, XA_exit_seq, XA_exit_lp, XA_exit_blk, XA_exit_nil, load1, Ev.loadCells, objCells, bodyCells, setCells, AV.flat, AV.flat1, backR, backV, backCell, mapO, AV.cells, AV.atom, AV.tree, fillV, repeatL, treeCell, freezeAll, eqCells, callV_T, callV_F, passV, passCell, srcCells, sliceBounds, hiB, loB, thenQ_nA, thenQ_xA, thenQ_rA, runK_nA, runK_xA, runK_rA, wrap_i64, wrap_u64, wrap_u32, wrap_u8, wrap_u16, AV.atom, normA, lkE, fixObjs, fixBody, fixV, fixCell, hi', hdr]
    refine XA_for (fun j => ⟨[(1, .int .i64 dim), (2, .ro ms.length (ms.map (.int .i64))), (7, .own 0 0 0 (i * ms.length + j) 4), (9, .ptr 1 0 0), (12, .ro l.length (flatN l)), (13, .int .i64 l.length), (14, .int .i64 i), (18, .ro ms.length (ms.map (.int .i64))), (19, .int .i64 ms.length), (20, .int .i64 j)], [⟨0, .row true 4 (flatN (base ++ (ms.take j).map fun x => v.set dim x))⟩, ⟨0, .var ((atS v dim ms j).map (.int .u8))⟩]⟩)
      (fun _ => True) ms.length 0 (Nat.zero_le _) (by
        conv => rhs; rw [show atS v dim ms 0 = [gI v 0, gI v 1, gI v 2, gI v 3] from hx]
        simp [AV.atom, normA, lkE, fixObjs, fixBody, fixV, fixCell]) trivial ?_ ?_
    · intro j _ hj _
      have hj' : (j : Int) < ms.length := by omega
      have hb := hm _ (List.getElem_mem hj)
      unfold byte at hb
      have hw : IntKind.u8.wrap (ms[j]) = ms[j] := wrap_u8 (by omega) (by omega)
      have hal : (atS v dim ms j).length = 4 := by
        cases j with
        | zero => exact hx4
        | succ j => simp [atS, hx4]
      have hset := set_map (AV.int .u8) (atS v dim ms j) dim (ms[j]) (by omega)
      rw [atS_set] at hset
      have hatS : atS v dim ms (j + 1) = v.set dim (ms[j]) := by simp only [atS, gI_get _ _ hj]
      have hfl : (flatN (base ++ (ms.take j).map fun x => v.set dim x)).length = (i * ms.length + j) * 4 := by
        rw [flatN_len]
        · simp [hbl, Nat.min_eq_left (Nat.le_of_lt hj)]
        · intro w hw
          rcases List.mem_append.1 hw with hw | hw
          · exact hbase4 w hw
          · obtain ⟨x, _, rfl⟩ := List.mem_map.1 hw
            rw [List.length_set, hx4]
      have happ : flatN (base ++ (ms.take (j + 1)).map fun x => v.set dim x) = flatN (base ++ (ms.take j).map fun x => v.set dim x) ++ (v.set dim (ms[j])).map (.int .u8) := by
        rw [List.take_succ_eq_append_getElem hj, List.map_append, ← List.append_assoc, flatN_append]
        simp [flatN]
      have q1 : (i * ms.length + j + 1) * 4 ≤ 140737488355328 := by omega
      have q2 : i * ms.length + j + 1 < 4611686018427387904 := by omega
      have hdle : dim + 1 ≤ 4 := by omega
      have hwl : (v.set dim (ms[j])).length = 4 := by rw [List.length_set, hx4]
      rw [happ, hatS]
      generalize flatN (base ++ (ms.take j).map fun x => v.set dim x) = cs at *
      generalize atS v dim ms j = ats at *
      generalize v.set dim (ms[j]) = nv at *
      obtain ⟨n0, n1, n2, n3, hnv⟩ : ∃ a b c d, nv = [a, b, c, d] := ⟨_, _, _, _, list4 hwl⟩
      subst hnv
      simp only [List.map] at hset
      simp [beqI, bneI, mm_min2, mm_max2, mm_min3, mm_max3, startE, lkE, lkX, lkE_rest, sx, substE, opVA, objs0, List.replicate, XA_seq, XA_region, XOA_go, goE_someA, opV, ev, putA, layAll, XOA_nil, XA_skip_seq, XA_skip_nil, XOA_gd, goG_tA, goG_uA, binV, binInt, unV, XA_ret_nil, XA_ret_cons, endFA_r, endFA_n, endTA_r, endTA_n, endRA_r, endRA_n, fltR, resultsA, resAs, resA, XA_block, XA_cond, pickX_t, pickX_f, pickX_b, XA_skip_blk, XA_skip_lp, XA_exit_seq, XA_exit_lp, XA_exit_blk, XA_exit_nil, load1, Ev.loadCells, objCells, bodyCells, setCells, AV.flat, AV.flat1, backR, backV, backCell, mapO, AV.cells, AV.atom, AV.tree, fillV, repeatL, treeCell, freezeAll, eqCells, callV_T, callV_F, passV, passCell, srcCells, sliceBounds, hiB, loB, thenQ_nA, thenQ_xA, thenQ_rA, runK_nA, runK_xA, runK_rA, wrap_i64, wrap_u64, wrap_u32, wrap_u8, wrap_u16, AV.atom, normA, lkE, fixObjs, fixBody, fixV, fixCell, hj', idxI ms j hj, hw, hd', hal, hset, hdle, hfl, q1, q2, wrap_succ j ms.length hj (by omega)]
      omega
    · intro _
      rw [List.take_length]
      have hmul : i * ms.length + ms.length = (i + 1) * ms.length := by rw [Nat.succ_mul]
      simp [beqI, bneI, mm_min2, mm_max2, mm_min3, mm_max3, startE, lkE, lkX, lkE_rest, sx, substE, opVA, objs0, List.replicate, XA_seq, XA_region, XOA_go, goE_someA, opV, ev, putA, layAll, XOA_nil, XA_skip_seq, XA_skip_nil, XOA_gd, goG_tA, goG_uA, binV, binInt, unV, XA_ret_nil, XA_ret_cons, endFA_r, endFA_n, endTA_r, endTA_n, endRA_r, endRA_n, fltR, resultsA, resAs, resA, XA_block, XA_cond, pickX_t, pickX_f, pickX_b, XA_skip_blk, XA_skip_lp, XA_exit_seq, XA_exit_lp, XA_exit_blk, XA_exit_nil, load1, Ev.loadCells, objCells, bodyCells, setCells, AV.flat, AV.flat1, backR, backV, backCell, mapO, AV.cells, AV.atom, AV.tree, fillV, repeatL, treeCell, freezeAll, eqCells, callV_T, callV_F, passV, passCell, srcCells, sliceBounds, hiB, loB, thenQ_nA, thenQ_xA, thenQ_rA, runK_nA, runK_xA, runK_rA, wrap_i64, wrap_u64, wrap_u32, wrap_u8, wrap_u16, AV.atom, normA, lkE, fixObjs, fixBody, fixV, fixCell, hmul, hws]
  · intro _
    rw [List.take_length]
    have hfl := flatN_len (withL_len4 h4 dim ms)
    have hwl := withL_len l dim ms
    simp [beqI, bneI, mm_min2, mm_max2, mm_min3, mm_max3, startE, lkE, lkX, lkE_rest, sx, substE, opVA, objs0, List.replicate, XA_seq, XA_region, XOA_go, goE_someA, opV, ev, putA, layAll, XOA_nil, XA_skip_seq, XA_skip_nil, XOA_gd, goG_tA, goG_uA, binV, binInt, unV, XA_ret_nil, XA_ret_cons, endFA_r, endFA_n, endTA_r, endTA_n, endRA_r, endRA_n, fltR, resultsA, resAs, resA, XA_block, XA_cond, pickX_t, pickX_f, pickX_b, XA_skip_blk, XA_skip_lp, XA_exit_seq, XA_exit_lp, XA_exit_blk, XA_exit_nil, load1, Ev.loadCells, objCells, bodyCells, setCells, AV.flat, AV.flat1, backR, backV, backCell, mapO, AV.cells, AV.atom, AV.tree, fillV, repeatL, treeCell, freezeAll, eqCells, callV_T, callV_F, passV, passCell, srcCells, sliceBounds, hiB, loB, thenQ_nA, thenQ_xA, thenQ_rA, runK_nA, runK_xA, runK_rA, wrap_i64, wrap_u64, wrap_u32, wrap_u8, wrap_u16, AV.atom, normA, lkE, fixObjs, fixBody, fixV, fixCell, hwl, hfl, List.take_of_length_le]
/-! ### Fiber -/
def memF (ds : List Dm) (t a f : List Int) (i : Nat) : List Int := underD (gD ds i).S (gD ds i).U (gI t i) (gI a i) (gI f i)
theorem memF_len (ds : List Dm) (t a f : List Int) (i : Nat) : (memF ds t a f i).length ≤ 40 := by
  unfold memF underD
  have h2 := sizeD_range (gD ds i).S (gD ds i).U (gI f i)
  split
  · have h1 := underP_len (gD ds i).S (gD ds i).U (gI t i) (gI a i) (gI f i) (sizeD (gD ds i).S (gD ds i).U (gI f i)).toNat
    omega
  · simp
theorem memF_byte (ds : List Dm) (t a f : List Int) (i : Nat) : ∀ x ∈ memF ds t a f i, byte x := by
  intro x hx
  unfold memF underD at hx
  split at hx
  · unfold underP at hx
    obtain ⟨k, hk, rfl⟩ := List.mem_map.1 hx
    rw [List.mem_filter, List.mem_range] at hk
    have h2 := sizeD_range (gD ds i).S (gD ds i).U (gI f i)
    exact ⟨by omega, by omega⟩
  · cases hx
def outF (ds : List Dm) (t a f : List Int) : Nat → List (List Int)
  | 0 => [[0, 0, 0, 0]]
  | n + 1 => withL (outF ds t a f n) n (memF ds t a f n)
theorem outF_len4 (ds : List Dm) (t a f : List Int) : ∀ n, ∀ v ∈ outF ds t a f n, v.length = 4
  | 0, v, h => by simp [outF] at h; subst h; rfl
  | n + 1, v, h => withL_len4 (outF_len4 ds t a f n) n _ v h
theorem outF_len (ds : List Dm) (t a f : List Int) : ∀ n, ((outF ds t a f n).length : Int) = prodTo (fun i => ((memF ds t a f i).length : Int)) n
  | 0 => rfl
  | n + 1 => by
    simp only [outF, prodTo]
    rw [withL_len, ← outF_len ds t a f n]
    simp
theorem outF_mono (ds : List Dm) (t a f : List Int) (k : Nat) : ∀ n, k ≤ n → outF ds t a f n ≠ [] → (outF ds t a f k).length ≤ (outF ds t a f n).length
  | 0, h, _ => by have : k = 0 := by omega
                  subst this; exact Nat.le_refl _
  | n + 1, h, hne => by
    by_cases c : k = n + 1
    · subst c; exact Nat.le_refl _
    · have hl : (outF ds t a f (n + 1)).length = (outF ds t a f n).length * (memF ds t a f n).length := withL_len _ _ _
      have hpos : 0 < (outF ds t a f (n + 1)).length := by
        rcases Nat.eq_zero_or_pos (outF ds t a f (n + 1)).length with h | h
        · exact absurd (List.length_eq_zero_iff.1 h) hne
        · exact h
      rw [hl] at hpos ⊢
      have h1 : 0 < (outF ds t a f n).length := Nat.pos_of_mul_pos_right hpos
      have h2 : 0 < (memF ds t a f n).length := Nat.pos_of_mul_pos_left hpos
      have hne2 : outF ds t a f n ≠ [] := fun e => by rw [e] at h1; exact absurd h1 (by simp)
      have := outF_mono ds t a f k n (by omega) hne2
      calc (outF ds t a f k).length ≤ (outF ds t a f n).length * 1 := by omega
        _ ≤ _ := Nat.mul_le_mul_left _ h2
def fibOk (ds : List Dm) (m : Int) (t a f : List Int) : Bool := rightC ds m t a && (goodN ds m f && belowN f t)
def fiberC (ds : List Dm) (m : Int) (t a f : List Int) : List (List Int) := if fibOk ds m t a f = true then (if (outF ds t a f ds.length).length > 5000 then [] else outF ds t a f ds.length) else []
def memS (ds : List Dm) (t a f : List Int) (n : Nat) : List AV := [if 0 < n then rI (memF ds t a f 0) else .nilsl, if 1 < n then rI (memF ds t a f 1) else .nilsl, if 2 < n then rI (memF ds t a f 2) else .nilsl, if 3 < n then rI (memF ds t a f 3) else .nilsl]
theorem memS_get (ds : List Dm) (t a f : List Int) {n i : Nat} (h : i < n) (h4 : i < 4) : (memS ds t a f n)[i]? = some (rI (memF ds t a f i)) := by
  have : i = 0 ∨ i = 1 ∨ i = 2 ∨ i = 3 := by omega
  rcases this with rfl | rfl | rfl | rfl <;> simp [memS, h]
theorem memS_fix (ds : List Dm) (t a f : List Int) (n : Nat) (m : Nat) (ids : List Nat) (H : List AObj) : (memS ds t a f n).map (fixCell m ids H) = memS ds t a f n := by
  have h : ∀ (b : Prop) [Decidable b] (l : List Int), fixCell m ids H (if b then rI l else .nilsl) = if b then rI l else .nilsl := fun b _ l => by split <;> rfl
  simp only [memS, List.map, h]
theorem memS_atom (ds : List Dm) (t a f : List Int) (n : Nat) : (memS ds t a f n).all AV.atom = true := by
  have h : ∀ (b : Prop) [Decidable b] (l : List Int), AV.atom (if b then rI l else .nilsl) = true := fun b _ l => by split <;> rfl
  simp only [memS, List.all_cons, List.all_nil, h, Bool.and_true]
theorem prodF_le (ds : List Dm) (t a f : List Int) (n : Nat) (hn : n ≤ 4) : (outF ds t a f n).length ≤ 2560000 := by
  have := prodTo_small (fun i => ((memF ds t a f i).length : Int)) n hn fun i _ => ⟨by omega, by have := memF_len ds t a f i; omega⟩
  rw [← outF_len] at this
  omega
theorem Fiber_ev (ds : List Dm) (m : Int) (t a f : List Int) (hC : okC ds) (ht : okN t) (ha : okN a) (hf : okN f) :
    cvT tab 16 [.agg [.ro ds.length (flatD ds), .int .i64 m], .agg (t.map (.int .u8)), .agg (a.map (.int .u8)), .agg (f.map (.int .u8))] = some (rN (fiberC ds m t a f)) := by
  refine cvTA_R (mf := Mf.f16) rfl rfl (by kernel_rfl) ?_
  simp only [Mf.f16]
  have e1 := sright_ev ds m t a hC ht ha
  have e2 := lgood_ev ds m f hC hf
  have e3 := below_ev f t hf ht
  have pf := passN hf
  have pt := passN ht
  have pa := passN ha
  have tf := take4 hf
  have tt := take4 ht
  have ta := take4 ha
  have lf := hf.1
  have lt := ht.1
  have la := ha.1
  cases c1 : rightC ds m t a with
  | false =>
    have hk : fiberC ds m t a f = [] := by simp [fiberC, fibOk, c1]
    rw [c1] at e1
    simp [beqI, bneI, mm_min2, mm_max2, mm_min3, mm_max3, startE, lkE, lkX, lkE_rest, sx, substE, opVA, objs0, List.replicate, XA_seq, XA_region, XOA_go, goE_someA, opV, ev, putA, layAll, XOA_nil, XA_skip_seq, XA_skip_nil, XOA_gd, goG_tA, goG_uA, binV, binInt, unV, XA_ret_nil, XA_ret_cons, endFA_r, endFA_n, endTA_r, endTA_n, endRA_r, endRA_n, fltR, resultsA, resAs, resA, XA_block, XA_cond, pickX_t, pickX_f, pickX_b, XA_skip_blk, XA_skip_lp, XA_exit_seq, XA_exit_lp, XA_exit_blk, XA_exit_nil, load1, Ev.loadCells, objCells, bodyCells, setCells, AV.flat, AV.flat1, backR, backV, backCell, mapO, AV.cells, AV.atom, AV.tree, fillV, repeatL, treeCell, freezeAll, eqCells, callV_T, callV_F, passV, passCell, srcCells, sliceBounds, hiB, loB, thenQ_nA, thenQ_xA, thenQ_rA, runK_nA, runK_xA, runK_rA, wrap_i64, wrap_u64, wrap_u32, wrap_u8, wrap_u16, e1, lt, la, pt, pa, tt, ta, hk, rN, flatN]
  | true =>
    rw [c1] at e1
    cases c2 : goodN ds m f with
    | false =>
      have hk : fiberC ds m t a f = [] := by simp [fiberC, fibOk, c2]
      rw [c2] at e2
      simp [beqI, bneI, mm_min2, mm_max2, mm_min3, mm_max3, startE, lkE, lkX, lkE_rest, sx, substE, opVA, objs0, List.replicate, XA_seq, XA_region, XOA_go, goE_someA, opV, ev, putA, layAll, XOA_nil, XA_skip_seq, XA_skip_nil, XOA_gd, goG_tA, goG_uA, binV, binInt, unV, XA_ret_nil, XA_ret_cons, endFA_r, endFA_n, endTA_r, endTA_n, endRA_r, endRA_n, fltR, resultsA, resAs, resA, XA_block, XA_cond, pickX_t, pickX_f, pickX_b, XA_skip_blk, XA_skip_lp, XA_exit_seq, XA_exit_lp, XA_exit_blk, XA_exit_nil, load1, Ev.loadCells, objCells, bodyCells, setCells, AV.flat, AV.flat1, backR, backV, backCell, mapO, AV.cells, AV.atom, AV.tree, fillV, repeatL, treeCell, freezeAll, eqCells, callV_T, callV_F, passV, passCell, srcCells, sliceBounds, hiB, loB, thenQ_nA, thenQ_xA, thenQ_rA, runK_nA, runK_xA, runK_rA, wrap_i64, wrap_u64, wrap_u32, wrap_u8, wrap_u16, e1, e2, lf, la, lt, pf, pt, pa, tf, tt, ta, hk, rN, flatN]
    | true =>
      rw [c2] at e2
      cases c3 : belowN f t with
      | false =>
        have hk : fiberC ds m t a f = [] := by simp [fiberC, fibOk, c3]
        rw [c3] at e3
        simp [beqI, bneI, mm_min2, mm_max2, mm_min3, mm_max3, startE, lkE, lkX, lkE_rest, sx, substE, opVA, objs0, List.replicate, XA_seq, XA_region, XOA_go, goE_someA, opV, ev, putA, layAll, XOA_nil, XA_skip_seq, XA_skip_nil, XOA_gd, goG_tA, goG_uA, binV, binInt, unV, XA_ret_nil, XA_ret_cons, endFA_r, endFA_n, endTA_r, endTA_n, endRA_r, endRA_n, fltR, resultsA, resAs, resA, XA_block, XA_cond, pickX_t, pickX_f, pickX_b, XA_skip_blk, XA_skip_lp, XA_exit_seq, XA_exit_lp, XA_exit_blk, XA_exit_nil, load1, Ev.loadCells, objCells, bodyCells, setCells, AV.flat, AV.flat1, backR, backV, backCell, mapO, AV.cells, AV.atom, AV.tree, fillV, repeatL, treeCell, freezeAll, eqCells, callV_T, callV_F, passV, passCell, srcCells, sliceBounds, hiB, loB, thenQ_nA, thenQ_xA, thenQ_rA, runK_nA, runK_xA, runK_rA, wrap_i64, wrap_u64, wrap_u32, wrap_u8, wrap_u16, e1, e2, e3, lf, la, lt, pf, pt, pa, tf, tt, ta, hk, rN, flatN]
      | true =>
        rw [c3] at e3
        have g := rightC_good c1
        have hl := goodC_len g
        have hk : fiberC ds m t a f = if (outF ds t a f ds.length).length > 5000 then [] else outF ds t a f ds.length := by simp [fiberC, fibOk, c1, c2, c3]
        rw [hk]
        simp [beqI, bneI, mm_min2, mm_max2, mm_min3, mm_max3, startE, lkE, lkX, lkE_rest, sx, substE, opVA, objs0, List.replicate, XA_seq, XA_region, XOA_go, goE_someA, opV, ev, putA, layAll, XOA_nil, XA_skip_seq, XA_skip_nil, XOA_gd, goG_tA, goG_uA, binV, binInt, unV, XA_ret_nil, XA_ret_cons, endFA_r, endFA_n, endTA_r, endTA_n, endRA_r, endRA_n, fltR, resultsA, resAs, resA, XA_block, XA_cond, pickX_t, pickX_f, pickX_b, XA_skip_blk, XA_skip_lp, XA_exit_seq, XA_exit_lp, XA_exit_blk, XA_exit_nil, load1, Ev.loadCells, objCells, bodyCells, setCells, AV.flat, AV.flat1, backR, backV, backCell, mapO, AV.cells, AV.atom, AV.tree, fillV, repeatL, treeCell, freezeAll, eqCells, callV_T, callV_F, passV, passCell, srcCells, sliceBounds, hiB, loB, thenQ_nA, thenQ_xA, thenQ_rA, runK_nA, runK_xA, runK_rA, wrap_i64, wrap_u64, wrap_u32, wrap_u8, wrap_u16, e1, e2, e3, lf, la, lt, pf, pt, pa, tf, tt, ta]
        refine XA_for (fun i => ⟨[(4, .ptr 0 0 0), (5, .ptr 1 0 0), (6, .ptr 2 0 0), (7, .ptr 3 0 0), (9, .ptr 4 0 0), (10, .int .i64 ((outF ds t a f i).length : Int)), (33, .int .i64 ds.length), (34, .int .i64 i)], [⟨0, .var [.ro ds.length (flatD ds), .int .i64 m]⟩, ⟨0, .var (t.map (.int .u8))⟩, ⟨0, .var (a.map (.int .u8))⟩, ⟨0, .var (f.map (.int .u8))⟩, ⟨0, .var (memS ds t a f i)⟩]⟩)
          (fun _ => True) ds.length 0 (Nat.zero_le _) (by simp [AV.atom, normA, lkE, fixObjs, fixBody, fixV, fixCell, outF, memS]) trivial ?_ ?_
        · intro i _ hi _
          have hi' : (i : Int) < ds.length := by omega
          have hi4 : i < 4 := by omega
          have hi4' : (i : Int) < 4 := by omega
          obtain ⟨hS, hU⟩ := fits_of (hC.at hi)
          have el := Under_ev (gD ds i).S (gD ds i).U (gI t i) (gI a i) (gI f i) hS hU
          rw [show underD (gD ds i).S (gD ds i).U (gI t i) (gI a i) (gI f i) = memF ds t a f i from rfl] at el
          simp only [rI, rR] at el
          have bf := hf.at hi4
          have bt := ht.at hi4
          have ba := ha.at hi4
          unfold byte at bf bt ba
          have w1 : IntKind.i64.wrap (gI f i) = gI f i := wrap_i64 (by omega) (by omega)
          have w2 : IntKind.i64.wrap (gI t i) = gI t i := wrap_i64 (by omega) (by omega)
          have w3 : IntKind.i64.wrap (gI a i) = gI a i := wrap_i64 (by omega) (by omega)
          have hnl := prodF_le ds t a f (i + 1) (by omega)
          have hmul : ((outF ds t a f i).length : Int) * ((memF ds t a f i).length : Int) = ((outF ds t a f (i + 1)).length : Int) := by
            rw [outF_len, outF_len]; rfl
          have w4 : IntKind.i64.wrap ((outF ds t a f (i + 1)).length : Int) = ((outF ds t a f (i + 1)).length : Int) := wrap_i64 (by omega) (by omega)
          have hi0123 : i = 0 ∨ i = 1 ∨ i = 2 ∨ i = 3 := by omega
          have hdd := dropD ds i hi
          have hws := wrap_succ i ds.length hi (by omega)
          have g1 := getN hf hi4
          have g2 := getN ht hi4
          have g3 := getN ha hi4
          rw [← hmul] at w4 ⊢
          have hms : ∃ c0 c1 c2 c3, memS ds t a f i = [c0, c1, c2, c3] := ⟨_, _, _, _, rfl⟩
          rcases hi0123 with rfl | rfl | rfl | rfl
          · simp at hdd hi' hws g1 g2 g3 w4
            simp [beqI, bneI, mm_min2, mm_max2, mm_min3, mm_max3, startE, lkE, lkX, lkE_rest, sx, substE, opVA, objs0, List.replicate, XA_seq, XA_region, XOA_go, goE_someA, opV, ev, putA, layAll, XOA_nil, XA_skip_seq, XA_skip_nil, XOA_gd, goG_tA, goG_uA, binV, binInt, unV, XA_ret_nil, XA_ret_cons, endFA_r, endFA_n, endTA_r, endTA_n, endRA_r, endRA_n, fltR, resultsA, resAs, resA, XA_block, XA_cond, pickX_t, pickX_f, pickX_b, XA_skip_blk, XA_skip_lp, XA_exit_seq, XA_exit_lp, XA_exit_blk, XA_exit_nil, load1, Ev.loadCells, objCells, bodyCells, setCells, AV.flat, AV.flat1, backR, backV, backCell, mapO, AV.cells, AV.atom, AV.tree, fillV, repeatL, treeCell, freezeAll, eqCells, callV_T, callV_F, passV, passCell, srcCells, sliceBounds, hiB, loB, thenQ_nA, thenQ_xA, thenQ_rA, runK_nA, runK_xA, runK_rA, wrap_i64, wrap_u64, wrap_u32, wrap_u8, wrap_u16, AV.atom, normA, lkE, fixObjs, fixBody, fixV, fixCell, hi, hi', hdd, rI, rR, g1, g2, g3, w1, w2, w3, w4, el, hws, memS]
          · simp at hdd hi' hws g1 g2 g3 w4
            simp [beqI, bneI, mm_min2, mm_max2, mm_min3, mm_max3, startE, lkE, lkX, lkE_rest, sx, substE, opVA, objs0, List.replicate, XA_seq, XA_region, XOA_go, goE_someA, opV, ev, putA, layAll, XOA_nil, XA_skip_seq, XA_skip_nil, XOA_gd, goG_tA, goG_uA, binV, binInt, unV, XA_ret_nil, XA_ret_cons, endFA_r, endFA_n, endTA_r, endTA_n, endRA_r, endRA_n, fltR, resultsA, resAs, resA, XA_block, XA_cond, pickX_t, pickX_f, pickX_b, XA_skip_blk, XA_skip_lp, XA_exit_seq, XA_exit_lp, XA_exit_blk, XA_exit_nil, load1, Ev.loadCells, objCells, bodyCells, setCells, AV.flat, AV.flat1, backR, backV, backCell, mapO, AV.cells, AV.atom, AV.tree, fillV, repeatL, treeCell, freezeAll, eqCells, callV_T, callV_F, passV, passCell, srcCells, sliceBounds, hiB, loB, thenQ_nA, thenQ_xA, thenQ_rA, runK_nA, runK_xA, runK_rA, wrap_i64, wrap_u64, wrap_u32, wrap_u8, wrap_u16, AV.atom, normA, lkE, fixObjs, fixBody, fixV, fixCell, hi, hi', hdd, rI, rR, g1, g2, g3, w1, w2, w3, w4, el, hws, memS]
          · simp at hdd hi' hws g1 g2 g3 w4
            simp [beqI, bneI, mm_min2, mm_max2, mm_min3, mm_max3, startE, lkE, lkX, lkE_rest, sx, substE, opVA, objs0, List.replicate, XA_seq, XA_region, XOA_go, goE_someA, opV, ev, putA, layAll, XOA_nil, XA_skip_seq, XA_skip_nil, XOA_gd, goG_tA, goG_uA, binV, binInt, unV, XA_ret_nil, XA_ret_cons, endFA_r, endFA_n, endTA_r, endTA_n, endRA_r, endRA_n, fltR, resultsA, resAs, resA, XA_block, XA_cond, pickX_t, pickX_f, pickX_b, XA_skip_blk, XA_skip_lp, XA_exit_seq, XA_exit_lp, XA_exit_blk, XA_exit_nil, load1, Ev.loadCells, objCells, bodyCells, setCells, AV.flat, AV.flat1, backR, backV, backCell, mapO, AV.cells, AV.atom, AV.tree, fillV, repeatL, treeCell, freezeAll, eqCells, callV_T, callV_F, passV, passCell, srcCells, sliceBounds, hiB, loB, thenQ_nA, thenQ_xA, thenQ_rA, runK_nA, runK_xA, runK_rA, wrap_i64, wrap_u64, wrap_u32, wrap_u8, wrap_u16, AV.atom, normA, lkE, fixObjs, fixBody, fixV, fixCell, hi, hi', hdd, rI, rR, g1, g2, g3, w1, w2, w3, w4, el, hws, memS]
          · simp at hdd hi' hws g1 g2 g3 w4
            simp [beqI, bneI, mm_min2, mm_max2, mm_min3, mm_max3, startE, lkE, lkX, lkE_rest, sx, substE, opVA, objs0, List.replicate, XA_seq, XA_region, XOA_go, goE_someA, opV, ev, putA, layAll, XOA_nil, XA_skip_seq, XA_skip_nil, XOA_gd, goG_tA, goG_uA, binV, binInt, unV, XA_ret_nil, XA_ret_cons, endFA_r, endFA_n, endTA_r, endTA_n, endRA_r, endRA_n, fltR, resultsA, resAs, resA, XA_block, XA_cond, pickX_t, pickX_f, pickX_b, XA_skip_blk, XA_skip_lp, XA_exit_seq, XA_exit_lp, XA_exit_blk, XA_exit_nil, load1, Ev.loadCells, objCells, bodyCells, setCells, AV.flat, AV.flat1, backR, backV, backCell, mapO, AV.cells, AV.atom, AV.tree, fillV, repeatL, treeCell, freezeAll, eqCells, callV_T, callV_F, passV, passCell, srcCells, sliceBounds, hiB, loB, thenQ_nA, thenQ_xA, thenQ_rA, runK_nA, runK_xA, runK_rA, wrap_i64, wrap_u64, wrap_u32, wrap_u8, wrap_u16, AV.atom, normA, lkE, fixObjs, fixBody, fixV, fixCell, hi, hi', hdd, rI, rR, g1, g2, g3, w1, w2, w3, w4, el, hws, memS]
        · intro _
          by_cases c5 : 5000 < (outF ds t a f ds.length).length
          · have c5' : (5000 : Int) < ((outF ds t a f ds.length).length : Int) := by omega
            simp [beqI, bneI, mm_min2, mm_max2, mm_min3, mm_max3, startE, lkE, lkX, lkE_rest, sx, substE, opVA, objs0, List.replicate, XA_seq, XA_region, XOA_go, goE_someA, opV, ev, putA, layAll, XOA_nil, XA_skip_seq, XA_skip_nil, XOA_gd, goG_tA, goG_uA, binV, binInt, unV, XA_ret_nil, XA_ret_cons, endFA_r, endFA_n, endTA_r, endTA_n, endRA_r, endRA_n, fltR, resultsA, resAs, resA, XA_block, XA_cond, pickX_t, pickX_f, pickX_b, XA_skip_blk, XA_skip_lp, XA_exit_seq, XA_exit_lp, XA_exit_blk, XA_exit_nil, load1, Ev.loadCells, objCells, bodyCells, setCells, AV.flat, AV.flat1, backR, backV, backCell, mapO, AV.cells, AV.atom, AV.tree, fillV, repeatL, treeCell, freezeAll, eqCells, callV_T, callV_F, passV, passCell, srcCells, sliceBounds, hiB, loB, thenQ_nA, thenQ_xA, thenQ_rA, runK_nA, runK_xA, runK_rA, wrap_i64, wrap_u64, wrap_u32, wrap_u8, wrap_u16, AV.atom, normA, lkE, fixObjs, fixBody, fixV, fixCell, c5, c5', rN, flatN]
          · have c5' : ¬ (5000 : Int) < ((outF ds t a f ds.length).length : Int) := by omega
            simp [beqI, bneI, mm_min2, mm_max2, mm_min3, mm_max3, startE, lkE, lkX, lkE_rest, sx, substE, opVA, objs0, List.replicate, XA_seq, XA_region, XOA_go, goE_someA, opV, ev, putA, layAll, XOA_nil, XA_skip_seq, XA_skip_nil, XOA_gd, goG_tA, goG_uA, binV, binInt, unV, XA_ret_nil, XA_ret_cons, endFA_r, endFA_n, endTA_r, endTA_n, endRA_r, endRA_n, fltR, resultsA, resAs, resA, XA_block, XA_cond, pickX_t, pickX_f, pickX_b, XA_skip_blk, XA_skip_lp, XA_exit_seq, XA_exit_lp, XA_exit_blk, XA_exit_nil, load1, Ev.loadCells, objCells, bodyCells, setCells, AV.flat, AV.flat1, backR, backV, backCell, mapO, AV.cells, AV.atom, AV.tree, fillV, repeatL, treeCell, freezeAll, eqCells, callV_T, callV_F, passV, passCell, srcCells, sliceBounds, hiB, loB, thenQ_nA, thenQ_xA, thenQ_rA, runK_nA, runK_xA, runK_rA, wrap_i64, wrap_u64, wrap_u32, wrap_u8, wrap_u16, AV.atom, normA, lkE, fixObjs, fixBody, fixV, fixCell, c5, c5']
            refine XA_for (fun i => ⟨[(9, .ptr 4 0 0), (12, .ro (outF ds t a f i).length (flatN (outF ds t a f i))), (70, .int .i64 ds.length), (71, .int .i64 i)], [⟨0, .none⟩, ⟨0, .none⟩, ⟨0, .none⟩, ⟨0, .none⟩, ⟨0, .var (memS ds t a f ds.length)⟩]⟩)
              (fun _ => True) ds.length 0 (Nat.zero_le _) (by
                have hA := memS_atom ds t a f ds.length
                simp only [List.all_eq_true, AV.atom] at hA
                have hA' := eq_true hA
                simp [AV.atom, normA, lkE, fixObjs, fixBody, fixV, fixCell, outF, flatN, memS_fix, hA']) trivial ?_ ?_
            · intro i _ hi _
              have hi' : (i : Int) < ds.length := by omega
              have hi4 : i < 4 := by omega
              have hi4' : (i : Int) < 4 := by omega
              have hb3 : (outF ds t a f i).length ≤ 200000 := by
                have hp := prodTo_in (fun i => ((memF ds t a f i).length : Int)) i fun j _ => ⟨by omega, by have := memF_len ds t a f j; omega⟩
                rw [← outF_len] at hp
                have : i = 0 ∨ i = 1 ∨ i = 2 ∨ i = 3 := by omega
                rcases this with rfl | rfl | rfl | rfl <;> simp at hp <;> omega
              have ew := with_ev (outF ds t a f i) i (memF ds t a f i) (outF_len4 ds t a f i) hi4 (memF_byte ds t a f i) hb3 (memF_len ds t a f i)
              rw [show withL (outF ds t a f i) i (memF ds t a f i) = outF ds t a f (i + 1) from rfl] at ew
              have hg := memS_get ds t a f hi hi4
              simp only [rN, rI] at ew hg
              have hA := memS_atom ds t a f ds.length
              simp only [List.all_eq_true, AV.atom] at hA
              have hA' := eq_true hA
              simp [beqI, bneI, mm_min2, mm_max2, mm_min3, mm_max3, startE, lkE, lkX, lkE_rest, sx, substE, opVA, objs0, List.replicate, XA_seq, XA_region, XOA_go, goE_someA, opV, ev, putA, layAll, XOA_nil, XA_skip_seq, XA_skip_nil, XOA_gd, goG_tA, goG_uA, binV, binInt, unV, XA_ret_nil, XA_ret_cons, endFA_r, endFA_n, endTA_r, endTA_n, endRA_r, endRA_n, fltR, resultsA, resAs, resA, XA_block, XA_cond, pickX_t, pickX_f, pickX_b, XA_skip_blk, XA_skip_lp, XA_exit_seq, XA_exit_lp, XA_exit_blk, XA_exit_nil, load1, Ev.loadCells, objCells, bodyCells, setCells, AV.flat, AV.flat1, backR, backV, backCell, mapO, AV.cells, AV.atom, AV.tree, fillV, repeatL, treeCell, freezeAll, eqCells, callV_T, callV_F, passV, passCell, srcCells, sliceBounds, hiB, loB, thenQ_nA, thenQ_xA, thenQ_rA, runK_nA, runK_xA, runK_rA, wrap_i64, wrap_u64, wrap_u32, wrap_u8, wrap_u16, AV.atom, normA, lkE, fixObjs, fixBody, fixV, fixCell, hi', hi4', hg, ew, wrap_succ i ds.length hi (by omega), memS_fix, hA']
            · intro _
              simp [beqI, bneI, mm_min2, mm_max2, mm_min3, mm_max3, startE, lkE, lkX, lkE_rest, sx, substE, opVA, objs0, List.replicate, XA_seq, XA_region, XOA_go, goE_someA, opV, ev, putA, layAll, XOA_nil, XA_skip_seq, XA_skip_nil, XOA_gd, goG_tA, goG_uA, binV, binInt, unV, XA_ret_nil, XA_ret_cons, endFA_r, endFA_n, endTA_r, endTA_n, endRA_r, endRA_n, fltR, resultsA, resAs, resA, XA_block, XA_cond, pickX_t, pickX_f, pickX_b, XA_skip_blk, XA_skip_lp, XA_exit_seq, XA_exit_lp, XA_exit_blk, XA_exit_nil, load1, Ev.loadCells, objCells, bodyCells, setCells, AV.flat, AV.flat1, backR, backV, backCell, mapO, AV.cells, AV.atom, AV.tree, fillV, repeatL, treeCell, freezeAll, eqCells, callV_T, callV_F, passV, passCell, srcCells, sliceBounds, hiB, loB, thenQ_nA, thenQ_xA, thenQ_rA, runK_nA, runK_xA, runK_rA, wrap_i64, wrap_u64, wrap_u32, wrap_u8, wrap_u16, AV.atom, normA, lkE, fixObjs, fixBody, fixV, fixCell, rN]
end Go.Proofs.Ytafjljlcdfccjaa
