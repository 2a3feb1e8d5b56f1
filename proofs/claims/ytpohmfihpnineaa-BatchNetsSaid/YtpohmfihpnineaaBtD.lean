/- Batches: Fold. -/
import Derived.Test.YtpohmfihpnineaaBtC
set_option linter.unusedSimpArgs false
set_option linter.unusedVariables false
set_option maxHeartbeats 16000000
set_option maxRecDepth 100000
namespace Go.Proofs.Ytpohmfihpnineaa
open Go.Ev
theorem flatW_nil : flatW [] = [] := rfl
theorem srt_nil : srt [] = [] := rfl
def toldT (p : List Rw × Nat × Int) : AV := .tup [rW p.1, .int .i64 p.2.1, .int .i64 p.2.2]
theorem fold_ev (ds : List Dm) (m : Int) (rows : List Rw) (l : List Ch) (hC : okC ds) (hk : okL rows) (hl : okH l) (hn : rows.length ≤ 1000) (hn2 : l.length ≤ 1000) :
    cvT tabC 14 [.agg [.ro ds.length (flatD ds), .int .i64 m], rW rows, rH l] = some (toldT (foldB ds m rows l)) := by
  by_cases g : goodC ds m = true
  · by_cases cg : givB ds m rows = true
    · have hz := (giv_go ds m rows g).1.2 cg
      have hp := (giv_go ds m rows g).2 cg
      obtain ⟨Hg, eg⟩ := given_good ds m rows hC g hk hn hz
      have ec := bcheck_ev ds m l hC hl hn2
      have hR0 := (run_RB ds m rb0 (adds rows) (adds_ok hk) rows.length (by rw [adds_len]; exact Nat.le_refl _)).1
      rw [← adds_len rows, List.take_length] at hR0
      have hRB : RB (runC ds m bs0 (adds rows)) rows := ⟨hR0.ib, hR0.p.trans hp⟩
      generalize runC ds m bs0 (adds rows) = S0 at *
      by_cases cc : (chkB ds m l).2 = 0
      · obtain ⟨hl40, hgood, hc0⟩ := chk_ok cc
        rw [hc0] at ec
        have hb : foldB ds m rows l = (srt (goF ds m rows l 0).1, (goF ds m rows l 0).2) := by
          unfold foldB
          rw [if_neg (by rw [cg]; simp), if_neg (by rw [cc]; simp)]
        rw [hb]
        have hR := fun i (h : i ≤ l.length) => run_RB ds m hRB l hl i h
        have hdo := fun i (h : i < l.length) => doC_E ds m l[i].1 hC (hR i (by omega)).1 (hl _ (List.getElem_mem h)) (by have := (hR i (by omega)).2; omega)
        have hsc := fun i (h : i < l.length) => runC_succ ds m S0 l i h
        have hd := fun i (h : i < l.length) => dropH l i h
        have hfl := flatH_len l
        have hz0 : runC ds m S0 [] = S0 := rfl
        rcases goF_cases ds m l rows 0 with ⟨k, hkl, h1, h2, h3⟩ | ⟨h1, h2⟩
        · rw [h3]
          simp only [rH, rW] at ec ⊢
          simp only [rW] at eg
          generalize hfW : flatW rows = fw at *
          generalize hfH : flatH l = fl at *
          refine cvTA_R (mf := Mf.f14) rfl rfl (by kernel_rfl) ?_
          simp only [Mf.f14]
          simp only [rowC, chC, bV, bM] at eg
          simp [beqI, bneI, mm_min2, mm_max2, mm_min3, mm_max3, startE, lkE, lkX, lkE_rest, sx, substE, opVA, objs0, List.replicate, XA_seq, XA_region, XOA_go, goE_someA, opV, ev, putA, layAll, XOA_nil, XA_skip_seq, XA_skip_nil, XOA_gd, goG_tA, goG_uA, binV, bi_add, bi_sub, bi_mul, bi_quo, bi_rem, bi_eql, bi_neq, bi_lss, bi_leq, bi_gtr, bi_geq, bi_shl, bi_shr, bi_and, bi_or, bi_xor, unV, XA_ret_nil, XA_ret_cons, endFA_r, endFA_n, endTA_r, endTA_n, endRA_r, endRA_n, endEA_r, endEA_n, List.take, fltR, resultsA, resAs, resA, XA_block, XA_cond, pickX_t, pickX_f, pickX_b, XA_skip_blk, XA_skip_lp, XA_exit_seq, XA_exit_lp, XA_exit_blk, XA_exit_nil, load1, Ev.loadCells, objCells, bodyCells, setCells, AV.flat, AV.flat1, backR, backV, backCell, mapO, AV.cells, AV.atom, AV.tree, fillV, repeatL, treeCell, freezeAll, eqCells, callV_T, callV_F, passN, passV, passCell, srcCells, sliceBounds, hiB, loB, thenQ_nA, thenQ_xA, thenQ_rA, runK_nA, runK_xA, runK_rA, wrap_i64, wrap_u64, wrap_u32, wrap_u8, wrap_u16, callV_O, okIds, passObjs, passBody, backObjs, backBody, adopts, List.idxOf?, List.findIdx?, List.findIdx?.go, isNilP, mapLook, mapGet, keyGet, adopts, List.lookup, callV_R, backBody, eg, ec]
          refine XA_for (fun i => ⟨[(9, .ptr 1 0 0), (30, .ro l.length fl), (31, .int .i64 l.length), (32, .int .i64 i)], [⟨0, .none⟩, bV 0 2 0 ds m (runC ds m S0 (l.take i)), bM 0 (runC ds m S0 (l.take i)), ⟨0, .none⟩]⟩)
            (fun _ => True) k 0 (Nat.zero_le _) (by simp [AV.atom, normA, lkE, fixObjs, fixBody, fixV, fixCell, bV, bM, hz0]) trivial ?_ ?_
          · intro i _ hik _
            have hi : i < l.length := by omega
            have hi' : (i : Int) < l.length := by omega
            obtain ⟨Ha, ea⟩ := hdo i hi
            have hs := hsc i hi
            have hze := h1 i hi hik
            have hd := hd i hi
            have hws := wrap_succ i l.length hi (by omega)
            rw [hze, ← hs] at ea
            generalize runC ds m S0 (l.take (i + 1)) = T' at *
            generalize runC ds m S0 (l.take i) = T at *
            generalize l[i] = dR at *
            obtain ⟨db, R⟩ := dR
            simp only [rowC, chC, bV, bM, List.cons_append, List.nil_append] at ea hd ⊢
            simp [beqI, bneI, mm_min2, mm_max2, mm_min3, mm_max3, startE, lkE, lkX, lkE_rest, sx, substE, opVA, objs0, List.replicate, XA_seq, XA_region, XOA_go, goE_someA, opV, ev, putA, layAll, XOA_nil, XA_skip_seq, XA_skip_nil, XOA_gd, goG_tA, goG_uA, binV, bi_add, bi_sub, bi_mul, bi_quo, bi_rem, bi_eql, bi_neq, bi_lss, bi_leq, bi_gtr, bi_geq, bi_shl, bi_shr, bi_and, bi_or, bi_xor, unV, XA_ret_nil, XA_ret_cons, endFA_r, endFA_n, endTA_r, endTA_n, endRA_r, endRA_n, endEA_r, endEA_n, List.take, fltR, resultsA, resAs, resA, XA_block, XA_cond, pickX_t, pickX_f, pickX_b, XA_skip_blk, XA_skip_lp, XA_exit_seq, XA_exit_lp, XA_exit_blk, XA_exit_nil, load1, Ev.loadCells, objCells, bodyCells, setCells, AV.flat, AV.flat1, backR, backV, backCell, mapO, AV.cells, AV.atom, AV.tree, fillV, repeatL, treeCell, freezeAll, eqCells, callV_T, callV_F, passN, passV, passCell, srcCells, sliceBounds, hiB, loB, thenQ_nA, thenQ_xA, thenQ_rA, runK_nA, runK_xA, runK_rA, wrap_i64, wrap_u64, wrap_u32, wrap_u8, wrap_u16, callV_O, okIds, passObjs, passBody, backObjs, backBody, adopts, List.idxOf?, List.findIdx?, List.findIdx?.go, isNilP, mapLook, mapGet, keyGet, adopts, List.lookup, AV.atom, normA, lkE, fixObjs, fixBody, fixV, fixCell, hi', hi, hd, hfl, ea, hws]
          · intro _
            have hi' : (k : Int) < l.length := by omega
            obtain ⟨Ha, ea⟩ := hdo k hkl
            have hd := hd k hkl
            generalize errL ds m (runL ds m rows (l.take k)) l[k].1 l[k].2 = er at *
            generalize (doS ds m (runC ds m S0 (l.take k)) l[k].1 l[k].2).2 = T' at *
            generalize runC ds m S0 (l.take k) = T at *
            generalize l[k] = dR at *
            obtain ⟨db, R⟩ := dR
            simp only [rowC, chC, bV, bM, List.cons_append, List.nil_append] at ea hd ⊢
            simp [beqI, bneI, mm_min2, mm_max2, mm_min3, mm_max3, startE, lkE, lkX, lkE_rest, sx, substE, opVA, objs0, List.replicate, XA_seq, XA_region, XOA_go, goE_someA, opV, ev, putA, layAll, XOA_nil, XA_skip_seq, XA_skip_nil, XOA_gd, goG_tA, goG_uA, binV, bi_add, bi_sub, bi_mul, bi_quo, bi_rem, bi_eql, bi_neq, bi_lss, bi_leq, bi_gtr, bi_geq, bi_shl, bi_shr, bi_and, bi_or, bi_xor, unV, XA_ret_nil, XA_ret_cons, endFA_r, endFA_n, endTA_r, endTA_n, endRA_r, endRA_n, endEA_r, endEA_n, List.take, fltR, resultsA, resAs, resA, XA_block, XA_cond, pickX_t, pickX_f, pickX_b, XA_skip_blk, XA_skip_lp, XA_exit_seq, XA_exit_lp, XA_exit_blk, XA_exit_nil, load1, Ev.loadCells, objCells, bodyCells, setCells, AV.flat, AV.flat1, backR, backV, backCell, mapO, AV.cells, AV.atom, AV.tree, fillV, repeatL, treeCell, freezeAll, eqCells, callV_T, callV_F, passN, passV, passCell, srcCells, sliceBounds, hiB, loB, thenQ_nA, thenQ_xA, thenQ_rA, runK_nA, runK_xA, runK_rA, wrap_i64, wrap_u64, wrap_u32, wrap_u8, wrap_u16, callV_O, okIds, passObjs, passBody, backObjs, backBody, adopts, List.idxOf?, List.findIdx?, List.findIdx?.go, isNilP, mapLook, mapGet, keyGet, adopts, List.lookup, AV.atom, normA, lkE, fixObjs, fixBody, fixV, fixCell, hi', hkl, hd, hfl, ea, h2, toldT, rW, srt_nil, flatW_nil]
        · rw [h2]
          have hrow := rows_R ds m (hR l.length (Nat.le_refl _)).1 (by have := (hR l.length (Nat.le_refl _)).2; omega)
          rw [List.take_length] at hrow
          obtain ⟨Hr, er⟩ := hrow
          have er := cfC er
          have hTL : l.take l.length = l := List.take_length
          simp only [rH, rW] at ec ⊢
          simp only [rW] at eg
          generalize hfW : flatW rows = fw at *
          generalize hfH : flatH l = fl at *
          refine cvTA_R (mf := Mf.f14) rfl rfl (by kernel_rfl) ?_
          simp only [Mf.f14]
          simp only [rowC, chC, bV, bM] at eg
          simp [beqI, bneI, mm_min2, mm_max2, mm_min3, mm_max3, startE, lkE, lkX, lkE_rest, sx, substE, opVA, objs0, List.replicate, XA_seq, XA_region, XOA_go, goE_someA, opV, ev, putA, layAll, XOA_nil, XA_skip_seq, XA_skip_nil, XOA_gd, goG_tA, goG_uA, binV, bi_add, bi_sub, bi_mul, bi_quo, bi_rem, bi_eql, bi_neq, bi_lss, bi_leq, bi_gtr, bi_geq, bi_shl, bi_shr, bi_and, bi_or, bi_xor, unV, XA_ret_nil, XA_ret_cons, endFA_r, endFA_n, endTA_r, endTA_n, endRA_r, endRA_n, endEA_r, endEA_n, List.take, fltR, resultsA, resAs, resA, XA_block, XA_cond, pickX_t, pickX_f, pickX_b, XA_skip_blk, XA_skip_lp, XA_exit_seq, XA_exit_lp, XA_exit_blk, XA_exit_nil, load1, Ev.loadCells, objCells, bodyCells, setCells, AV.flat, AV.flat1, backR, backV, backCell, mapO, AV.cells, AV.atom, AV.tree, fillV, repeatL, treeCell, freezeAll, eqCells, callV_T, callV_F, passN, passV, passCell, srcCells, sliceBounds, hiB, loB, thenQ_nA, thenQ_xA, thenQ_rA, runK_nA, runK_xA, runK_rA, wrap_i64, wrap_u64, wrap_u32, wrap_u8, wrap_u16, callV_O, okIds, passObjs, passBody, backObjs, backBody, adopts, List.idxOf?, List.findIdx?, List.findIdx?.go, isNilP, mapLook, mapGet, keyGet, adopts, List.lookup, callV_R, backBody, eg, ec]
          refine XA_for (fun i => ⟨[(9, .ptr 1 0 0), (30, .ro l.length fl), (31, .int .i64 l.length), (32, .int .i64 i)], [⟨0, .none⟩, bV 0 2 0 ds m (runC ds m S0 (l.take i)), bM 0 (runC ds m S0 (l.take i)), ⟨0, .none⟩]⟩)
            (fun _ => True) l.length 0 (Nat.zero_le _) (by simp [AV.atom, normA, lkE, fixObjs, fixBody, fixV, fixCell, bV, bM, hz0]) trivial ?_ ?_
          · intro i _ hi _
            have hi' : (i : Int) < l.length := by omega
            obtain ⟨Ha, ea⟩ := hdo i hi
            have hs := hsc i hi
            have hze := h1 i hi
            have hd := hd i hi
            have hws := wrap_succ i l.length hi (by omega)
            rw [hze, ← hs] at ea
            generalize runC ds m S0 (l.take (i + 1)) = T' at *
            generalize runC ds m S0 (l.take i) = T at *
            generalize l[i] = dR at *
            obtain ⟨db, R⟩ := dR
            simp only [rowC, chC, bV, bM, List.cons_append, List.nil_append] at ea hd ⊢
            simp [beqI, bneI, mm_min2, mm_max2, mm_min3, mm_max3, startE, lkE, lkX, lkE_rest, sx, substE, opVA, objs0, List.replicate, XA_seq, XA_region, XOA_go, goE_someA, opV, ev, putA, layAll, XOA_nil, XA_skip_seq, XA_skip_nil, XOA_gd, goG_tA, goG_uA, binV, bi_add, bi_sub, bi_mul, bi_quo, bi_rem, bi_eql, bi_neq, bi_lss, bi_leq, bi_gtr, bi_geq, bi_shl, bi_shr, bi_and, bi_or, bi_xor, unV, XA_ret_nil, XA_ret_cons, endFA_r, endFA_n, endTA_r, endTA_n, endRA_r, endRA_n, endEA_r, endEA_n, List.take, fltR, resultsA, resAs, resA, XA_block, XA_cond, pickX_t, pickX_f, pickX_b, XA_skip_blk, XA_skip_lp, XA_exit_seq, XA_exit_lp, XA_exit_blk, XA_exit_nil, load1, Ev.loadCells, objCells, bodyCells, setCells, AV.flat, AV.flat1, backR, backV, backCell, mapO, AV.cells, AV.atom, AV.tree, fillV, repeatL, treeCell, freezeAll, eqCells, callV_T, callV_F, passN, passV, passCell, srcCells, sliceBounds, hiB, loB, thenQ_nA, thenQ_xA, thenQ_rA, runK_nA, runK_xA, runK_rA, wrap_i64, wrap_u64, wrap_u32, wrap_u8, wrap_u16, callV_O, okIds, passObjs, passBody, backObjs, backBody, adopts, List.idxOf?, List.findIdx?, List.findIdx?.go, isNilP, mapLook, mapGet, keyGet, adopts, List.lookup, AV.atom, normA, lkE, fixObjs, fixBody, fixV, fixCell, hi', hi, hd, hfl, ea, hws]
          · intro _
            rw [hTL]
            generalize srt (runL ds m rows l) = K at *
            generalize runC ds m S0 l = T at *
            simp only [bV, bM, rW] at er ⊢
            simp [beqI, bneI, mm_min2, mm_max2, mm_min3, mm_max3, startE, lkE, lkX, lkE_rest, sx, substE, opVA, objs0, List.replicate, XA_seq, XA_region, XOA_go, goE_someA, opV, ev, putA, layAll, XOA_nil, XA_skip_seq, XA_skip_nil, XOA_gd, goG_tA, goG_uA, binV, bi_add, bi_sub, bi_mul, bi_quo, bi_rem, bi_eql, bi_neq, bi_lss, bi_leq, bi_gtr, bi_geq, bi_shl, bi_shr, bi_and, bi_or, bi_xor, unV, XA_ret_nil, XA_ret_cons, endFA_r, endFA_n, endTA_r, endTA_n, endRA_r, endRA_n, endEA_r, endEA_n, List.take, fltR, resultsA, resAs, resA, XA_block, XA_cond, pickX_t, pickX_f, pickX_b, XA_skip_blk, XA_skip_lp, XA_exit_seq, XA_exit_lp, XA_exit_blk, XA_exit_nil, load1, Ev.loadCells, objCells, bodyCells, setCells, AV.flat, AV.flat1, backR, backV, backCell, mapO, AV.cells, AV.atom, AV.tree, fillV, repeatL, treeCell, freezeAll, eqCells, callV_T, callV_F, passN, passV, passCell, srcCells, sliceBounds, hiB, loB, thenQ_nA, thenQ_xA, thenQ_rA, runK_nA, runK_xA, runK_rA, wrap_i64, wrap_u64, wrap_u32, wrap_u8, wrap_u16, callV_O, okIds, passObjs, passBody, backObjs, backBody, adopts, List.idxOf?, List.findIdx?, List.findIdx?.go, isNilP, mapLook, mapGet, keyGet, adopts, List.lookup, AV.atom, normA, lkE, fixObjs, fixBody, fixV, fixCell, er, toldT, rW]
      · have hb : foldB ds m rows l = ([], chkB ds m l) := by
          unfold foldB
          rw [if_neg (by rw [cg]; simp), if_pos cc]
        rw [hb]
        generalize chkB ds m l = CK at *
        obtain ⟨c1, c2⟩ := CK
        simp only [rH, rW] at ec ⊢
        simp only [rW] at eg
        simp only at cc
        refine cvTA_R (mf := Mf.f14) rfl rfl (by kernel_rfl) ?_
        simp only [Mf.f14]
        simp only [rowC, chC, bV, bM] at eg
        simp [beqI, bneI, mm_min2, mm_max2, mm_min3, mm_max3, startE, lkE, lkX, lkE_rest, sx, substE, opVA, objs0, List.replicate, XA_seq, XA_region, XOA_go, goE_someA, opV, ev, putA, layAll, XOA_nil, XA_skip_seq, XA_skip_nil, XOA_gd, goG_tA, goG_uA, binV, bi_add, bi_sub, bi_mul, bi_quo, bi_rem, bi_eql, bi_neq, bi_lss, bi_leq, bi_gtr, bi_geq, bi_shl, bi_shr, bi_and, bi_or, bi_xor, unV, XA_ret_nil, XA_ret_cons, endFA_r, endFA_n, endTA_r, endTA_n, endRA_r, endRA_n, endEA_r, endEA_n, List.take, fltR, resultsA, resAs, resA, XA_block, XA_cond, pickX_t, pickX_f, pickX_b, XA_skip_blk, XA_skip_lp, XA_exit_seq, XA_exit_lp, XA_exit_blk, XA_exit_nil, load1, Ev.loadCells, objCells, bodyCells, setCells, AV.flat, AV.flat1, backR, backV, backCell, mapO, AV.cells, AV.atom, AV.tree, fillV, repeatL, treeCell, freezeAll, eqCells, callV_T, callV_F, passN, passV, passCell, srcCells, sliceBounds, hiB, loB, thenQ_nA, thenQ_xA, thenQ_rA, runK_nA, runK_xA, runK_rA, wrap_i64, wrap_u64, wrap_u32, wrap_u8, wrap_u16, callV_O, okIds, passObjs, passBody, backObjs, backBody, adopts, List.idxOf?, List.findIdx?, List.findIdx?.go, isNilP, mapLook, mapGet, keyGet, adopts, List.lookup, callV_R, backBody, eg, ec, cc, toldT, rW, flatW_nil]
    · have cg' : givB ds m rows = false := by simpa using cg
      have hz : (goF ds m [] (adds rows) 0).2.2 ≠ 0 := fun c => cg ((giv_go ds m rows g).1.1 c)
      obtain ⟨S', Hg, eg⟩ := given_bad ds m rows hC g hk hn hz
      have hb : foldB ds m rows l = ([], 0, 1) := by
        unfold foldB
        rw [if_pos cg']
      rw [hb]
      simp only [rH, rW] at eg ⊢
      refine cvTA_R (mf := Mf.f14) rfl rfl (by kernel_rfl) ?_
      simp only [Mf.f14]
      simp only [rowC, chC, bV, bM] at eg
      simp [beqI, bneI, mm_min2, mm_max2, mm_min3, mm_max3, startE, lkE, lkX, lkE_rest, sx, substE, opVA, objs0, List.replicate, XA_seq, XA_region, XOA_go, goE_someA, opV, ev, putA, layAll, XOA_nil, XA_skip_seq, XA_skip_nil, XOA_gd, goG_tA, goG_uA, binV, bi_add, bi_sub, bi_mul, bi_quo, bi_rem, bi_eql, bi_neq, bi_lss, bi_leq, bi_gtr, bi_geq, bi_shl, bi_shr, bi_and, bi_or, bi_xor, unV, XA_ret_nil, XA_ret_cons, endFA_r, endFA_n, endTA_r, endTA_n, endRA_r, endRA_n, endEA_r, endEA_n, List.take, fltR, resultsA, resAs, resA, XA_block, XA_cond, pickX_t, pickX_f, pickX_b, XA_skip_blk, XA_skip_lp, XA_exit_seq, XA_exit_lp, XA_exit_blk, XA_exit_nil, load1, Ev.loadCells, objCells, bodyCells, setCells, AV.flat, AV.flat1, backR, backV, backCell, mapO, AV.cells, AV.atom, AV.tree, fillV, repeatL, treeCell, freezeAll, eqCells, callV_T, callV_F, passN, passV, passCell, srcCells, sliceBounds, hiB, loB, thenQ_nA, thenQ_xA, thenQ_rA, runK_nA, runK_xA, runK_rA, wrap_i64, wrap_u64, wrap_u32, wrap_u8, wrap_u16, callV_O, okIds, passObjs, passBody, backObjs, backBody, adopts, List.idxOf?, List.findIdx?, List.findIdx?.go, isNilP, mapLook, mapGet, keyGet, adopts, List.lookup, callV_R, backBody, eg, toldT, rW, flatW_nil]
  · have g' : goodC ds m = false := by simpa using g
    obtain ⟨Hg, eg⟩ := given_none ds m rows hC g'
    have hb : foldB ds m rows l = ([], 0, 1) := by
      unfold foldB givB
      rw [if_pos (by rw [g']; rfl)]
    rw [hb]
    simp only [rH, rW] at eg ⊢
    refine cvTA_R (mf := Mf.f14) rfl rfl (by kernel_rfl) ?_
    simp only [Mf.f14]
    simp [beqI, bneI, mm_min2, mm_max2, mm_min3, mm_max3, startE, lkE, lkX, lkE_rest, sx, substE, opVA, objs0, List.replicate, XA_seq, XA_region, XOA_go, goE_someA, opV, ev, putA, layAll, XOA_nil, XA_skip_seq, XA_skip_nil, XOA_gd, goG_tA, goG_uA, binV, bi_add, bi_sub, bi_mul, bi_quo, bi_rem, bi_eql, bi_neq, bi_lss, bi_leq, bi_gtr, bi_geq, bi_shl, bi_shr, bi_and, bi_or, bi_xor, unV, XA_ret_nil, XA_ret_cons, endFA_r, endFA_n, endTA_r, endTA_n, endRA_r, endRA_n, endEA_r, endEA_n, List.take, fltR, resultsA, resAs, resA, XA_block, XA_cond, pickX_t, pickX_f, pickX_b, XA_skip_blk, XA_skip_lp, XA_exit_seq, XA_exit_lp, XA_exit_blk, XA_exit_nil, load1, Ev.loadCells, objCells, bodyCells, setCells, AV.flat, AV.flat1, backR, backV, backCell, mapO, AV.cells, AV.atom, AV.tree, fillV, repeatL, treeCell, freezeAll, eqCells, callV_T, callV_F, passN, passV, passCell, srcCells, sliceBounds, hiB, loB, thenQ_nA, thenQ_xA, thenQ_rA, runK_nA, runK_xA, runK_rA, wrap_i64, wrap_u64, wrap_u32, wrap_u8, wrap_u16, callV_O, okIds, passObjs, passBody, backObjs, backBody, adopts, List.idxOf?, List.findIdx?, List.findIdx?.go, isNilP, mapLook, mapGet, keyGet, adopts, List.lookup, callV_R, backBody, eg, toldT, rW, flatW_nil]
end Go.Proofs.Ytpohmfihpnineaa
