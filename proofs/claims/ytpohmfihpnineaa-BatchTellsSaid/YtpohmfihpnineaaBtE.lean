/- Batches: the document's Fold. -/
import Derived.Test.YtpohmfihpnineaaBtD
set_option linter.unusedSimpArgs false
set_option linter.unusedVariables false
set_option maxHeartbeats 16000000
set_option maxRecDepth 100000
namespace Go.Proofs.Ytpohmfihpnineaa
open Go.Ev
theorem srt_srt {l : List Rw} (h : okL l) : (srt l).Pairwise fun a b => ¬ ltR b a := by
  rw [← rS_srt h]; exact rS_sorted l
theorem rfold_ev (ds : List Dm) (m : Int) (rows : List Rw) (l : List Ch) (hC : okC ds) (hk : okL rows) (hl : okH l) (hn : rows.length ≤ 500) (hn2 : l.length ≤ 300) :
    cvT tabC 25 [.agg [.ro ds.length (flatD ds), .int .i64 m], rW rows, rH l] = some (toldC (foldB ds m rows l)) := by
  have e1 := rrows_ev ds m rows hC hk (by omega)
  by_cases cg : givB ds m rows = true
  · rw [cg] at e1
    have ec := rcheck_ev ds m l hC hl (by omega)
    by_cases cc : (chkB ds m l).2 = 0
    · obtain ⟨hl40, hgood, hc0⟩ := chk_ok cc
      rw [hc0] at ec
      have hb : foldB ds m rows l = (srt (goF ds m rows l 0).1, (goF ds m rows l 0).2) := by
        unfold foldB
        rw [if_neg (by rw [cg]; simp), if_neg (by rw [cc]; simp)]
      rw [hb]
      have es := cvTC (cvTB (cvTS (rsort_ev rows hk (by omega))))
      rw [rS_srt hk] at es
      have hgo := goF_perm l (ds := ds) (m := m) 0 (srt_perm rows)
      have hgl := run_W ds m (srt_ok hk) (srt_srt hk) l hl
      have hd := fun i (h : i < l.length) => dropH l i h
      have hfl := flatH_len l
      have hsc := fun i (h : i < l.length) => runW_succ ds m (srt rows) l i h
      have hz0 : runW ds m (srt rows) [] = srt rows := rfl
      have hdo : ∀ i (h : i < l.length), ∃ X H, cfT tabC 45 [.ptr 0 0 0, .agg (chC l[i].1 l[i].2)] [wV 0 ds m (runW ds m (srt rows) (l.take i))] =
          some (.int .i64 (errL ds m (runL ds m (srt rows) (l.take i)) l[i].1 l[i].2), ⟨0, .var [.ro ds.length (flatD ds), .int .i64 m, X]⟩ :: H) ∧ (X = rW (runW ds m (srt rows) (l.take (i + 1))) ∨ ∃ n cs b, X = .own 2 3 0 n 6 ∧ H = [b, ⟨3, .row true 6 cs⟩] ∧ rW (runW ds m (srt rows) (l.take (i + 1))) = .ro n cs ∧ cs.length = n * 6) := by
        intro i h
        obtain ⟨p1, p2, p3, p4⟩ := hgl i (by omega)
        have := srt_len rows
        obtain ⟨X, H, e, hX⟩ := rdo_R ds m (runW ds m (srt rows) (l.take i)) l[i].1 l[i].2 hC p3 (hl _ (List.getElem_mem h)) (by omega)
        rw [hsc i h, ← errL_perm p1]
        exact ⟨X, H, cfC e, hX⟩
      rcases goF_cases ds m l (srt rows) 0 with ⟨k, hkl, h1, h2, h3⟩ | ⟨h1, h2⟩
      · have hgo2 : goF ds m rows l 0 = ([], 0 + k, errL ds m (runL ds m (srt rows) (l.take k)) l[k].1 l[k].2) := by
          have q1 := hgo.2
          have q2 := hgo.1
          rw [h3] at q1 q2
          have : (goF ds m rows l 0).1 = [] := List.nil_perm.1 q2
          exact Prod.ext this q1.symm
        rw [hgo2]
        simp only [rH, rW] at ec e1 es ⊢
        generalize hfW : flatW rows = fw at *
        generalize hfH : flatH l = fl at *
        refine cvTA_R (mf := Mf.f25) rfl rfl (by kernel_rfl) ?_
        simp only [Mf.f25]
        simp only [toldC, rW, flatW_nil] at ec
        simp [beqI, bneI, mm_min2, mm_max2, mm_min3, mm_max3, startE, lkE, lkX, lkE_rest, sx, substE, opVA, objs0, List.replicate, XA_seq, XA_region, XOA_go, goE_someA, opV, ev, putA, layAll, XOA_nil, XA_skip_seq, XA_skip_nil, XOA_gd, goG_tA, goG_uA, binV, bi_add, bi_sub, bi_mul, bi_quo, bi_rem, bi_eql, bi_neq, bi_lss, bi_leq, bi_gtr, bi_geq, bi_shl, bi_shr, bi_and, bi_or, bi_xor, unV, XA_ret_nil, XA_ret_cons, endFA_r, endFA_n, endTA_r, endTA_n, endRA_r, endRA_n, endEA_r, endEA_n, List.take, fltR, resultsA, resAs, resA, XA_block, XA_cond, pickX_t, pickX_f, pickX_b, XA_skip_blk, XA_skip_lp, XA_exit_seq, XA_exit_lp, XA_exit_blk, XA_exit_nil, load1, Ev.loadCells, objCells, bodyCells, setCells, AV.flat, AV.flat1, backR, backV, backCell, mapO, AV.cells, AV.atom, AV.tree, fillV, repeatL, treeCell, freezeAll, eqCells, callV_T, callV_F, passN, passV, passCell, srcCells, sliceBounds, hiB, loB, thenQ_nA, thenQ_xA, thenQ_rA, runK_nA, runK_xA, runK_rA, wrap_i64, wrap_u64, wrap_u32, wrap_u8, wrap_u16, callV_O, okIds, passObjs, passBody, backObjs, backBody, adopts, List.idxOf?, List.findIdx?, List.findIdx?.go, isNilP, mapLook, mapGet, keyGet, adopts, List.lookup, ec, e1, es]
        refine XA_for (fun i => ⟨[(2, .ro l.length fl), (6, .ptr 1 0 0), (8, .ptr 3 0 0), (9, .int .i64 i)], [⟨0, .none⟩, ⟨0, .var [.nilsl, .int .i64 0, .int .i64 0]⟩, ⟨0, .none⟩, wV 0 ds m (runW ds m (srt rows) (l.take i))]⟩)
          (fun _ => True) k 0 (Nat.zero_le _) (by simp [AV.atom, normA, lkE, fixObjs, fixBody, fixV, fixCell, wV, rW, hz0]) trivial ?_ ?_
        · intro i _ hik _
          have hi : i < l.length := by omega
          have hi' : (i : Int) < l.length := by omega
          obtain ⟨X, Ha, ea, hX⟩ := hdo i hi
          have hze := h1 i hi hik
          have hd := hd i hi
          have hws := wrap_succ i l.length hi (by omega)
          rw [hze] at ea
          generalize runW ds m (srt rows) (l.take (i + 1)) = T' at *
          generalize runW ds m (srt rows) (l.take i) = T at *
          generalize l[i] = dR at *
          obtain ⟨db, R⟩ := dR
          rcases hX with rfl | ⟨n1, cs1, b1, rfl, rfl, hX1, hX2⟩
          · simp only [rowC, chC, wV, rW, List.cons_append, List.nil_append] at ea hd ⊢
            simp [beqI, bneI, mm_min2, mm_max2, mm_min3, mm_max3, startE, lkE, lkX, lkE_rest, sx, substE, opVA, objs0, List.replicate, XA_seq, XA_region, XOA_go, goE_someA, opV, ev, putA, layAll, XOA_nil, XA_skip_seq, XA_skip_nil, XOA_gd, goG_tA, goG_uA, binV, bi_add, bi_sub, bi_mul, bi_quo, bi_rem, bi_eql, bi_neq, bi_lss, bi_leq, bi_gtr, bi_geq, bi_shl, bi_shr, bi_and, bi_or, bi_xor, unV, XA_ret_nil, XA_ret_cons, endFA_r, endFA_n, endTA_r, endTA_n, endRA_r, endRA_n, endEA_r, endEA_n, List.take, fltR, resultsA, resAs, resA, XA_block, XA_cond, pickX_t, pickX_f, pickX_b, XA_skip_blk, XA_skip_lp, XA_exit_seq, XA_exit_lp, XA_exit_blk, XA_exit_nil, load1, Ev.loadCells, objCells, bodyCells, setCells, AV.flat, AV.flat1, backR, backV, backCell, mapO, AV.cells, AV.atom, AV.tree, fillV, repeatL, treeCell, freezeAll, eqCells, callV_T, callV_F, passN, passV, passCell, srcCells, sliceBounds, hiB, loB, thenQ_nA, thenQ_xA, thenQ_rA, runK_nA, runK_xA, runK_rA, wrap_i64, wrap_u64, wrap_u32, wrap_u8, wrap_u16, callV_O, okIds, passObjs, passBody, backObjs, backBody, adopts, List.idxOf?, List.findIdx?, List.findIdx?.go, isNilP, mapLook, mapGet, keyGet, adopts, List.lookup, AV.atom, normA, lkE, fixObjs, fixBody, fixV, fixCell, hi', hi, hd, hfl, ea, hws]
          · have htk : cs1.take (n1 * 6) = cs1 := List.take_of_length_le (by omega)
            simp only [wV, hX1] at ea ⊢
            simp only [rowC, chC, wV, rW, List.cons_append, List.nil_append] at ea hd ⊢
            simp [beqI, bneI, mm_min2, mm_max2, mm_min3, mm_max3, startE, lkE, lkX, lkE_rest, sx, substE, opVA, objs0, List.replicate, XA_seq, XA_region, XOA_go, goE_someA, opV, ev, putA, layAll, XOA_nil, XA_skip_seq, XA_skip_nil, XOA_gd, goG_tA, goG_uA, binV, bi_add, bi_sub, bi_mul, bi_quo, bi_rem, bi_eql, bi_neq, bi_lss, bi_leq, bi_gtr, bi_geq, bi_shl, bi_shr, bi_and, bi_or, bi_xor, unV, XA_ret_nil, XA_ret_cons, endFA_r, endFA_n, endTA_r, endTA_n, endRA_r, endRA_n, endEA_r, endEA_n, List.take, fltR, resultsA, resAs, resA, XA_block, XA_cond, pickX_t, pickX_f, pickX_b, XA_skip_blk, XA_skip_lp, XA_exit_seq, XA_exit_lp, XA_exit_blk, XA_exit_nil, load1, Ev.loadCells, objCells, bodyCells, setCells, AV.flat, AV.flat1, backR, backV, backCell, mapO, AV.cells, AV.atom, AV.tree, fillV, repeatL, treeCell, freezeAll, eqCells, callV_T, callV_F, passN, passV, passCell, srcCells, sliceBounds, hiB, loB, thenQ_nA, thenQ_xA, thenQ_rA, runK_nA, runK_xA, runK_rA, wrap_i64, wrap_u64, wrap_u32, wrap_u8, wrap_u16, callV_O, okIds, passObjs, passBody, backObjs, backBody, adopts, List.idxOf?, List.findIdx?, List.findIdx?.go, isNilP, mapLook, mapGet, keyGet, adopts, List.lookup, AV.atom, normA, lkE, fixObjs, fixBody, fixV, fixCell, hi', hi, hd, hfl, ea, hws, htk, hX2]
        · intro _
          have hi' : (k : Int) < l.length := by omega
          obtain ⟨X, Ha, ea, hX⟩ := hdo k hkl
          have hd := hd k hkl
          generalize errL ds m (runL ds m (srt rows) (l.take k)) l[k].1 l[k].2 = er at *
          generalize runW ds m (srt rows) (l.take (k + 1)) = T' at *
          generalize runW ds m (srt rows) (l.take k) = T at *
          generalize l[k] = dR at *
          obtain ⟨db, R⟩ := dR
          rcases hX with rfl | ⟨n1, cs1, b1, rfl, rfl, hX1, hX2⟩
          · simp only [rowC, chC, wV, rW, List.cons_append, List.nil_append] at ea hd ⊢
            simp [beqI, bneI, mm_min2, mm_max2, mm_min3, mm_max3, startE, lkE, lkX, lkE_rest, sx, substE, opVA, objs0, List.replicate, XA_seq, XA_region, XOA_go, goE_someA, opV, ev, putA, layAll, XOA_nil, XA_skip_seq, XA_skip_nil, XOA_gd, goG_tA, goG_uA, binV, bi_add, bi_sub, bi_mul, bi_quo, bi_rem, bi_eql, bi_neq, bi_lss, bi_leq, bi_gtr, bi_geq, bi_shl, bi_shr, bi_and, bi_or, bi_xor, unV, XA_ret_nil, XA_ret_cons, endFA_r, endFA_n, endTA_r, endTA_n, endRA_r, endRA_n, endEA_r, endEA_n, List.take, fltR, resultsA, resAs, resA, XA_block, XA_cond, pickX_t, pickX_f, pickX_b, XA_skip_blk, XA_skip_lp, XA_exit_seq, XA_exit_lp, XA_exit_blk, XA_exit_nil, load1, Ev.loadCells, objCells, bodyCells, setCells, AV.flat, AV.flat1, backR, backV, backCell, mapO, AV.cells, AV.atom, AV.tree, fillV, repeatL, treeCell, freezeAll, eqCells, callV_T, callV_F, passN, passV, passCell, srcCells, sliceBounds, hiB, loB, thenQ_nA, thenQ_xA, thenQ_rA, runK_nA, runK_xA, runK_rA, wrap_i64, wrap_u64, wrap_u32, wrap_u8, wrap_u16, callV_O, okIds, passObjs, passBody, backObjs, backBody, adopts, List.idxOf?, List.findIdx?, List.findIdx?.go, isNilP, mapLook, mapGet, keyGet, adopts, List.lookup, AV.atom, normA, lkE, fixObjs, fixBody, fixV, fixCell, hi', hkl, hd, hfl, ea, h2, toldC, rW, srt_nil, flatW_nil]
          · have htk : cs1.take (n1 * 6) = cs1 := List.take_of_length_le (by omega)
            simp only [wV] at ea ⊢
            simp only [rowC, chC, wV, rW, List.cons_append, List.nil_append] at ea hd ⊢
            simp [beqI, bneI, mm_min2, mm_max2, mm_min3, mm_max3, startE, lkE, lkX, lkE_rest, sx, substE, opVA, objs0, List.replicate, XA_seq, XA_region, XOA_go, goE_someA, opV, ev, putA, layAll, XOA_nil, XA_skip_seq, XA_skip_nil, XOA_gd, goG_tA, goG_uA, binV, bi_add, bi_sub, bi_mul, bi_quo, bi_rem, bi_eql, bi_neq, bi_lss, bi_leq, bi_gtr, bi_geq, bi_shl, bi_shr, bi_and, bi_or, bi_xor, unV, XA_ret_nil, XA_ret_cons, endFA_r, endFA_n, endTA_r, endTA_n, endRA_r, endRA_n, endEA_r, endEA_n, List.take, fltR, resultsA, resAs, resA, XA_block, XA_cond, pickX_t, pickX_f, pickX_b, XA_skip_blk, XA_skip_lp, XA_exit_seq, XA_exit_lp, XA_exit_blk, XA_exit_nil, load1, Ev.loadCells, objCells, bodyCells, setCells, AV.flat, AV.flat1, backR, backV, backCell, mapO, AV.cells, AV.atom, AV.tree, fillV, repeatL, treeCell, freezeAll, eqCells, callV_T, callV_F, passN, passV, passCell, srcCells, sliceBounds, hiB, loB, thenQ_nA, thenQ_xA, thenQ_rA, runK_nA, runK_xA, runK_rA, wrap_i64, wrap_u64, wrap_u32, wrap_u8, wrap_u16, callV_O, okIds, passObjs, passBody, backObjs, backBody, adopts, List.idxOf?, List.findIdx?, List.findIdx?.go, isNilP, mapLook, mapGet, keyGet, adopts, List.lookup, AV.atom, normA, lkE, fixObjs, fixBody, fixV, fixCell, hi', hkl, hd, hfl, ea, h2, toldC, rW, srt_nil, flatW_nil, htk, hX2]
      · have hTL : l.take l.length = l := List.take_length
        have hgl := hgl l.length (Nat.le_refl _)
        rw [hTL] at hgl
        have hgo2 : srt (goF ds m rows l 0).1 = runW ds m (srt rows) l ∧ (goF ds m rows l 0).2 = (0, 0) := by
          have q1 := hgo.2
          have q2 := hgo.1
          rw [h2] at q1 q2
          refine ⟨?_, q1.symm⟩
          have hok : okL (runW ds m (srt rows) l) := hgl.2.2.1
          rw [← srt_sorted hok hgl.2.2.2]
          exact (srt_same hok (hgl.1.trans q2)).symm
        rw [hgo2.1, hgo2.2]
        simp only [rH, rW] at ec e1 es ⊢
        generalize hfW : flatW rows = fw at *
        generalize hfH : flatH l = fl at *
        refine cvTA_R (mf := Mf.f25) rfl rfl (by kernel_rfl) ?_
        simp only [Mf.f25]
        simp only [toldC, rW, flatW_nil] at ec
        simp [beqI, bneI, mm_min2, mm_max2, mm_min3, mm_max3, startE, lkE, lkX, lkE_rest, sx, substE, opVA, objs0, List.replicate, XA_seq, XA_region, XOA_go, goE_someA, opV, ev, putA, layAll, XOA_nil, XA_skip_seq, XA_skip_nil, XOA_gd, goG_tA, goG_uA, binV, bi_add, bi_sub, bi_mul, bi_quo, bi_rem, bi_eql, bi_neq, bi_lss, bi_leq, bi_gtr, bi_geq, bi_shl, bi_shr, bi_and, bi_or, bi_xor, unV, XA_ret_nil, XA_ret_cons, endFA_r, endFA_n, endTA_r, endTA_n, endRA_r, endRA_n, endEA_r, endEA_n, List.take, fltR, resultsA, resAs, resA, XA_block, XA_cond, pickX_t, pickX_f, pickX_b, XA_skip_blk, XA_skip_lp, XA_exit_seq, XA_exit_lp, XA_exit_blk, XA_exit_nil, load1, Ev.loadCells, objCells, bodyCells, setCells, AV.flat, AV.flat1, backR, backV, backCell, mapO, AV.cells, AV.atom, AV.tree, fillV, repeatL, treeCell, freezeAll, eqCells, callV_T, callV_F, passN, passV, passCell, srcCells, sliceBounds, hiB, loB, thenQ_nA, thenQ_xA, thenQ_rA, runK_nA, runK_xA, runK_rA, wrap_i64, wrap_u64, wrap_u32, wrap_u8, wrap_u16, callV_O, okIds, passObjs, passBody, backObjs, backBody, adopts, List.idxOf?, List.findIdx?, List.findIdx?.go, isNilP, mapLook, mapGet, keyGet, adopts, List.lookup, ec, e1, es]
        refine XA_for (fun i => ⟨[(2, .ro l.length fl), (6, .ptr 1 0 0), (8, .ptr 3 0 0), (9, .int .i64 i)], [⟨0, .none⟩, ⟨0, .var [.nilsl, .int .i64 0, .int .i64 0]⟩, ⟨0, .none⟩, wV 0 ds m (runW ds m (srt rows) (l.take i))]⟩)
          (fun _ => True) l.length 0 (Nat.zero_le _) (by simp [AV.atom, normA, lkE, fixObjs, fixBody, fixV, fixCell, wV, rW, hz0]) trivial ?_ ?_
        · intro i _ hi _
          have hi' : (i : Int) < l.length := by omega
          obtain ⟨X, Ha, ea, hX⟩ := hdo i hi
          have hze := h1 i hi
          have hd := hd i hi
          have hws := wrap_succ i l.length hi (by omega)
          rw [hze] at ea
          generalize runW ds m (srt rows) (l.take (i + 1)) = T' at *
          generalize runW ds m (srt rows) (l.take i) = T at *
          generalize l[i] = dR at *
          obtain ⟨db, R⟩ := dR
          rcases hX with rfl | ⟨n1, cs1, b1, rfl, rfl, hX1, hX2⟩
          · simp only [rowC, chC, wV, rW, List.cons_append, List.nil_append] at ea hd ⊢
            simp [beqI, bneI, mm_min2, mm_max2, mm_min3, mm_max3, startE, lkE, lkX, lkE_rest, sx, substE, opVA, objs0, List.replicate, XA_seq, XA_region, XOA_go, goE_someA, opV, ev, putA, layAll, XOA_nil, XA_skip_seq, XA_skip_nil, XOA_gd, goG_tA, goG_uA, binV, bi_add, bi_sub, bi_mul, bi_quo, bi_rem, bi_eql, bi_neq, bi_lss, bi_leq, bi_gtr, bi_geq, bi_shl, bi_shr, bi_and, bi_or, bi_xor, unV, XA_ret_nil, XA_ret_cons, endFA_r, endFA_n, endTA_r, endTA_n, endRA_r, endRA_n, endEA_r, endEA_n, List.take, fltR, resultsA, resAs, resA, XA_block, XA_cond, pickX_t, pickX_f, pickX_b, XA_skip_blk, XA_skip_lp, XA_exit_seq, XA_exit_lp, XA_exit_blk, XA_exit_nil, load1, Ev.loadCells, objCells, bodyCells, setCells, AV.flat, AV.flat1, backR, backV, backCell, mapO, AV.cells, AV.atom, AV.tree, fillV, repeatL, treeCell, freezeAll, eqCells, callV_T, callV_F, passN, passV, passCell, srcCells, sliceBounds, hiB, loB, thenQ_nA, thenQ_xA, thenQ_rA, runK_nA, runK_xA, runK_rA, wrap_i64, wrap_u64, wrap_u32, wrap_u8, wrap_u16, callV_O, okIds, passObjs, passBody, backObjs, backBody, adopts, List.idxOf?, List.findIdx?, List.findIdx?.go, isNilP, mapLook, mapGet, keyGet, adopts, List.lookup, AV.atom, normA, lkE, fixObjs, fixBody, fixV, fixCell, hi', hi, hd, hfl, ea, hws]
          · have htk : cs1.take (n1 * 6) = cs1 := List.take_of_length_le (by omega)
            simp only [wV, hX1] at ea ⊢
            simp only [rowC, chC, wV, rW, List.cons_append, List.nil_append] at ea hd ⊢
            simp [beqI, bneI, mm_min2, mm_max2, mm_min3, mm_max3, startE, lkE, lkX, lkE_rest, sx, substE, opVA, objs0, List.replicate, XA_seq, XA_region, XOA_go, goE_someA, opV, ev, putA, layAll, XOA_nil, XA_skip_seq, XA_skip_nil, XOA_gd, goG_tA, goG_uA, binV, bi_add, bi_sub, bi_mul, bi_quo, bi_rem, bi_eql, bi_neq, bi_lss, bi_leq, bi_gtr, bi_geq, bi_shl, bi_shr, bi_and, bi_or, bi_xor, unV, XA_ret_nil, XA_ret_cons, endFA_r, endFA_n, endTA_r, endTA_n, endRA_r, endRA_n, endEA_r, endEA_n, List.take, fltR, resultsA, resAs, resA, XA_block, XA_cond, pickX_t, pickX_f, pickX_b, XA_skip_blk, XA_skip_lp, XA_exit_seq, XA_exit_lp, XA_exit_blk, XA_exit_nil, load1, Ev.loadCells, objCells, bodyCells, setCells, AV.flat, AV.flat1, backR, backV, backCell, mapO, AV.cells, AV.atom, AV.tree, fillV, repeatL, treeCell, freezeAll, eqCells, callV_T, callV_F, passN, passV, passCell, srcCells, sliceBounds, hiB, loB, thenQ_nA, thenQ_xA, thenQ_rA, runK_nA, runK_xA, runK_rA, wrap_i64, wrap_u64, wrap_u32, wrap_u8, wrap_u16, callV_O, okIds, passObjs, passBody, backObjs, backBody, adopts, List.idxOf?, List.findIdx?, List.findIdx?.go, isNilP, mapLook, mapGet, keyGet, adopts, List.lookup, AV.atom, normA, lkE, fixObjs, fixBody, fixV, fixCell, hi', hi, hd, hfl, ea, hws, htk, hX2]
        · intro _
          rw [hTL]
          generalize runW ds m (srt rows) l = T at *
          simp [beqI, bneI, mm_min2, mm_max2, mm_min3, mm_max3, startE, lkE, lkX, lkE_rest, sx, substE, opVA, objs0, List.replicate, XA_seq, XA_region, XOA_go, goE_someA, opV, ev, putA, layAll, XOA_nil, XA_skip_seq, XA_skip_nil, XOA_gd, goG_tA, goG_uA, binV, bi_add, bi_sub, bi_mul, bi_quo, bi_rem, bi_eql, bi_neq, bi_lss, bi_leq, bi_gtr, bi_geq, bi_shl, bi_shr, bi_and, bi_or, bi_xor, unV, XA_ret_nil, XA_ret_cons, endFA_r, endFA_n, endTA_r, endTA_n, endRA_r, endRA_n, endEA_r, endEA_n, List.take, fltR, resultsA, resAs, resA, XA_block, XA_cond, pickX_t, pickX_f, pickX_b, XA_skip_blk, XA_skip_lp, XA_exit_seq, XA_exit_lp, XA_exit_blk, XA_exit_nil, load1, Ev.loadCells, objCells, bodyCells, setCells, AV.flat, AV.flat1, backR, backV, backCell, mapO, AV.cells, AV.atom, AV.tree, fillV, repeatL, treeCell, freezeAll, eqCells, callV_T, callV_F, passN, passV, passCell, srcCells, sliceBounds, hiB, loB, thenQ_nA, thenQ_xA, thenQ_rA, runK_nA, runK_xA, runK_rA, wrap_i64, wrap_u64, wrap_u32, wrap_u8, wrap_u16, callV_O, okIds, passObjs, passBody, backObjs, backBody, adopts, List.idxOf?, List.findIdx?, List.findIdx?.go, isNilP, mapLook, mapGet, keyGet, adopts, List.lookup, AV.atom, normA, lkE, fixObjs, fixBody, fixV, fixCell, wV, rW, toldC]
    · have hb : foldB ds m rows l = ([], chkB ds m l) := by
        unfold foldB
        rw [if_neg (by rw [cg]; simp), if_pos cc]
      rw [hb]
      generalize chkB ds m l = CK at *
      obtain ⟨c1, c2⟩ := CK
      simp only [rH, rW, toldC, flatW_nil] at ec e1 ⊢
      simp only at cc
      refine cvTA_R (mf := Mf.f25) rfl rfl (by kernel_rfl) ?_
      simp only [Mf.f25]
      simp [beqI, bneI, mm_min2, mm_max2, mm_min3, mm_max3, startE, lkE, lkX, lkE_rest, sx, substE, opVA, objs0, List.replicate, XA_seq, XA_region, XOA_go, goE_someA, opV, ev, putA, layAll, XOA_nil, XA_skip_seq, XA_skip_nil, XOA_gd, goG_tA, goG_uA, binV, bi_add, bi_sub, bi_mul, bi_quo, bi_rem, bi_eql, bi_neq, bi_lss, bi_leq, bi_gtr, bi_geq, bi_shl, bi_shr, bi_and, bi_or, bi_xor, unV, XA_ret_nil, XA_ret_cons, endFA_r, endFA_n, endTA_r, endTA_n, endRA_r, endRA_n, endEA_r, endEA_n, List.take, fltR, resultsA, resAs, resA, XA_block, XA_cond, pickX_t, pickX_f, pickX_b, XA_skip_blk, XA_skip_lp, XA_exit_seq, XA_exit_lp, XA_exit_blk, XA_exit_nil, load1, Ev.loadCells, objCells, bodyCells, setCells, AV.flat, AV.flat1, backR, backV, backCell, mapO, AV.cells, AV.atom, AV.tree, fillV, repeatL, treeCell, freezeAll, eqCells, callV_T, callV_F, passN, passV, passCell, srcCells, sliceBounds, hiB, loB, thenQ_nA, thenQ_xA, thenQ_rA, runK_nA, runK_xA, runK_rA, wrap_i64, wrap_u64, wrap_u32, wrap_u8, wrap_u16, callV_O, okIds, passObjs, passBody, backObjs, backBody, adopts, List.idxOf?, List.findIdx?, List.findIdx?.go, isNilP, mapLook, mapGet, keyGet, adopts, List.lookup, e1, ec, cc]
  · have cg' : givB ds m rows = false := by simpa using cg
    rw [cg'] at e1
    have hb : foldB ds m rows l = ([], 0, 1) := by
      unfold foldB
      rw [if_pos cg']
    rw [hb]
    simp only [rH, rW] at e1 ⊢
    refine cvTA_R (mf := Mf.f25) rfl rfl (by kernel_rfl) ?_
    simp only [Mf.f25]
    simp [beqI, bneI, mm_min2, mm_max2, mm_min3, mm_max3, startE, lkE, lkX, lkE_rest, sx, substE, opVA, objs0, List.replicate, XA_seq, XA_region, XOA_go, goE_someA, opV, ev, putA, layAll, XOA_nil, XA_skip_seq, XA_skip_nil, XOA_gd, goG_tA, goG_uA, binV, bi_add, bi_sub, bi_mul, bi_quo, bi_rem, bi_eql, bi_neq, bi_lss, bi_leq, bi_gtr, bi_geq, bi_shl, bi_shr, bi_and, bi_or, bi_xor, unV, XA_ret_nil, XA_ret_cons, endFA_r, endFA_n, endTA_r, endTA_n, endRA_r, endRA_n, endEA_r, endEA_n, List.take, fltR, resultsA, resAs, resA, XA_block, XA_cond, pickX_t, pickX_f, pickX_b, XA_skip_blk, XA_skip_lp, XA_exit_seq, XA_exit_lp, XA_exit_blk, XA_exit_nil, load1, Ev.loadCells, objCells, bodyCells, setCells, AV.flat, AV.flat1, backR, backV, backCell, mapO, AV.cells, AV.atom, AV.tree, fillV, repeatL, treeCell, freezeAll, eqCells, callV_T, callV_F, passN, passV, passCell, srcCells, sliceBounds, hiB, loB, thenQ_nA, thenQ_xA, thenQ_rA, runK_nA, runK_xA, runK_rA, wrap_i64, wrap_u64, wrap_u32, wrap_u8, wrap_u16, callV_O, okIds, passObjs, passBody, backObjs, backBody, adopts, List.idxOf?, List.findIdx?, List.findIdx?.go, isNilP, mapLook, mapGet, keyGet, adopts, List.lookup, e1, toldC, rW, flatW_nil]
end Go.Proofs.Ytpohmfihpnineaa
