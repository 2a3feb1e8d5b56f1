/- Batches: the base that is given. -/
import Derived.Test.YtpohmfihpnineaaBtL
set_option linter.unusedSimpArgs false
set_option linter.unusedVariables false
set_option maxHeartbeats 16000000
set_option maxRecDepth 100000
namespace Go.Proofs.Ytpohmfihpnineaa
open Go.Ev
theorem doC_E (ds : List Dm) (m : Int) {S : Bs} {L : List Rw} (del : Bool) {r : Rw} (hC : okC ds) (h : RB S L) (hr : okW r) (hl : L.length ≤ 1000000) : ∃ H,
    cfT tabC 30 [.ptr 0 0 0, .agg (chC del r)] [bV 0 1 0 ds m S, bM 0 S] = some (.int .i64 (errL ds m L del r), [bV 0 1 0 ds m (doS ds m S del r).2, bM 0 (doS ds m S del r).2] ++ H) := by
  obtain ⟨H, e⟩ := do_E ds m del hC h hr hl
  exact ⟨H, cfC e⟩
theorem given_none (ds : List Dm) (m : Int) (rows : List Rw) (hC : okC ds) (g : goodC ds m = false) : ∃ H, cfT tabC 29 [.agg [.ro ds.length (flatD ds), .int .i64 m], rW rows] [] =
    some (.nilptr, [⟨1, .var [.ro ds.length (flatD ds), .int .i64 m]⟩, ⟨0, .none⟩, ⟨0, .none⟩, ⟨0, .none⟩] ++ H) := by
  have e1 := cvFC (cvFB (cvFS (sgood_ev ds m hC)))
  rw [g] at e1
  simp only [rW]
  refine cfTA_E (mf := Mf.f29) rfl rfl (by kernel_rfl) ?_
  simp only [Mf.f29]
  simp [beqI, bneI, mm_min2, mm_max2, mm_min3, mm_max3, startE, lkE, lkX, lkE_rest, sx, substE, opVA, objs0, List.replicate, XA_seq, XA_region, XOA_go, goE_someA, opV, ev, putA, layAll, XOA_nil, XA_skip_seq, XA_skip_nil, XOA_gd, goG_tA, goG_uA, binV, bi_add, bi_sub, bi_mul, bi_quo, bi_rem, bi_eql, bi_neq, bi_lss, bi_leq, bi_gtr, bi_geq, bi_shl, bi_shr, bi_and, bi_or, bi_xor, unV, XA_ret_nil, XA_ret_cons, endFA_r, endFA_n, endTA_r, endTA_n, endRA_r, endRA_n, endEA_r, endEA_n, List.take, fltR, resultsA, resAs, resA, XA_block, XA_cond, pickX_t, pickX_f, pickX_b, XA_skip_blk, XA_skip_lp, XA_exit_seq, XA_exit_lp, XA_exit_blk, XA_exit_nil, load1, Ev.loadCells, objCells, bodyCells, setCells, AV.flat, AV.flat1, backR, backV, backCell, mapO, AV.cells, AV.atom, AV.tree, fillV, repeatL, treeCell, freezeAll, eqCells, callV_T, callV_F, passN, passV, passCell, srcCells, sliceBounds, hiB, loB, thenQ_nA, thenQ_xA, thenQ_rA, runK_nA, runK_xA, runK_rA, wrap_i64, wrap_u64, wrap_u32, wrap_u8, wrap_u16, callV_O, okIds, passObjs, passBody, backObjs, backBody, adopts, List.idxOf?, List.findIdx?, List.findIdx?.go, isNilP, mapLook, mapGet, keyGet, adopts, List.lookup, e1]
theorem given_good (ds : List Dm) (m : Int) (rows : List Rw) (hC : okC ds) (g : goodC ds m = true) (hk : okL rows) (hn : rows.length ≤ 1000) (hg : (goF ds m [] (adds rows) 0).2.2 = 0) : ∃ H, cfT tabC 29 [.agg [.ro ds.length (flatD ds), .int .i64 m], rW rows] [] =
    some (.ptr 1 0 0, [⟨0, .none⟩, bV 0 2 0 ds m (runC ds m bs0 (adds rows)), bM 0 (runC ds m bs0 (adds rows))] ++ H) := by
  have e1 := cvFC (cvFB (cvFS (sgood_ev ds m hC)))
  rw [g] at e1
  have en := cfC (cfB (cfS (new_cf ds m hC g)))
  have hl := adds_ok hk
  have hln := adds_len rows
  have hR := fun i (h : i ≤ rows.length) => run_RB ds m rb0 (adds rows) hl i (by omega)
  have hz : ∀ j (hj : j < rows.length), errL ds m (runL ds m [] ((adds rows).take j)) false rows[j] = 0 := by
    intro j hj
    rcases goF_cases ds m (adds rows) [] 0 with ⟨k, _, _, h2, h3⟩ | ⟨h1, _⟩
    · rw [h3] at hg; exact absurd hg h2
    · have := h1 j (by omega)
      simpa [adds] using this
  have hdo := fun i (h : i < rows.length) => doC_E ds m false hC (hR i (by omega)).1 (hk _ (List.getElem_mem h)) (by have := (hR i (by omega)).2; simp at this; omega)
  have hsc : ∀ i (h : i < rows.length), runC ds m bs0 ((adds rows).take (i + 1)) = (doS ds m (runC ds m bs0 ((adds rows).take i)) false rows[i]).2 := by
    intro i h
    have := runC_succ ds m bs0 (adds rows) i (by omega)
    simpa [adds] using this
  have hd := fun i (h : i < rows.length) => dropW rows i h
  have hfl := flatW_len rows
  have hz0 : runC ds m bs0 [] = bs0 := rfl
  have hzn : runC ds m bs0 ((adds rows).take rows.length) = runC ds m bs0 (adds rows) := by rw [← hln, List.take_length]
  rw [← hzn]
  simp only [rW]
  generalize hfW : flatW rows = fl at *
  refine cfTA_E (mf := Mf.f29) rfl rfl (by kernel_rfl) ?_
  simp only [Mf.f29]
  simp only [rowC, chC, bV, bM] at en
  simp [beqI, bneI, mm_min2, mm_max2, mm_min3, mm_max3, startE, lkE, lkX, lkE_rest, sx, substE, opVA, objs0, List.replicate, XA_seq, XA_region, XOA_go, goE_someA, opV, ev, putA, layAll, XOA_nil, XA_skip_seq, XA_skip_nil, XOA_gd, goG_tA, goG_uA, binV, bi_add, bi_sub, bi_mul, bi_quo, bi_rem, bi_eql, bi_neq, bi_lss, bi_leq, bi_gtr, bi_geq, bi_shl, bi_shr, bi_and, bi_or, bi_xor, unV, XA_ret_nil, XA_ret_cons, endFA_r, endFA_n, endTA_r, endTA_n, endRA_r, endRA_n, endEA_r, endEA_n, List.take, fltR, resultsA, resAs, resA, XA_block, XA_cond, pickX_t, pickX_f, pickX_b, XA_skip_blk, XA_skip_lp, XA_exit_seq, XA_exit_lp, XA_exit_blk, XA_exit_nil, load1, Ev.loadCells, objCells, bodyCells, setCells, AV.flat, AV.flat1, backR, backV, backCell, mapO, AV.cells, AV.atom, AV.tree, fillV, repeatL, treeCell, freezeAll, eqCells, callV_T, callV_F, passN, passV, passCell, srcCells, sliceBounds, hiB, loB, thenQ_nA, thenQ_xA, thenQ_rA, runK_nA, runK_xA, runK_rA, wrap_i64, wrap_u64, wrap_u32, wrap_u8, wrap_u16, callV_O, okIds, passObjs, passBody, backObjs, backBody, adopts, List.idxOf?, List.findIdx?, List.findIdx?.go, isNilP, mapLook, mapGet, keyGet, adopts, List.lookup, callV_R, backBody, e1, en]
  refine XA_for (fun i => ⟨[(5, .ptr 1 0 0), (13, .ro rows.length fl), (14, .int .i64 rows.length), (15, .int .i64 i)], [⟨0, .none⟩, bV 0 2 0 ds m (runC ds m bs0 ((adds rows).take i)), bM 0 (runC ds m bs0 ((adds rows).take i)), ⟨0, .none⟩]⟩)
    (fun _ => True) rows.length 0 (Nat.zero_le _) (by simp [AV.atom, normA, lkE, fixObjs, fixBody, fixV, fixCell, bV, bM, hz0]) trivial ?_ ?_
  · intro i _ hi _
    have hi' : (i : Int) < rows.length := by omega
    obtain ⟨Ha, ea⟩ := hdo i hi
    have hs := hsc i hi
    have hze := hz i hi
    have hd := hd i hi
    have hws := wrap_succ i rows.length hi (by omega)
    rw [hze, ← hs] at ea
    generalize runC ds m bs0 ((adds rows).take (i + 1)) = T' at *
    generalize runC ds m bs0 ((adds rows).take i) = T at *
    generalize rows[i] = R at *
    simp only [rowC, chC, bV, bM, List.cons_append, List.nil_append] at ea hd ⊢
    simp [beqI, bneI, mm_min2, mm_max2, mm_min3, mm_max3, startE, lkE, lkX, lkE_rest, sx, substE, opVA, objs0, List.replicate, XA_seq, XA_region, XOA_go, goE_someA, opV, ev, putA, layAll, XOA_nil, XA_skip_seq, XA_skip_nil, XOA_gd, goG_tA, goG_uA, binV, bi_add, bi_sub, bi_mul, bi_quo, bi_rem, bi_eql, bi_neq, bi_lss, bi_leq, bi_gtr, bi_geq, bi_shl, bi_shr, bi_and, bi_or, bi_xor, unV, XA_ret_nil, XA_ret_cons, endFA_r, endFA_n, endTA_r, endTA_n, endRA_r, endRA_n, endEA_r, endEA_n, List.take, fltR, resultsA, resAs, resA, XA_block, XA_cond, pickX_t, pickX_f, pickX_b, XA_skip_blk, XA_skip_lp, XA_exit_seq, XA_exit_lp, XA_exit_blk, XA_exit_nil, load1, Ev.loadCells, objCells, bodyCells, setCells, AV.flat, AV.flat1, backR, backV, backCell, mapO, AV.cells, AV.atom, AV.tree, fillV, repeatL, treeCell, freezeAll, eqCells, callV_T, callV_F, passN, passV, passCell, srcCells, sliceBounds, hiB, loB, thenQ_nA, thenQ_xA, thenQ_rA, runK_nA, runK_xA, runK_rA, wrap_i64, wrap_u64, wrap_u32, wrap_u8, wrap_u16, callV_O, okIds, passObjs, passBody, backObjs, backBody, adopts, List.idxOf?, List.findIdx?, List.findIdx?.go, isNilP, mapLook, mapGet, keyGet, adopts, List.lookup, AV.atom, normA, lkE, fixObjs, fixBody, fixV, fixCell, hi', hi, hd, hfl, ea, hws]
  · intro _
    generalize runC ds m bs0 ((adds rows).take rows.length) = T at *
    simp [beqI, bneI, mm_min2, mm_max2, mm_min3, mm_max3, startE, lkE, lkX, lkE_rest, sx, substE, opVA, objs0, List.replicate, XA_seq, XA_region, XOA_go, goE_someA, opV, ev, putA, layAll, XOA_nil, XA_skip_seq, XA_skip_nil, XOA_gd, goG_tA, goG_uA, binV, bi_add, bi_sub, bi_mul, bi_quo, bi_rem, bi_eql, bi_neq, bi_lss, bi_leq, bi_gtr, bi_geq, bi_shl, bi_shr, bi_and, bi_or, bi_xor, unV, XA_ret_nil, XA_ret_cons, endFA_r, endFA_n, endTA_r, endTA_n, endRA_r, endRA_n, endEA_r, endEA_n, List.take, fltR, resultsA, resAs, resA, XA_block, XA_cond, pickX_t, pickX_f, pickX_b, XA_skip_blk, XA_skip_lp, XA_exit_seq, XA_exit_lp, XA_exit_blk, XA_exit_nil, load1, Ev.loadCells, objCells, bodyCells, setCells, AV.flat, AV.flat1, backR, backV, backCell, mapO, AV.cells, AV.atom, AV.tree, fillV, repeatL, treeCell, freezeAll, eqCells, callV_T, callV_F, passN, passV, passCell, srcCells, sliceBounds, hiB, loB, thenQ_nA, thenQ_xA, thenQ_rA, runK_nA, runK_xA, runK_rA, wrap_i64, wrap_u64, wrap_u32, wrap_u8, wrap_u16, callV_O, okIds, passObjs, passBody, backObjs, backBody, adopts, List.idxOf?, List.findIdx?, List.findIdx?.go, isNilP, mapLook, mapGet, keyGet, adopts, List.lookup, AV.atom, normA, lkE, fixObjs, fixBody, fixV, fixCell, bV, bM]
theorem given_bad (ds : List Dm) (m : Int) (rows : List Rw) (hC : okC ds) (g : goodC ds m = true) (hk : okL rows) (hn : rows.length ≤ 1000) (hg : (goF ds m [] (adds rows) 0).2.2 ≠ 0) : ∃ S H, cfT tabC 29 [.agg [.ro ds.length (flatD ds), .int .i64 m], rW rows] [] =
    some (.nilptr, [⟨0, .none⟩, bV 0 2 0 ds m S, bM 0 S] ++ H) := by
  have e1 := cvFC (cvFB (cvFS (sgood_ev ds m hC)))
  rw [g] at e1
  have en := cfC (cfB (cfS (new_cf ds m hC g)))
  have hl := adds_ok hk
  have hln := adds_len rows
  have hR := fun i (h : i ≤ rows.length) => run_RB ds m rb0 (adds rows) hl i (by omega)
  have hz : ∃ k, ∃ h : k < rows.length, (∀ j (hj : j < rows.length), j < k → errL ds m (runL ds m [] ((adds rows).take j)) false rows[j] = 0) ∧ errL ds m (runL ds m [] ((adds rows).take k)) false rows[k] ≠ 0 := by
    rcases goF_cases ds m (adds rows) [] 0 with ⟨k, hk, h1, h2, h3⟩ | ⟨h1, h2⟩
    · refine ⟨k, by omega, fun j hj hjk => ?_, ?_⟩
      · have := h1 j (by omega) hjk
        simpa [adds] using this
      · simpa [adds] using h2
    · rw [h2] at hg; exact absurd rfl hg
  obtain ⟨k, hkl, hz, hzk⟩ := hz
  have hdo := fun i (h : i < rows.length) => doC_E ds m false hC (hR i (by omega)).1 (hk _ (List.getElem_mem h)) (by have := (hR i (by omega)).2; simp at this; omega)
  have hsc : ∀ i (h : i < rows.length), runC ds m bs0 ((adds rows).take (i + 1)) = (doS ds m (runC ds m bs0 ((adds rows).take i)) false rows[i]).2 := by
    intro i h
    have := runC_succ ds m bs0 (adds rows) i (by omega)
    simpa [adds] using this
  have hd := fun i (h : i < rows.length) => dropW rows i h
  have hfl := flatW_len rows
  have hz0 : runC ds m bs0 [] = bs0 := rfl
  refine ⟨runC ds m bs0 ((adds rows).take (k + 1)), ?_⟩
  simp only [rW]
  generalize hfW : flatW rows = fl at *
  refine cfTA_E (mf := Mf.f29) rfl rfl (by kernel_rfl) ?_
  simp only [Mf.f29]
  simp only [rowC, chC, bV, bM] at en
  simp [beqI, bneI, mm_min2, mm_max2, mm_min3, mm_max3, startE, lkE, lkX, lkE_rest, sx, substE, opVA, objs0, List.replicate, XA_seq, XA_region, XOA_go, goE_someA, opV, ev, putA, layAll, XOA_nil, XA_skip_seq, XA_skip_nil, XOA_gd, goG_tA, goG_uA, binV, bi_add, bi_sub, bi_mul, bi_quo, bi_rem, bi_eql, bi_neq, bi_lss, bi_leq, bi_gtr, bi_geq, bi_shl, bi_shr, bi_and, bi_or, bi_xor, unV, XA_ret_nil, XA_ret_cons, endFA_r, endFA_n, endTA_r, endTA_n, endRA_r, endRA_n, endEA_r, endEA_n, List.take, fltR, resultsA, resAs, resA, XA_block, XA_cond, pickX_t, pickX_f, pickX_b, XA_skip_blk, XA_skip_lp, XA_exit_seq, XA_exit_lp, XA_exit_blk, XA_exit_nil, load1, Ev.loadCells, objCells, bodyCells, setCells, AV.flat, AV.flat1, backR, backV, backCell, mapO, AV.cells, AV.atom, AV.tree, fillV, repeatL, treeCell, freezeAll, eqCells, callV_T, callV_F, passN, passV, passCell, srcCells, sliceBounds, hiB, loB, thenQ_nA, thenQ_xA, thenQ_rA, runK_nA, runK_xA, runK_rA, wrap_i64, wrap_u64, wrap_u32, wrap_u8, wrap_u16, callV_O, okIds, passObjs, passBody, backObjs, backBody, adopts, List.idxOf?, List.findIdx?, List.findIdx?.go, isNilP, mapLook, mapGet, keyGet, adopts, List.lookup, callV_R, backBody, e1, en]
  refine XA_for (fun i => ⟨[(5, .ptr 1 0 0), (13, .ro rows.length fl), (14, .int .i64 rows.length), (15, .int .i64 i)], [⟨0, .none⟩, bV 0 2 0 ds m (runC ds m bs0 ((adds rows).take i)), bM 0 (runC ds m bs0 ((adds rows).take i)), ⟨0, .none⟩]⟩)
    (fun _ => True) k 0 (Nat.zero_le _) (by simp [AV.atom, normA, lkE, fixObjs, fixBody, fixV, fixCell, bV, bM, hz0]) trivial ?_ ?_
  · intro i _ hik _
    have hi : i < rows.length := by omega
    have hi' : (i : Int) < rows.length := by omega
    obtain ⟨Ha, ea⟩ := hdo i hi
    have hs := hsc i hi
    have hze := hz i hi hik
    have hd := hd i hi
    have hws := wrap_succ i rows.length hi (by omega)
    rw [hze, ← hs] at ea
    generalize runC ds m bs0 ((adds rows).take (i + 1)) = T' at *
    generalize runC ds m bs0 ((adds rows).take i) = T at *
    generalize rows[i] = R at *
    simp only [rowC, chC, bV, bM, List.cons_append, List.nil_append] at ea hd ⊢
    simp [beqI, bneI, mm_min2, mm_max2, mm_min3, mm_max3, startE, lkE, lkX, lkE_rest, sx, substE, opVA, objs0, List.replicate, XA_seq, XA_region, XOA_go, goE_someA, opV, ev, putA, layAll, XOA_nil, XA_skip_seq, XA_skip_nil, XOA_gd, goG_tA, goG_uA, binV, bi_add, bi_sub, bi_mul, bi_quo, bi_rem, bi_eql, bi_neq, bi_lss, bi_leq, bi_gtr, bi_geq, bi_shl, bi_shr, bi_and, bi_or, bi_xor, unV, XA_ret_nil, XA_ret_cons, endFA_r, endFA_n, endTA_r, endTA_n, endRA_r, endRA_n, endEA_r, endEA_n, List.take, fltR, resultsA, resAs, resA, XA_block, XA_cond, pickX_t, pickX_f, pickX_b, XA_skip_blk, XA_skip_lp, XA_exit_seq, XA_exit_lp, XA_exit_blk, XA_exit_nil, load1, Ev.loadCells, objCells, bodyCells, setCells, AV.flat, AV.flat1, backR, backV, backCell, mapO, AV.cells, AV.atom, AV.tree, fillV, repeatL, treeCell, freezeAll, eqCells, callV_T, callV_F, passN, passV, passCell, srcCells, sliceBounds, hiB, loB, thenQ_nA, thenQ_xA, thenQ_rA, runK_nA, runK_xA, runK_rA, wrap_i64, wrap_u64, wrap_u32, wrap_u8, wrap_u16, callV_O, okIds, passObjs, passBody, backObjs, backBody, adopts, List.idxOf?, List.findIdx?, List.findIdx?.go, isNilP, mapLook, mapGet, keyGet, adopts, List.lookup, AV.atom, normA, lkE, fixObjs, fixBody, fixV, fixCell, hi', hi, hd, hfl, ea, hws]
  · intro _
    have hi' : (k : Int) < rows.length := by omega
    obtain ⟨Ha, ea⟩ := hdo k hkl
    have hs := hsc k hkl
    have hd := hd k hkl
    rw [← hs] at ea
    generalize errL ds m (runL ds m [] ((adds rows).take k)) false rows[k] = er at *
    generalize runC ds m bs0 ((adds rows).take (k + 1)) = T' at *
    generalize runC ds m bs0 ((adds rows).take k) = T at *
    generalize rows[k] = R at *
    simp only [rowC, chC, bV, bM, List.cons_append, List.nil_append] at ea hd ⊢
    simp [beqI, bneI, mm_min2, mm_max2, mm_min3, mm_max3, startE, lkE, lkX, lkE_rest, sx, substE, opVA, objs0, List.replicate, XA_seq, XA_region, XOA_go, goE_someA, opV, ev, putA, layAll, XOA_nil, XA_skip_seq, XA_skip_nil, XOA_gd, goG_tA, goG_uA, binV, bi_add, bi_sub, bi_mul, bi_quo, bi_rem, bi_eql, bi_neq, bi_lss, bi_leq, bi_gtr, bi_geq, bi_shl, bi_shr, bi_and, bi_or, bi_xor, unV, XA_ret_nil, XA_ret_cons, endFA_r, endFA_n, endTA_r, endTA_n, endRA_r, endRA_n, endEA_r, endEA_n, List.take, fltR, resultsA, resAs, resA, XA_block, XA_cond, pickX_t, pickX_f, pickX_b, XA_skip_blk, XA_skip_lp, XA_exit_seq, XA_exit_lp, XA_exit_blk, XA_exit_nil, load1, Ev.loadCells, objCells, bodyCells, setCells, AV.flat, AV.flat1, backR, backV, backCell, mapO, AV.cells, AV.atom, AV.tree, fillV, repeatL, treeCell, freezeAll, eqCells, callV_T, callV_F, passN, passV, passCell, srcCells, sliceBounds, hiB, loB, thenQ_nA, thenQ_xA, thenQ_rA, runK_nA, runK_xA, runK_rA, wrap_i64, wrap_u64, wrap_u32, wrap_u8, wrap_u16, callV_O, okIds, passObjs, passBody, backObjs, backBody, adopts, List.idxOf?, List.findIdx?, List.findIdx?.go, isNilP, mapLook, mapGet, keyGet, adopts, List.lookup, AV.atom, normA, lkE, fixObjs, fixBody, fixV, fixCell, hi', hkl, hd, hfl, ea, hzk, bV, bM]
end Go.Proofs.Ytpohmfihpnineaa
