/- Whatever changes are done and undone, of any catalog: what is told each time, which rows there are, how often, their mass. -/
import Derived.Test.YtmnafjgkhhdidaaBaT
set_option linter.unusedSimpArgs false
set_option linter.unusedVariables false
set_option maxHeartbeats 16000000
set_option maxRecDepth 100000
namespace Go.Proofs.Ytmnafjgkhhdidaa
open Go.Ev
def effL : List Ch → List Bool → List Ch
  | [], _ => []
  | c :: l, [] => c :: effL l []
  | c :: l, b :: u => (if b = true then (!c.1, c.2) else c) :: effL l u
theorem effL_len : ∀ (l : List Ch) (u : List Bool), (effL l u).length = l.length
  | [], _ => rfl
  | _ :: l, [] => by simp [effL, effL_len l []]
  | _ :: l, _ :: u => by simp [effL, effL_len l u]
theorem effL_get : ∀ (l : List Ch) (u : List Bool) (i : Nat) (h : i < l.length), (effL l u)[i]'(by rw [effL_len]; exact h) = if u[i]?.getD false = true then (!l[i].1, l[i].2) else l[i]
  | c :: l, [], 0, h => by simp [effL]
  | c :: l, [], i + 1, h => by simpa [effL] using effL_get l [] i (by simpa using h)
  | c :: l, b :: u, 0, h => by simp [effL]
  | c :: l, b :: u, i + 1, h => by simpa [effL] using effL_get l u i (by simpa using h)
theorem effL_ok {l : List Ch} (h : okH l) : ∀ u, okH (effL l u) := fun u c hc => by
  obtain ⟨i, hi, rfl⟩ := List.mem_iff_getElem.1 hc
  rw [effL_len] at hi
  rw [effL_get l u i hi]
  have := h _ (List.getElem_mem hi)
  split <;> exact this
def wl (ds : List Dm) (m : Int) (l : List Ch) (i : Nat) : AV := if i = 0 then .nilsl else rW (seqW ds m l i)
theorem wl_pass (ds : List Dm) (m : Int) (l : List Ch) (i : Nat) (H : List AObj) (objs fzs : List Nat) : passCell H objs fzs (wl ds m l i) = some (rW (seqW ds m l i)) := by
  unfold wl
  split
  · rename_i h; subst h; rfl
  · rfl
theorem wl_atom (ds : List Dm) (m : Int) (l : List Ch) (i : Nat) : (wl ds m l i).atom = true := by unfold wl; split <;> rfl
theorem plays_ev (ds : List Dm) (m : Int) (l : List Ch) (u : List Bool) (hC : okC ds) (hl : okH l) (hn : l.length ≤ 60) (hu : u.length ≤ 9223372036854775807) : cvF tabB 10 [.agg [.ro ds.length (flatD ds), .int .i64 m], rH l, .ro u.length (u.map .bool)] = some (.bool true) := by
  have eg := bgood_ev ds m hC
  by_cases g : goodC ds m = true
  · rw [g] at eg
    have en := cfB (cfS (new_cf ds m hC g))
    have hW := fun i (h : i ≤ l.length) => seq_W ds m (effL l u) (effL_ok hl u) i (by rw [effL_len]; exact h)
    have hget := fun i (h : i < l.length) => effL_get l u i h
    have hsc := fun i (h : i < l.length) => seqC_succ ds m (effL l u) i (by rw [effL_len]; exact h)
    have hsw := fun i (h : i < l.length) => seqW_succ ds m (effL l u) i (by rw [effL_len]; exact h)
    have hd7 := fun i (h : i < l.length) => dropH l i h
    have hfl := flatH_len l
    have hz : seqC ds m (effL l u) 0 = bs0 := rfl
    have hp := fun i => wl_pass ds m (effL l u) i
    have hp1 : ∀ i, wl ds m (effL l u) (i + 1) = rW (seqW ds m (effL l u) (i + 1)) := fun i => by unfold wl; rw [if_neg (by omega)]
    have hp0 : wl ds m (effL l u) 0 = .nilsl := rfl
    have hul := fun i => List.getElem?_map (f := AV.bool) (l := u) (i := i)
    simp only [rH]
    generalize hfH : flatH l = fl at *
    refine cvFA_R (mf := Mf.f10) rfl rfl (by kernel_rfl) ?_
    simp only [Mf.f10]
    simp only [rowC, chC, bV, bM] at en
    simp [beqI, bneI, mm_min2, mm_max2, mm_min3, mm_max3, startE, lkE, lkX, lkE_rest, sx, substE, opVA, objs0, List.replicate, XA_seq, XA_region, XOA_go, goE_someA, opV, ev, putA, layAll, XOA_nil, XA_skip_seq, XA_skip_nil, XOA_gd, goG_tA, goG_uA, binV, bi_add, bi_sub, bi_mul, bi_quo, bi_rem, bi_eql, bi_neq, bi_lss, bi_leq, bi_gtr, bi_geq, bi_shl, bi_shr, bi_and, bi_or, bi_xor, unV, XA_ret_nil, XA_ret_cons, endFA_r, endFA_n, endTA_r, endTA_n, endRA_r, endRA_n, endEA_r, endEA_n, List.take, fltR, resultsA, resAs, resA, XA_block, XA_cond, pickX_t, pickX_f, pickX_b, XA_skip_blk, XA_skip_lp, XA_exit_seq, XA_exit_lp, XA_exit_blk, XA_exit_nil, load1, Ev.loadCells, objCells, bodyCells, setCells, AV.flat, AV.flat1, backR, backV, backCell, mapO, AV.cells, AV.atom, AV.tree, fillV, repeatL, treeCell, freezeAll, eqCells, callV_T, callV_F, passN, passV, passCell, srcCells, sliceBounds, hiB, loB, thenQ_nA, thenQ_xA, thenQ_rA, runK_nA, runK_xA, runK_rA, wrap_i64, wrap_u64, wrap_u32, wrap_u8, wrap_u16, callV_O, okIds, passObjs, passBody, backObjs, backBody, adopts, List.idxOf?, List.findIdx?, List.findIdx?.go, isNilP, mapLook, mapGet, keyGet, adopts, List.lookup, callV_R, backBody, eg, en]
    refine XA_for (fun i => ⟨[(1, .ro l.length fl), (2, .ro u.length (u.map .bool)), (7, .ptr 1 0 0), (8, .ptr 3 0 0), (9, .int .i64 i)], [⟨0, .none⟩, bV 0 2 0 ds m (seqC ds m (effL l u) i), bM 0 (seqC ds m (effL l u) i), ⟨0, .var [.ro ds.length (flatD ds), .int .i64 m, wl ds m (effL l u) i]⟩]⟩)
      (fun _ => True) l.length 0 (Nat.zero_le _) (by simp [AV.atom, normA, lkE, fixObjs, fixBody, fixV, fixCell, bV, bM, hz, hp0]) trivial ?_ ?_
    · intro i _ hi _
      have hi' : (i : Int) < l.length := by omega
      obtain ⟨b1, b2, b3, b4⟩ := hW i (by omega)
      obtain ⟨c1, c2, c3, c4⟩ := hW (i + 1) (by omega)
      have hr := hl _ (List.getElem_mem hi)
      have hge := hget i hi
      have hsc := hsc i hi
      have hsw := hsw i hi
      rw [hge] at hsc hsw
      have hd := hd7 i hi
      have hws := wrap_succ i l.length hi (by omega)
      rw [hp1 i]
      have hW2 : (wl ds m (effL l u) i = .nilsl ∧ seqW ds m (effL l u) i = []) ∨ wl ds m (effL l u) i = rW (seqW ds m (effL l u) i) := by
        unfold wl
        by_cases h0 : i = 0
        · subst h0; exact .inl ⟨rfl, rfl⟩
        · rw [if_neg h0]; exact .inr rfl
      generalize wl ds m (effL l u) i = W at *
      generalize hdR : l[i] = dR at *
      obtain ⟨db, R⟩ := dR
      obtain ⟨Ht, et⟩ := told_cf ds m (seqC ds m (effL l u) (i + 1)) (seqW ds m (effL l u) (i + 1)) R c1 c3 c4 (by omega)
      by_cases cu : u[i]?.getD false = true
      · have hiu : i < u.length := by
          rcases Nat.lt_or_ge i u.length with h | h
          · exact h
          · rw [List.getElem?_eq_none h] at cu; simp at cu
        have hiu' : (i : Int) < u.length := by omega
        have hui : u[i] = true := by rw [List.getElem?_eq_getElem hiu] at cu; simpa using cu
        have hdu : (u.map AV.bool).drop i = AV.bool true :: (u.map AV.bool).drop (i + 1) := by
          rw [List.drop_eq_getElem_cons (by simpa using hiu)]
          simp [hui]
        rw [if_pos cu] at hsc hsw
        simp only at hsc hsw
        obtain ⟨Hu, eu⟩ := undo_E ds m db hC b1 hr (by omega)
        rw [← hsc] at eu
        obtain ⟨X, Hx, ex, hX⟩ := rdo_R ds m (seqW ds m (effL l u) i) (!db) R hC b3 hr (by omega)
        rw [← hsw] at hX
        generalize seqC ds m (effL l u) (i + 1) = T' at *
        generalize seqC ds m (effL l u) i = T at *
        generalize errL ds m (seqW ds m (effL l u) i) (!db) R = E at *
        generalize seqW ds m (effL l u) (i + 1) = K' at *
        generalize seqW ds m (effL l u) i = K at *
        rcases hW2 with ⟨rfl, rfl⟩ | rfl
        · rcases hX with rfl | ⟨n1, cs1, b1, rfl, rfl, hX1, hX2⟩
          · simp only [rowC, chC, bV, bM, wV, rW, List.cons_append, List.nil_append, flatW, List.flatMap_nil, List.length_nil] at eu ex et hd ⊢
            simp [beqI, bneI, mm_min2, mm_max2, mm_min3, mm_max3, startE, lkE, lkX, lkE_rest, sx, substE, opVA, objs0, List.replicate, XA_seq, XA_region, XOA_go, goE_someA, opV, ev, putA, layAll, XOA_nil, XA_skip_seq, XA_skip_nil, XOA_gd, goG_tA, goG_uA, binV, bi_add, bi_sub, bi_mul, bi_quo, bi_rem, bi_eql, bi_neq, bi_lss, bi_leq, bi_gtr, bi_geq, bi_shl, bi_shr, bi_and, bi_or, bi_xor, unV, XA_ret_nil, XA_ret_cons, endFA_r, endFA_n, endTA_r, endTA_n, endRA_r, endRA_n, endEA_r, endEA_n, List.take, fltR, resultsA, resAs, resA, XA_block, XA_cond, pickX_t, pickX_f, pickX_b, XA_skip_blk, XA_skip_lp, XA_exit_seq, XA_exit_lp, XA_exit_blk, XA_exit_nil, load1, Ev.loadCells, objCells, bodyCells, setCells, AV.flat, AV.flat1, backR, backV, backCell, mapO, AV.cells, AV.atom, AV.tree, fillV, repeatL, treeCell, freezeAll, eqCells, callV_T, callV_F, passN, passV, passCell, srcCells, sliceBounds, hiB, loB, thenQ_nA, thenQ_xA, thenQ_rA, runK_nA, runK_xA, runK_rA, wrap_i64, wrap_u64, wrap_u32, wrap_u8, wrap_u16, callV_O, okIds, passObjs, passBody, backObjs, backBody, adopts, List.idxOf?, List.findIdx?, List.findIdx?.go, isNilP, mapLook, mapGet, keyGet, adopts, List.lookup, AV.atom, normA, lkE, fixObjs, fixBody, fixV, fixCell, hi', hi, hd, hfl, hiu', hiu, hdu, eu, ex, et, hws]
          · have htk : cs1.take (n1 * 6) = cs1 := List.take_of_length_le (by omega)
            simp only [wV, hX1] at et ⊢
            simp only [rowC, chC, bV, bM, wV, rW, List.cons_append, List.nil_append, flatW, List.flatMap_nil, List.length_nil] at eu ex et hd ⊢
            simp [beqI, bneI, mm_min2, mm_max2, mm_min3, mm_max3, startE, lkE, lkX, lkE_rest, sx, substE, opVA, objs0, List.replicate, XA_seq, XA_region, XOA_go, goE_someA, opV, ev, putA, layAll, XOA_nil, XA_skip_seq, XA_skip_nil, XOA_gd, goG_tA, goG_uA, binV, bi_add, bi_sub, bi_mul, bi_quo, bi_rem, bi_eql, bi_neq, bi_lss, bi_leq, bi_gtr, bi_geq, bi_shl, bi_shr, bi_and, bi_or, bi_xor, unV, XA_ret_nil, XA_ret_cons, endFA_r, endFA_n, endTA_r, endTA_n, endRA_r, endRA_n, endEA_r, endEA_n, List.take, fltR, resultsA, resAs, resA, XA_block, XA_cond, pickX_t, pickX_f, pickX_b, XA_skip_blk, XA_skip_lp, XA_exit_seq, XA_exit_lp, XA_exit_blk, XA_exit_nil, load1, Ev.loadCells, objCells, bodyCells, setCells, AV.flat, AV.flat1, backR, backV, backCell, mapO, AV.cells, AV.atom, AV.tree, fillV, repeatL, treeCell, freezeAll, eqCells, callV_T, callV_F, passN, passV, passCell, srcCells, sliceBounds, hiB, loB, thenQ_nA, thenQ_xA, thenQ_rA, runK_nA, runK_xA, runK_rA, wrap_i64, wrap_u64, wrap_u32, wrap_u8, wrap_u16, callV_O, okIds, passObjs, passBody, backObjs, backBody, adopts, List.idxOf?, List.findIdx?, List.findIdx?.go, isNilP, mapLook, mapGet, keyGet, adopts, List.lookup, AV.atom, normA, lkE, fixObjs, fixBody, fixV, fixCell, hi', hi, hd, hfl, hiu', hiu, hdu, eu, ex, et, hX2, htk, hws]
        · rcases hX with rfl | ⟨n1, cs1, b1, rfl, rfl, hX1, hX2⟩
          · simp only [rowC, chC, bV, bM, wV, rW, List.cons_append, List.nil_append] at eu ex et hd ⊢
            simp [beqI, bneI, mm_min2, mm_max2, mm_min3, mm_max3, startE, lkE, lkX, lkE_rest, sx, substE, opVA, objs0, List.replicate, XA_seq, XA_region, XOA_go, goE_someA, opV, ev, putA, layAll, XOA_nil, XA_skip_seq, XA_skip_nil, XOA_gd, goG_tA, goG_uA, binV, bi_add, bi_sub, bi_mul, bi_quo, bi_rem, bi_eql, bi_neq, bi_lss, bi_leq, bi_gtr, bi_geq, bi_shl, bi_shr, bi_and, bi_or, bi_xor, unV, XA_ret_nil, XA_ret_cons, endFA_r, endFA_n, endTA_r, endTA_n, endRA_r, endRA_n, endEA_r, endEA_n, List.take, fltR, resultsA, resAs, resA, XA_block, XA_cond, pickX_t, pickX_f, pickX_b, XA_skip_blk, XA_skip_lp, XA_exit_seq, XA_exit_lp, XA_exit_blk, XA_exit_nil, load1, Ev.loadCells, objCells, bodyCells, setCells, AV.flat, AV.flat1, backR, backV, backCell, mapO, AV.cells, AV.atom, AV.tree, fillV, repeatL, treeCell, freezeAll, eqCells, callV_T, callV_F, passN, passV, passCell, srcCells, sliceBounds, hiB, loB, thenQ_nA, thenQ_xA, thenQ_rA, runK_nA, runK_xA, runK_rA, wrap_i64, wrap_u64, wrap_u32, wrap_u8, wrap_u16, callV_O, okIds, passObjs, passBody, backObjs, backBody, adopts, List.idxOf?, List.findIdx?, List.findIdx?.go, isNilP, mapLook, mapGet, keyGet, adopts, List.lookup, AV.atom, normA, lkE, fixObjs, fixBody, fixV, fixCell, hi', hi, hd, hfl, hiu', hiu, hdu, eu, ex, et, hws]
          · have htk : cs1.take (n1 * 6) = cs1 := List.take_of_length_le (by omega)
            simp only [wV, hX1] at et ⊢
            simp only [rowC, chC, bV, bM, wV, rW, List.cons_append, List.nil_append] at eu ex et hd ⊢
            simp [beqI, bneI, mm_min2, mm_max2, mm_min3, mm_max3, startE, lkE, lkX, lkE_rest, sx, substE, opVA, objs0, List.replicate, XA_seq, XA_region, XOA_go, goE_someA, opV, ev, putA, layAll, XOA_nil, XA_skip_seq, XA_skip_nil, XOA_gd, goG_tA, goG_uA, binV, bi_add, bi_sub, bi_mul, bi_quo, bi_rem, bi_eql, bi_neq, bi_lss, bi_leq, bi_gtr, bi_geq, bi_shl, bi_shr, bi_and, bi_or, bi_xor, unV, XA_ret_nil, XA_ret_cons, endFA_r, endFA_n, endTA_r, endTA_n, endRA_r, endRA_n, endEA_r, endEA_n, List.take, fltR, resultsA, resAs, resA, XA_block, XA_cond, pickX_t, pickX_f, pickX_b, XA_skip_blk, XA_skip_lp, XA_exit_seq, XA_exit_lp, XA_exit_blk, XA_exit_nil, load1, Ev.loadCells, objCells, bodyCells, setCells, AV.flat, AV.flat1, backR, backV, backCell, mapO, AV.cells, AV.atom, AV.tree, fillV, repeatL, treeCell, freezeAll, eqCells, callV_T, callV_F, passN, passV, passCell, srcCells, sliceBounds, hiB, loB, thenQ_nA, thenQ_xA, thenQ_rA, runK_nA, runK_xA, runK_rA, wrap_i64, wrap_u64, wrap_u32, wrap_u8, wrap_u16, callV_O, okIds, passObjs, passBody, backObjs, backBody, adopts, List.idxOf?, List.findIdx?, List.findIdx?.go, isNilP, mapLook, mapGet, keyGet, adopts, List.lookup, AV.atom, normA, lkE, fixObjs, fixBody, fixV, fixCell, hi', hi, hd, hfl, hiu', hiu, hdu, eu, ex, et, hX2, htk, hws]
      · rw [if_neg cu] at hsc hsw
        simp only at hsc hsw
        obtain ⟨Hu, eu⟩ := do_E ds m db hC b1 hr (by omega)
        rw [← hsc] at eu
        obtain ⟨X, Hx, ex, hX⟩ := rdo_R ds m (seqW ds m (effL l u) i) db R hC b3 hr (by omega)
        rw [← hsw] at hX
        generalize seqC ds m (effL l u) (i + 1) = T' at *
        generalize seqC ds m (effL l u) i = T at *
        generalize errL ds m (seqW ds m (effL l u) i) db R = E at *
        generalize seqW ds m (effL l u) (i + 1) = K' at *
        generalize seqW ds m (effL l u) i = K at *
        by_cases ciu : i < u.length
        · have hiu' : (i : Int) < u.length := by omega
          have hui : u[i] = false := by rw [List.getElem?_eq_getElem ciu] at cu; simpa using cu
          have hdu : (u.map AV.bool).drop i = AV.bool false :: (u.map AV.bool).drop (i + 1) := by
            rw [List.drop_eq_getElem_cons (by simpa using ciu)]
            simp [hui]
          rcases hW2 with ⟨rfl, rfl⟩ | rfl
          · rcases hX with rfl | ⟨n1, cs1, b1, rfl, rfl, hX1, hX2⟩
            · simp only [rowC, chC, bV, bM, wV, rW, List.cons_append, List.nil_append, flatW, List.flatMap_nil, List.length_nil] at eu ex et hd ⊢
              simp [beqI, bneI, mm_min2, mm_max2, mm_min3, mm_max3, startE, lkE, lkX, lkE_rest, sx, substE, opVA, objs0, List.replicate, XA_seq, XA_region, XOA_go, goE_someA, opV, ev, putA, layAll, XOA_nil, XA_skip_seq, XA_skip_nil, XOA_gd, goG_tA, goG_uA, binV, bi_add, bi_sub, bi_mul, bi_quo, bi_rem, bi_eql, bi_neq, bi_lss, bi_leq, bi_gtr, bi_geq, bi_shl, bi_shr, bi_and, bi_or, bi_xor, unV, XA_ret_nil, XA_ret_cons, endFA_r, endFA_n, endTA_r, endTA_n, endRA_r, endRA_n, endEA_r, endEA_n, List.take, fltR, resultsA, resAs, resA, XA_block, XA_cond, pickX_t, pickX_f, pickX_b, XA_skip_blk, XA_skip_lp, XA_exit_seq, XA_exit_lp, XA_exit_blk, XA_exit_nil, load1, Ev.loadCells, objCells, bodyCells, setCells, AV.flat, AV.flat1, backR, backV, backCell, mapO, AV.cells, AV.atom, AV.tree, fillV, repeatL, treeCell, freezeAll, eqCells, callV_T, callV_F, passN, passV, passCell, srcCells, sliceBounds, hiB, loB, thenQ_nA, thenQ_xA, thenQ_rA, runK_nA, runK_xA, runK_rA, wrap_i64, wrap_u64, wrap_u32, wrap_u8, wrap_u16, callV_O, okIds, passObjs, passBody, backObjs, backBody, adopts, List.idxOf?, List.findIdx?, List.findIdx?.go, isNilP, mapLook, mapGet, keyGet, adopts, List.lookup, AV.atom, normA, lkE, fixObjs, fixBody, fixV, fixCell, hi', hi, hd, hfl, hiu', ciu, hdu, eu, ex, et, hws]
            · have htk : cs1.take (n1 * 6) = cs1 := List.take_of_length_le (by omega)
              simp only [wV, hX1] at et ⊢
              simp only [rowC, chC, bV, bM, wV, rW, List.cons_append, List.nil_append, flatW, List.flatMap_nil, List.length_nil] at eu ex et hd ⊢
              simp [beqI, bneI, mm_min2, mm_max2, mm_min3, mm_max3, startE, lkE, lkX, lkE_rest, sx, substE, opVA, objs0, List.replicate, XA_seq, XA_region, XOA_go, goE_someA, opV, ev, putA, layAll, XOA_nil, XA_skip_seq, XA_skip_nil, XOA_gd, goG_tA, goG_uA, binV, bi_add, bi_sub, bi_mul, bi_quo, bi_rem, bi_eql, bi_neq, bi_lss, bi_leq, bi_gtr, bi_geq, bi_shl, bi_shr, bi_and, bi_or, bi_xor, unV, XA_ret_nil, XA_ret_cons, endFA_r, endFA_n, endTA_r, endTA_n, endRA_r, endRA_n, endEA_r, endEA_n, List.take, fltR, resultsA, resAs, resA, XA_block, XA_cond, pickX_t, pickX_f, pickX_b, XA_skip_blk, XA_skip_lp, XA_exit_seq, XA_exit_lp, XA_exit_blk, XA_exit_nil, load1, Ev.loadCells, objCells, bodyCells, setCells, AV.flat, AV.flat1, backR, backV, backCell, mapO, AV.cells, AV.atom, AV.tree, fillV, repeatL, treeCell, freezeAll, eqCells, callV_T, callV_F, passN, passV, passCell, srcCells, sliceBounds, hiB, loB, thenQ_nA, thenQ_xA, thenQ_rA, runK_nA, runK_xA, runK_rA, wrap_i64, wrap_u64, wrap_u32, wrap_u8, wrap_u16, callV_O, okIds, passObjs, passBody, backObjs, backBody, adopts, List.idxOf?, List.findIdx?, List.findIdx?.go, isNilP, mapLook, mapGet, keyGet, adopts, List.lookup, AV.atom, normA, lkE, fixObjs, fixBody, fixV, fixCell, hi', hi, hd, hfl, hiu', ciu, hdu, eu, ex, et, hX2, htk, hws]
          · rcases hX with rfl | ⟨n1, cs1, b1, rfl, rfl, hX1, hX2⟩
            · simp only [rowC, chC, bV, bM, wV, rW, List.cons_append, List.nil_append] at eu ex et hd ⊢
              simp [beqI, bneI, mm_min2, mm_max2, mm_min3, mm_max3, startE, lkE, lkX, lkE_rest, sx, substE, opVA, objs0, List.replicate, XA_seq, XA_region, XOA_go, goE_someA, opV, ev, putA, layAll, XOA_nil, XA_skip_seq, XA_skip_nil, XOA_gd, goG_tA, goG_uA, binV, bi_add, bi_sub, bi_mul, bi_quo, bi_rem, bi_eql, bi_neq, bi_lss, bi_leq, bi_gtr, bi_geq, bi_shl, bi_shr, bi_and, bi_or, bi_xor, unV, XA_ret_nil, XA_ret_cons, endFA_r, endFA_n, endTA_r, endTA_n, endRA_r, endRA_n, endEA_r, endEA_n, List.take, fltR, resultsA, resAs, resA, XA_block, XA_cond, pickX_t, pickX_f, pickX_b, XA_skip_blk, XA_skip_lp, XA_exit_seq, XA_exit_lp, XA_exit_blk, XA_exit_nil, load1, Ev.loadCells, objCells, bodyCells, setCells, AV.flat, AV.flat1, backR, backV, backCell, mapO, AV.cells, AV.atom, AV.tree, fillV, repeatL, treeCell, freezeAll, eqCells, callV_T, callV_F, passN, passV, passCell, srcCells, sliceBounds, hiB, loB, thenQ_nA, thenQ_xA, thenQ_rA, runK_nA, runK_xA, runK_rA, wrap_i64, wrap_u64, wrap_u32, wrap_u8, wrap_u16, callV_O, okIds, passObjs, passBody, backObjs, backBody, adopts, List.idxOf?, List.findIdx?, List.findIdx?.go, isNilP, mapLook, mapGet, keyGet, adopts, List.lookup, AV.atom, normA, lkE, fixObjs, fixBody, fixV, fixCell, hi', hi, hd, hfl, hiu', ciu, hdu, eu, ex, et, hws]
            · have htk : cs1.take (n1 * 6) = cs1 := List.take_of_length_le (by omega)
              simp only [wV, hX1] at et ⊢
              simp only [rowC, chC, bV, bM, wV, rW, List.cons_append, List.nil_append] at eu ex et hd ⊢
              simp [beqI, bneI, mm_min2, mm_max2, mm_min3, mm_max3, startE, lkE, lkX, lkE_rest, sx, substE, opVA, objs0, List.replicate, XA_seq, XA_region, XOA_go, goE_someA, opV, ev, putA, layAll, XOA_nil, XA_skip_seq, XA_skip_nil, XOA_gd, goG_tA, goG_uA, binV, bi_add, bi_sub, bi_mul, bi_quo, bi_rem, bi_eql, bi_neq, bi_lss, bi_leq, bi_gtr, bi_geq, bi_shl, bi_shr, bi_and, bi_or, bi_xor, unV, XA_ret_nil, XA_ret_cons, endFA_r, endFA_n, endTA_r, endTA_n, endRA_r, endRA_n, endEA_r, endEA_n, List.take, fltR, resultsA, resAs, resA, XA_block, XA_cond, pickX_t, pickX_f, pickX_b, XA_skip_blk, XA_skip_lp, XA_exit_seq, XA_exit_lp, XA_exit_blk, XA_exit_nil, load1, Ev.loadCells, objCells, bodyCells, setCells, AV.flat, AV.flat1, backR, backV, backCell, mapO, AV.cells, AV.atom, AV.tree, fillV, repeatL, treeCell, freezeAll, eqCells, callV_T, callV_F, passN, passV, passCell, srcCells, sliceBounds, hiB, loB, thenQ_nA, thenQ_xA, thenQ_rA, runK_nA, runK_xA, runK_rA, wrap_i64, wrap_u64, wrap_u32, wrap_u8, wrap_u16, callV_O, okIds, passObjs, passBody, backObjs, backBody, adopts, List.idxOf?, List.findIdx?, List.findIdx?.go, isNilP, mapLook, mapGet, keyGet, adopts, List.lookup, AV.atom, normA, lkE, fixObjs, fixBody, fixV, fixCell, hi', hi, hd, hfl, hiu', ciu, hdu, eu, ex, et, hX2, htk, hws]
        · have hiu' : ¬ (i : Int) < u.length := by omega
          rcases hW2 with ⟨rfl, rfl⟩ | rfl
          · rcases hX with rfl | ⟨n1, cs1, b1, rfl, rfl, hX1, hX2⟩
            · simp only [rowC, chC, bV, bM, wV, rW, List.cons_append, List.nil_append, flatW, List.flatMap_nil, List.length_nil] at eu ex et hd ⊢
              simp [beqI, bneI, mm_min2, mm_max2, mm_min3, mm_max3, startE, lkE, lkX, lkE_rest, sx, substE, opVA, objs0, List.replicate, XA_seq, XA_region, XOA_go, goE_someA, opV, ev, putA, layAll, XOA_nil, XA_skip_seq, XA_skip_nil, XOA_gd, goG_tA, goG_uA, binV, bi_add, bi_sub, bi_mul, bi_quo, bi_rem, bi_eql, bi_neq, bi_lss, bi_leq, bi_gtr, bi_geq, bi_shl, bi_shr, bi_and, bi_or, bi_xor, unV, XA_ret_nil, XA_ret_cons, endFA_r, endFA_n, endTA_r, endTA_n, endRA_r, endRA_n, endEA_r, endEA_n, List.take, fltR, resultsA, resAs, resA, XA_block, XA_cond, pickX_t, pickX_f, pickX_b, XA_skip_blk, XA_skip_lp, XA_exit_seq, XA_exit_lp, XA_exit_blk, XA_exit_nil, load1, Ev.loadCells, objCells, bodyCells, setCells, AV.flat, AV.flat1, backR, backV, backCell, mapO, AV.cells, AV.atom, AV.tree, fillV, repeatL, treeCell, freezeAll, eqCells, callV_T, callV_F, passN, passV, passCell, srcCells, sliceBounds, hiB, loB, thenQ_nA, thenQ_xA, thenQ_rA, runK_nA, runK_xA, runK_rA, wrap_i64, wrap_u64, wrap_u32, wrap_u8, wrap_u16, callV_O, okIds, passObjs, passBody, backObjs, backBody, adopts, List.idxOf?, List.findIdx?, List.findIdx?.go, isNilP, mapLook, mapGet, keyGet, adopts, List.lookup, AV.atom, normA, lkE, fixObjs, fixBody, fixV, fixCell, hi', hi, hd, hfl, hiu', ciu, eu, ex, et, hws]
            · have htk : cs1.take (n1 * 6) = cs1 := List.take_of_length_le (by omega)
              simp only [wV, hX1] at et ⊢
              simp only [rowC, chC, bV, bM, wV, rW, List.cons_append, List.nil_append, flatW, List.flatMap_nil, List.length_nil] at eu ex et hd ⊢
              simp [beqI, bneI, mm_min2, mm_max2, mm_min3, mm_max3, startE, lkE, lkX, lkE_rest, sx, substE, opVA, objs0, List.replicate, XA_seq, XA_region, XOA_go, goE_someA, opV, ev, putA, layAll, XOA_nil, XA_skip_seq, XA_skip_nil, XOA_gd, goG_tA, goG_uA, binV, bi_add, bi_sub, bi_mul, bi_quo, bi_rem, bi_eql, bi_neq, bi_lss, bi_leq, bi_gtr, bi_geq, bi_shl, bi_shr, bi_and, bi_or, bi_xor, unV, XA_ret_nil, XA_ret_cons, endFA_r, endFA_n, endTA_r, endTA_n, endRA_r, endRA_n, endEA_r, endEA_n, List.take, fltR, resultsA, resAs, resA, XA_block, XA_cond, pickX_t, pickX_f, pickX_b, XA_skip_blk, XA_skip_lp, XA_exit_seq, XA_exit_lp, XA_exit_blk, XA_exit_nil, load1, Ev.loadCells, objCells, bodyCells, setCells, AV.flat, AV.flat1, backR, backV, backCell, mapO, AV.cells, AV.atom, AV.tree, fillV, repeatL, treeCell, freezeAll, eqCells, callV_T, callV_F, passN, passV, passCell, srcCells, sliceBounds, hiB, loB, thenQ_nA, thenQ_xA, thenQ_rA, runK_nA, runK_xA, runK_rA, wrap_i64, wrap_u64, wrap_u32, wrap_u8, wrap_u16, callV_O, okIds, passObjs, passBody, backObjs, backBody, adopts, List.idxOf?, List.findIdx?, List.findIdx?.go, isNilP, mapLook, mapGet, keyGet, adopts, List.lookup, AV.atom, normA, lkE, fixObjs, fixBody, fixV, fixCell, hi', hi, hd, hfl, hiu', ciu, eu, ex, et, hX2, htk, hws]
          · rcases hX with rfl | ⟨n1, cs1, b1, rfl, rfl, hX1, hX2⟩
            · simp only [rowC, chC, bV, bM, wV, rW, List.cons_append, List.nil_append] at eu ex et hd ⊢
              simp [beqI, bneI, mm_min2, mm_max2, mm_min3, mm_max3, startE, lkE, lkX, lkE_rest, sx, substE, opVA, objs0, List.replicate, XA_seq, XA_region, XOA_go, goE_someA, opV, ev, putA, layAll, XOA_nil, XA_skip_seq, XA_skip_nil, XOA_gd, goG_tA, goG_uA, binV, bi_add, bi_sub, bi_mul, bi_quo, bi_rem, bi_eql, bi_neq, bi_lss, bi_leq, bi_gtr, bi_geq, bi_shl, bi_shr, bi_and, bi_or, bi_xor, unV, XA_ret_nil, XA_ret_cons, endFA_r, endFA_n, endTA_r, endTA_n, endRA_r, endRA_n, endEA_r, endEA_n, List.take, fltR, resultsA, resAs, resA, XA_block, XA_cond, pickX_t, pickX_f, pickX_b, XA_skip_blk, XA_skip_lp, XA_exit_seq, XA_exit_lp, XA_exit_blk, XA_exit_nil, load1, Ev.loadCells, objCells, bodyCells, setCells, AV.flat, AV.flat1, backR, backV, backCell, mapO, AV.cells, AV.atom, AV.tree, fillV, repeatL, treeCell, freezeAll, eqCells, callV_T, callV_F, passN, passV, passCell, srcCells, sliceBounds, hiB, loB, thenQ_nA, thenQ_xA, thenQ_rA, runK_nA, runK_xA, runK_rA, wrap_i64, wrap_u64, wrap_u32, wrap_u8, wrap_u16, callV_O, okIds, passObjs, passBody, backObjs, backBody, adopts, List.idxOf?, List.findIdx?, List.findIdx?.go, isNilP, mapLook, mapGet, keyGet, adopts, List.lookup, AV.atom, normA, lkE, fixObjs, fixBody, fixV, fixCell, hi', hi, hd, hfl, hiu', ciu, eu, ex, et, hws]
            · have htk : cs1.take (n1 * 6) = cs1 := List.take_of_length_le (by omega)
              simp only [wV, hX1] at et ⊢
              simp only [rowC, chC, bV, bM, wV, rW, List.cons_append, List.nil_append] at eu ex et hd ⊢
              simp [beqI, bneI, mm_min2, mm_max2, mm_min3, mm_max3, startE, lkE, lkX, lkE_rest, sx, substE, opVA, objs0, List.replicate, XA_seq, XA_region, XOA_go, goE_someA, opV, ev, putA, layAll, XOA_nil, XA_skip_seq, XA_skip_nil, XOA_gd, goG_tA, goG_uA, binV, bi_add, bi_sub, bi_mul, bi_quo, bi_rem, bi_eql, bi_neq, bi_lss, bi_leq, bi_gtr, bi_geq, bi_shl, bi_shr, bi_and, bi_or, bi_xor, unV, XA_ret_nil, XA_ret_cons, endFA_r, endFA_n, endTA_r, endTA_n, endRA_r, endRA_n, endEA_r, endEA_n, List.take, fltR, resultsA, resAs, resA, XA_block, XA_cond, pickX_t, pickX_f, pickX_b, XA_skip_blk, XA_skip_lp, XA_exit_seq, XA_exit_lp, XA_exit_blk, XA_exit_nil, load1, Ev.loadCells, objCells, bodyCells, setCells, AV.flat, AV.flat1, backR, backV, backCell, mapO, AV.cells, AV.atom, AV.tree, fillV, repeatL, treeCell, freezeAll, eqCells, callV_T, callV_F, passN, passV, passCell, srcCells, sliceBounds, hiB, loB, thenQ_nA, thenQ_xA, thenQ_rA, runK_nA, runK_xA, runK_rA, wrap_i64, wrap_u64, wrap_u32, wrap_u8, wrap_u16, callV_O, okIds, passObjs, passBody, backObjs, backBody, adopts, List.idxOf?, List.findIdx?, List.findIdx?.go, isNilP, mapLook, mapGet, keyGet, adopts, List.lookup, AV.atom, normA, lkE, fixObjs, fixBody, fixV, fixCell, hi', hi, hd, hfl, hiu', ciu, eu, ex, et, hX2, htk, hws]
    · intro _
      simp [beqI, bneI, mm_min2, mm_max2, mm_min3, mm_max3, startE, lkE, lkX, lkE_rest, sx, substE, opVA, objs0, List.replicate, XA_seq, XA_region, XOA_go, goE_someA, opV, ev, putA, layAll, XOA_nil, XA_skip_seq, XA_skip_nil, XOA_gd, goG_tA, goG_uA, binV, bi_add, bi_sub, bi_mul, bi_quo, bi_rem, bi_eql, bi_neq, bi_lss, bi_leq, bi_gtr, bi_geq, bi_shl, bi_shr, bi_and, bi_or, bi_xor, unV, XA_ret_nil, XA_ret_cons, endFA_r, endFA_n, endTA_r, endTA_n, endRA_r, endRA_n, endEA_r, endEA_n, List.take, fltR, resultsA, resAs, resA, XA_block, XA_cond, pickX_t, pickX_f, pickX_b, XA_skip_blk, XA_skip_lp, XA_exit_seq, XA_exit_lp, XA_exit_blk, XA_exit_nil, load1, Ev.loadCells, objCells, bodyCells, setCells, AV.flat, AV.flat1, backR, backV, backCell, mapO, AV.cells, AV.atom, AV.tree, fillV, repeatL, treeCell, freezeAll, eqCells, callV_T, callV_F, passN, passV, passCell, srcCells, sliceBounds, hiB, loB, thenQ_nA, thenQ_xA, thenQ_rA, runK_nA, runK_xA, runK_rA, wrap_i64, wrap_u64, wrap_u32, wrap_u8, wrap_u16, callV_O, okIds, passObjs, passBody, backObjs, backBody, adopts, List.idxOf?, List.findIdx?, List.findIdx?.go, isNilP, mapLook, mapGet, keyGet, adopts, List.lookup, AV.atom, normA, lkE, fixObjs, fixBody, fixV, fixCell]
  · have g' : goodC ds m = false := by simpa using g
    rw [g'] at eg
    have en := cfB (cfS (new_nil ds m hC g'))
    refine cvFA_R (mf := Mf.f10) rfl rfl (by kernel_rfl) ?_
    simp only [Mf.f10]
    simp [beqI, bneI, mm_min2, mm_max2, mm_min3, mm_max3, startE, lkE, lkX, lkE_rest, sx, substE, opVA, objs0, List.replicate, XA_seq, XA_region, XOA_go, goE_someA, opV, ev, putA, layAll, XOA_nil, XA_skip_seq, XA_skip_nil, XOA_gd, goG_tA, goG_uA, binV, bi_add, bi_sub, bi_mul, bi_quo, bi_rem, bi_eql, bi_neq, bi_lss, bi_leq, bi_gtr, bi_geq, bi_shl, bi_shr, bi_and, bi_or, bi_xor, unV, XA_ret_nil, XA_ret_cons, endFA_r, endFA_n, endTA_r, endTA_n, endRA_r, endRA_n, endEA_r, endEA_n, List.take, fltR, resultsA, resAs, resA, XA_block, XA_cond, pickX_t, pickX_f, pickX_b, XA_skip_blk, XA_skip_lp, XA_exit_seq, XA_exit_lp, XA_exit_blk, XA_exit_nil, load1, Ev.loadCells, objCells, bodyCells, setCells, AV.flat, AV.flat1, backR, backV, backCell, mapO, AV.cells, AV.atom, AV.tree, fillV, repeatL, treeCell, freezeAll, eqCells, callV_T, callV_F, passN, passV, passCell, srcCells, sliceBounds, hiB, loB, thenQ_nA, thenQ_xA, thenQ_rA, runK_nA, runK_xA, runK_rA, wrap_i64, wrap_u64, wrap_u32, wrap_u8, wrap_u16, callV_O, okIds, passObjs, passBody, backObjs, backBody, adopts, List.idxOf?, List.findIdx?, List.findIdx?.go, isNilP, mapLook, mapGet, keyGet, adopts, List.lookup, callV_R, backBody, eg, en]
theorem none_ev : cvF tabB 11 [.agg (chC false (row0 1 1))] = some (.bool true) := by
  have h : (evalFun tabB 4000 11 [.agg (chC false (row0 1 1))] []).map (fun p => match p.1 with | .bool b => b | _ => false) = some true := by kernel_rfl
  obtain ⟨⟨r, H1⟩, h1, h2⟩ := Option.map_eq_some_iff.1 h
  have h3 := cfT_of h1
  unfold cvF
  rw [h3]
  cases r <;> simp at h2
  subst h2
  rfl
theorem basePlays_ev (ds : List Dm) (m : Int) (l : List Ch) (u : List Bool) (hC : okC ds) (hl : okH l) (hu : u.length ≤ 9223372036854775807) : cvF tabB 3 [.agg [.ro ds.length (flatD ds), .int .i64 m, rH l, .ro u.length (u.map .bool)]] = some (.bool true) := by
  have eL := cvFB (cvFS (lightCat_ev ds m))
  have ew := wake_ev
  have en := none_ev
  have er := rowOf_ev 1 1 (by omega)
  by_cases c1 : lightC ds = true
  · rw [c1] at eL
    by_cases c2 : l.length ≤ 60
    · have c2' : ¬ 60 < (l.length : Int) := by omega
      have e1 := plays_ev ds m l u hC hl c2 hu
      have e2 := plays_ev ds m l [] hC hl c2 (by simp)
      simp only [rH, chC, rowC, row0, List.length_nil, List.map_nil] at e1 e2 en er ⊢
      refine cvFA_R (mf := Mf.f3) rfl rfl (by kernel_rfl) ?_
      simp only [Mf.f3]
      simp at en er
      simp [beqI, bneI, mm_min2, mm_max2, mm_min3, mm_max3, startE, lkE, lkX, lkE_rest, sx, substE, opVA, objs0, List.replicate, XA_seq, XA_region, XOA_go, goE_someA, opV, ev, putA, layAll, XOA_nil, XA_skip_seq, XA_skip_nil, XOA_gd, goG_tA, goG_uA, binV, bi_add, bi_sub, bi_mul, bi_quo, bi_rem, bi_eql, bi_neq, bi_lss, bi_leq, bi_gtr, bi_geq, bi_shl, bi_shr, bi_and, bi_or, bi_xor, unV, XA_ret_nil, XA_ret_cons, endFA_r, endFA_n, endTA_r, endTA_n, endRA_r, endRA_n, endEA_r, endEA_n, List.take, fltR, resultsA, resAs, resA, XA_block, XA_cond, pickX_t, pickX_f, pickX_b, XA_skip_blk, XA_skip_lp, XA_exit_seq, XA_exit_lp, XA_exit_blk, XA_exit_nil, load1, Ev.loadCells, objCells, bodyCells, setCells, AV.flat, AV.flat1, backR, backV, backCell, mapO, AV.cells, AV.atom, AV.tree, fillV, repeatL, treeCell, freezeAll, eqCells, callV_T, callV_F, passN, passV, passCell, srcCells, sliceBounds, hiB, loB, thenQ_nA, thenQ_xA, thenQ_rA, runK_nA, runK_xA, runK_rA, wrap_i64, wrap_u64, wrap_u32, wrap_u8, wrap_u16, callV_O, okIds, passObjs, passBody, backObjs, backBody, adopts, List.idxOf?, List.findIdx?, List.findIdx?.go, isNilP, mapLook, mapGet, keyGet, adopts, List.lookup, eL, c2', e1, e2, en, er, ew]
    · have c2' : 60 < (l.length : Int) := by omega
      refine cvFA_R (mf := Mf.f3) rfl rfl (by kernel_rfl) ?_
      simp only [Mf.f3]
      simp [beqI, bneI, mm_min2, mm_max2, mm_min3, mm_max3, startE, lkE, lkX, lkE_rest, sx, substE, opVA, objs0, List.replicate, XA_seq, XA_region, XOA_go, goE_someA, opV, ev, putA, layAll, XOA_nil, XA_skip_seq, XA_skip_nil, XOA_gd, goG_tA, goG_uA, binV, bi_add, bi_sub, bi_mul, bi_quo, bi_rem, bi_eql, bi_neq, bi_lss, bi_leq, bi_gtr, bi_geq, bi_shl, bi_shr, bi_and, bi_or, bi_xor, unV, XA_ret_nil, XA_ret_cons, endFA_r, endFA_n, endTA_r, endTA_n, endRA_r, endRA_n, endEA_r, endEA_n, List.take, fltR, resultsA, resAs, resA, XA_block, XA_cond, pickX_t, pickX_f, pickX_b, XA_skip_blk, XA_skip_lp, XA_exit_seq, XA_exit_lp, XA_exit_blk, XA_exit_nil, load1, Ev.loadCells, objCells, bodyCells, setCells, AV.flat, AV.flat1, backR, backV, backCell, mapO, AV.cells, AV.atom, AV.tree, fillV, repeatL, treeCell, freezeAll, eqCells, callV_T, callV_F, passN, passV, passCell, srcCells, sliceBounds, hiB, loB, thenQ_nA, thenQ_xA, thenQ_rA, runK_nA, runK_xA, runK_rA, wrap_i64, wrap_u64, wrap_u32, wrap_u8, wrap_u16, callV_O, okIds, passObjs, passBody, backObjs, backBody, adopts, List.idxOf?, List.findIdx?, List.findIdx?.go, isNilP, mapLook, mapGet, keyGet, adopts, List.lookup, rH, eL, c2', ew]
  · have c1' : lightC ds = false := by simpa using c1
    rw [c1'] at eL
    refine cvFA_R (mf := Mf.f3) rfl rfl (by kernel_rfl) ?_
    simp only [Mf.f3]
    simp [beqI, bneI, mm_min2, mm_max2, mm_min3, mm_max3, startE, lkE, lkX, lkE_rest, sx, substE, opVA, objs0, List.replicate, XA_seq, XA_region, XOA_go, goE_someA, opV, ev, putA, layAll, XOA_nil, XA_skip_seq, XA_skip_nil, XOA_gd, goG_tA, goG_uA, binV, bi_add, bi_sub, bi_mul, bi_quo, bi_rem, bi_eql, bi_neq, bi_lss, bi_leq, bi_gtr, bi_geq, bi_shl, bi_shr, bi_and, bi_or, bi_xor, unV, XA_ret_nil, XA_ret_cons, endFA_r, endFA_n, endTA_r, endTA_n, endRA_r, endRA_n, endEA_r, endEA_n, List.take, fltR, resultsA, resAs, resA, XA_block, XA_cond, pickX_t, pickX_f, pickX_b, XA_skip_blk, XA_skip_lp, XA_exit_seq, XA_exit_lp, XA_exit_blk, XA_exit_nil, load1, Ev.loadCells, objCells, bodyCells, setCells, AV.flat, AV.flat1, backR, backV, backCell, mapO, AV.cells, AV.atom, AV.tree, fillV, repeatL, treeCell, freezeAll, eqCells, callV_T, callV_F, passN, passV, passCell, srcCells, sliceBounds, hiB, loB, thenQ_nA, thenQ_xA, thenQ_rA, runK_nA, runK_xA, runK_rA, wrap_i64, wrap_u64, wrap_u32, wrap_u8, wrap_u16, callV_O, okIds, passObjs, passBody, backObjs, backBody, adopts, List.idxOf?, List.findIdx?, List.findIdx?.go, isNilP, mapLook, mapGet, keyGet, adopts, List.lookup, rH, eL, ew]
def gAsk20 : GT := .pair gCat (.pair (.slice gCh) (.pair (.slice .bool) .unit))
theorem rd_bools {cs : List AV} (h : RD (.slice .bool) cs) : ∃ u : List Bool, cs = [.ro u.length (u.map .bool)] ∧ u.length ≤ 9223372036854775807 := by
  obtain ⟨L, rfl, h2, h3⟩ := h
  have key : ∀ (L : List (List AV)), (∀ x ∈ L, RD .bool x) → ∃ u : List Bool, L.length = u.length ∧ L.flatten = u.map .bool := by
    intro L
    induction L with
    | nil => intro _; exact ⟨[], rfl, rfl⟩
    | cons c L ih =>
      intro h
      obtain ⟨b, rfl⟩ := h c (by simp)
      obtain ⟨u, h1, h2⟩ := ih fun x hx => h x (by simp [hx])
      exact ⟨b :: u, by simp [h1], by simp [h2]⟩
  obtain ⟨u, h4, h5⟩ := key L h3
  exact ⟨u, by rw [h4, h5], by rw [← h4]; exact h2⟩
theorem basePlays_law (l : List AV) (h : RDargs [gAsk20] l) : ∃ H1, cfT tabB 3 l [] = some (.bool true, H1) := by
  obtain ⟨x, r, rfl, hx, rfl⟩ := h
  simp only [RDarg, gAsk20, isAggG, if_true] at hx
  obtain ⟨cs, rfl, a, b, rfl, ha, c, d, rfl, hc, e, f, rfl, he, rfl⟩ := hx
  obtain ⟨ds, m, rfl, hC, hm⟩ := rd_cat ha
  obtain ⟨l, hl1, hl⟩ := rdarg_chs (a := c.headD .undef) (by
    obtain ⟨L, rfl, h2, h3⟩ := hc
    exact ⟨L, rfl, h2, h3⟩)
  obtain ⟨u, rfl, hu⟩ := rd_bools he
  obtain ⟨L, rfl, h2, h3⟩ := hc
  simp only [List.headD_cons] at hl1
  rw [hl1]
  exact cvF_bool (basePlays_ev ds m l u hC hl hu)
theorem basePlays_lifted (os : Os) (started : os.Started) (H : Type) (enc : TypeId × Value → H) :
    ReturnsInHanded {} Try.checked os 3 .any (Rows.basePlaysSpec.pre6 enc Try.prog Try.f3 Rows.basePlaysRow.domain false) (Rows.basePlaysSpec.post enc Try.prog Try.f3 false true false false) := by
  refine returnsInHanded_of_change (C := Try.checked) Try.own started (by kernel_rfl) Try.func3
    (ChangeSpec.witness6 (enc := enc) (C := Try.checked) false ⟨#[], #[.agg #[.slice none 0 0, .int .i64 0, .slice none 0 0, .slice none 0 0]], []⟩ 8 (by kernel_rfl) (by kernel_rfl) (by kernel_rfl) (by kernel_rfl)) ?_
  intro W base args ds gs before hval hW hcnd _
  have hval' : ∀ (j : Nat) (t : TypeId) (v : Value), Try.f3.params.toList[j]? = some t → args[j]? = some v → Value.okWide Try.prog W .any base t v := fun j t v h1 h2 => hval j t v (by simpa using h1) h2
  obtain ⟨p, q, hA, hV, hpq, _, _⟩ := id hW
  have hg : gtsB Try.prog [gAsk20] Try.f3.params.toList = true := by kernel_rfl
  refine (law_calls' tabB_ok hg basePlays_law hval' hA).mono fun e W' ⟨he, hb⟩ => ?_
  subst he
  refine ⟨_, rfl, post_true Try.laidOut (rt := 4) (fun ds h => ?_) rfl (by kernel_rfl) (by kernel_rfl) (by kernel_rfl) hW hb⟩
  match ds, h with
  | [_], _ => rfl
theorem basePlays_holds : Rows.BasePlaysSaid :=
  OpenClaim.holds_of_wide 3 Try.f3 rfl rfl rfl rfl rfl rfl rfl ⟨rfl, rfl, rfl, rfl, rfl⟩ rfl rfl rfl rfl rfl (by kernel_rfl) Try.func3 (by kernel_rfl)
    (of_decide_eq_true (by kernel_rfl)) (by unfold Func.isWrapper; first | (rw [if_pos (by decide +kernel)]; kernel_rfl) | (rw [if_neg (by decide +kernel)]; exact ⟨rfl, rfl⟩))
    (fun os started H enc _ => basePlays_lifted os started H enc)
end Go.Proofs.Ytmnafjgkhhdidaa
