/- The rows stand in order, as many as there are, each as often as it is told to be there, and their mass is the one that is told. -/
import Derived.Test.YtmnafjgkhhdidaaBaL
set_option linter.unusedSimpArgs false
set_option linter.unusedVariables false
set_option maxHeartbeats 16000000
set_option maxRecDepth 100000
namespace Go.Proofs.Ytmnafjgkhhdidaa
open Go.Ev
theorem baRows_ev (ds : List Dm) (m : Int) (l : List Ch) (hC : okC ds) (hl : okH l) : cvF tabB 7 [.agg [.ro ds.length (flatD ds), .int .i64 m], rH l] = some (.bool true) := by
  have eL := cvFB (cvFS (lightCat_ev ds m))
  have eg := bgood_ev ds m hC
  have ew := wake_ev
  by_cases c1 : lightC ds = true
  · rw [c1] at eL
    by_cases c2 : l.length ≤ 60
    · have c2' : ¬ 60 < (l.length : Int) := by omega
      by_cases g : goodC ds m = true
      · rw [g] at eg
        have en := cfB (cfS (new_cf ds m hC g))
        have hRB := fun i (h : i ≤ l.length) => seq_RB ds m l hl i h
        have hdo := fun i (h : i < l.length) => do_E ds m l[i].1 hC (hRB i (by omega)).1 (hl _ (List.getElem_mem h)) (by have := (hRB i (by omega)).2.1; omega)
        have hsc := fun i (h : i < l.length) => seqC_succ ds m l i h
        have hd7 := fun i (h : i < l.length) => dropH l i h
        have hfl := flatH_len l
        obtain ⟨hB, hBl, hBg⟩ := hRB l.length (Nat.le_refl _)
        obtain ⟨Hr, er⟩ := rows_R ds m hB (by omega)
        obtain ⟨Hn, eN⟩ := len_R ds m hB
        obtain ⟨Hm, em⟩ := mass_R ds m hB
        have hhas := fun r => has_R ds m r hB
        have hz : seqC ds m l 0 = bs0 := rfl
        have hokL : okL (seqL ds m l l.length) := fun r hr => (hBg r hr).2
        have hsp := srt_perm (seqL ds m l l.length)
        have hsl := srt_len (seqL ds m l l.length)
        have hsok := srt_ok hokL
        have hcnt := fun x => hsp.count_eq x
        have hpw := List.pairwise_iff_getElem.1 (ltD_swo hokL)
        have hgd := fun r (hr : r ∈ srt (seqL ds m l l.length)) => cvFB (cvFS (wgood_ev ds m r hC (hsok r hr)))
        have hgt := fun r (hr : r ∈ srt (seqL ds m l l.length)) => (hBg r (hsp.mem_iff.1 hr)).1
        have emass := cvFB (cvFS (mass_ev (srt (seqL ds m l l.length)) (by omega) hsok))
        have hmg : massG (srt (seqL ds m l l.length)) = true := by rw [massG_perm hsp, ← massG_perm hB.p]; exact hB.ib.g
        have hmX : sumX (srt (seqL ds m l l.length)) = sumX (seqL ds m l l.length) := sumX_perm hsp
        have hmY : sumY (srt (seqL ds m l l.length)) = sumY (seqL ds m l l.length) := sumY_perm hsp
        unfold massV at emass
        rw [if_pos hmg, hmX, hmY] at emass
        have hless := fun i j (hi : i < (srt (seqL ds m l l.length)).length) (hj : j < (srt (seqL ds m l l.length)).length) => cvFB (cvFS (less_ev (srt (seqL ds m l l.length))[i] (srt (seqL ds m l l.length))[j] (hsok _ (List.getElem_mem hi)) (hsok _ (List.getElem_mem hj))))
        have hds := fun i (h : i < (srt (seqL ds m l l.length)).length) => dropW (srt (seqL ds m l l.length)) i h
        have hts := fun i (h : i < (srt (seqL ds m l l.length)).length) x => take_count (srt (seqL ds m l l.length)) i h x
        have hlfs := flatW_len (srt (seqL ds m l l.length))
        have hlW : (seqL ds m l l.length).length ≤ 60 := by omega
        simp only [rW, rH] at er emass ⊢
        generalize hS : srt (seqL ds m l l.length) = S at *
        generalize hLL : seqL ds m l l.length = L at *
        obtain ⟨N, hN⟩ : ∃ N, S.length = N := ⟨_, rfl⟩
        have hLN : L.length = N := by omega
        rw [hLN] at eN
        simp only [hN] at *
        generalize hfs : flatW S = fs at *
        generalize hfH : flatH l = fl at *
        refine cvFA_R (mf := Mf.f7) rfl rfl (by kernel_rfl) ?_
        simp only [Mf.f7]
        simp only [rowC, chC, bV, bM] at en er eN em
        simp [beqI, bneI, mm_min2, mm_max2, mm_min3, mm_max3, startE, lkE, lkX, lkE_rest, sx, substE, opVA, objs0, List.replicate, XA_seq, XA_region, XOA_go, goE_someA, opV, ev, putA, layAll, XOA_nil, XA_skip_seq, XA_skip_nil, XOA_gd, goG_tA, goG_uA, binV, bi_add, bi_sub, bi_mul, bi_quo, bi_rem, bi_eql, bi_neq, bi_lss, bi_leq, bi_gtr, bi_geq, bi_shl, bi_shr, bi_and, bi_or, bi_xor, unV, XA_ret_nil, XA_ret_cons, endFA_r, endFA_n, endTA_r, endTA_n, endRA_r, endRA_n, endEA_r, endEA_n, List.take, fltR, resultsA, resAs, resA, XA_block, XA_cond, pickX_t, pickX_f, pickX_b, XA_skip_blk, XA_skip_lp, XA_exit_seq, XA_exit_lp, XA_exit_blk, XA_exit_nil, load1, Ev.loadCells, objCells, bodyCells, setCells, AV.flat, AV.flat1, backR, backV, backCell, mapO, AV.cells, AV.atom, AV.tree, fillV, repeatL, treeCell, freezeAll, eqCells, callV_T, callV_F, passN, passV, passCell, srcCells, sliceBounds, hiB, loB, thenQ_nA, thenQ_xA, thenQ_rA, runK_nA, runK_xA, runK_rA, wrap_i64, wrap_u64, wrap_u32, wrap_u8, wrap_u16, callV_O, okIds, passObjs, passBody, backObjs, backBody, adopts, List.idxOf?, List.findIdx?, List.findIdx?.go, isNilP, mapLook, mapGet, keyGet, adopts, List.lookup, callV_R, backBody, eL, c2', eg, en]
        refine XA_for (fun i => ⟨[(1, .ro l.length fl), (2, .ptr 0 0 0), (5, .ptr 1 0 0), (6, .int .i64 i)], [⟨0, .var [.ro ds.length (flatD ds), .int .i64 m]⟩, bV 0 2 0 ds m (seqC ds m l i), bM 0 (seqC ds m l i), ⟨0, .none⟩]⟩)
          (fun _ => True) l.length 0 (Nat.zero_le _) (by simp [AV.atom, normA, lkE, fixObjs, fixBody, fixV, fixCell, bV, bM, hz]) trivial ?_ ?_
        · intro i _ hi _
          have hi' : (i : Int) < l.length := by omega
          obtain ⟨Ha, ea⟩ := hdo i hi
          rw [← hsc i hi] at ea
          have hd := hd7 i hi
          have hws := wrap_succ i l.length hi (by omega)
          generalize seqC ds m l (i + 1) = T' at *
          generalize seqC ds m l i = T at *
          obtain ⟨db, R⟩ := l[i]
          simp only [rowC, chC, bV, bM, List.cons_append, List.nil_append] at ea hd
          simp [beqI, bneI, mm_min2, mm_max2, mm_min3, mm_max3, startE, lkE, lkX, lkE_rest, sx, substE, opVA, objs0, List.replicate, XA_seq, XA_region, XOA_go, goE_someA, opV, ev, putA, layAll, XOA_nil, XA_skip_seq, XA_skip_nil, XOA_gd, goG_tA, goG_uA, binV, bi_add, bi_sub, bi_mul, bi_quo, bi_rem, bi_eql, bi_neq, bi_lss, bi_leq, bi_gtr, bi_geq, bi_shl, bi_shr, bi_and, bi_or, bi_xor, unV, XA_ret_nil, XA_ret_cons, endFA_r, endFA_n, endTA_r, endTA_n, endRA_r, endRA_n, endEA_r, endEA_n, List.take, fltR, resultsA, resAs, resA, XA_block, XA_cond, pickX_t, pickX_f, pickX_b, XA_skip_blk, XA_skip_lp, XA_exit_seq, XA_exit_lp, XA_exit_blk, XA_exit_nil, load1, Ev.loadCells, objCells, bodyCells, setCells, AV.flat, AV.flat1, backR, backV, backCell, mapO, AV.cells, AV.atom, AV.tree, fillV, repeatL, treeCell, freezeAll, eqCells, callV_T, callV_F, passN, passV, passCell, srcCells, sliceBounds, hiB, loB, thenQ_nA, thenQ_xA, thenQ_rA, runK_nA, runK_xA, runK_rA, wrap_i64, wrap_u64, wrap_u32, wrap_u8, wrap_u16, callV_O, okIds, passObjs, passBody, backObjs, backBody, adopts, List.idxOf?, List.findIdx?, List.findIdx?.go, isNilP, mapLook, mapGet, keyGet, adopts, List.lookup, AV.atom, normA, lkE, fixObjs, fixBody, fixV, fixCell, bV, bM, hi', hi, hd, hfl, ea, hws]
        · intro _
          generalize seqC ds m l l.length = T at *
          simp [beqI, bneI, mm_min2, mm_max2, mm_min3, mm_max3, startE, lkE, lkX, lkE_rest, sx, substE, opVA, objs0, List.replicate, XA_seq, XA_region, XOA_go, goE_someA, opV, ev, putA, layAll, XOA_nil, XA_skip_seq, XA_skip_nil, XOA_gd, goG_tA, goG_uA, binV, bi_add, bi_sub, bi_mul, bi_quo, bi_rem, bi_eql, bi_neq, bi_lss, bi_leq, bi_gtr, bi_geq, bi_shl, bi_shr, bi_and, bi_or, bi_xor, unV, XA_ret_nil, XA_ret_cons, endFA_r, endFA_n, endTA_r, endTA_n, endRA_r, endRA_n, endEA_r, endEA_n, List.take, fltR, resultsA, resAs, resA, XA_block, XA_cond, pickX_t, pickX_f, pickX_b, XA_skip_blk, XA_skip_lp, XA_exit_seq, XA_exit_lp, XA_exit_blk, XA_exit_nil, load1, Ev.loadCells, objCells, bodyCells, setCells, AV.flat, AV.flat1, backR, backV, backCell, mapO, AV.cells, AV.atom, AV.tree, fillV, repeatL, treeCell, freezeAll, eqCells, callV_T, callV_F, passN, passV, passCell, srcCells, sliceBounds, hiB, loB, thenQ_nA, thenQ_xA, thenQ_rA, runK_nA, runK_xA, runK_rA, wrap_i64, wrap_u64, wrap_u32, wrap_u8, wrap_u16, callV_O, okIds, passObjs, passBody, backObjs, backBody, adopts, List.idxOf?, List.findIdx?, List.findIdx?.go, isNilP, mapLook, mapGet, keyGet, adopts, List.lookup, AV.atom, normA, lkE, fixObjs, fixBody, fixV, fixCell, bV, bM, er, eN, em, emass, hfs]
          refine XA_for (fun i => ⟨[(2, .ptr 0 0 0), (5, .ptr 1 0 0), (7, .ro N fs), (10, .int .i64 i)], [⟨0, .var [.ro ds.length (flatD ds), .int .i64 m]⟩, bV 0 2 0 ds m T, bM 0 T, ⟨0, .none⟩]⟩)
            (fun _ => True) N 0 (Nat.zero_le _) (by simp [AV.atom, normA, lkE, fixObjs, fixBody, fixV, fixCell, bV, bM]) trivial ?_ ?_
          · intro i _ hi _
            have hi' : (i : Int) < N := by omega
            have hiS : i < S.length := by omega
            have dSi := hds i hi
            have hws := wrap_succ i N hi (by omega)
            have hts' := fun j (h : j < N) => hts j h S[i]
            have hprev : ∀ j (hj : j + 1 = i), ltD S[i] (S[j]'(by omega)) = false := fun j hj => hpw j i (by omega) hi (by omega)
            have hle := fun j (hj : j < N) => hless i j hi hj
            have hmem : S[i] ∈ S := List.getElem_mem hiS
            have egd := hgd S[i] hmem
            rw [hgt S[i] hmem] at egd
            have hcx := hcnt S[i]
            obtain ⟨Hh, eh⟩ := hhas S[i]
            rw [← hcx] at eh
            generalize S[i] = x at *
            simp only [rowC, List.cons_append, List.nil_append, bV, bM] at dSi egd eh
            simp [beqI, bneI, mm_min2, mm_max2, mm_min3, mm_max3, startE, lkE, lkX, lkE_rest, sx, substE, opVA, objs0, List.replicate, XA_seq, XA_region, XOA_go, goE_someA, opV, ev, putA, layAll, XOA_nil, XA_skip_seq, XA_skip_nil, XOA_gd, goG_tA, goG_uA, binV, bi_add, bi_sub, bi_mul, bi_quo, bi_rem, bi_eql, bi_neq, bi_lss, bi_leq, bi_gtr, bi_geq, bi_shl, bi_shr, bi_and, bi_or, bi_xor, unV, XA_ret_nil, XA_ret_cons, endFA_r, endFA_n, endTA_r, endTA_n, endRA_r, endRA_n, endEA_r, endEA_n, List.take, fltR, resultsA, resAs, resA, XA_block, XA_cond, pickX_t, pickX_f, pickX_b, XA_skip_blk, XA_skip_lp, XA_exit_seq, XA_exit_lp, XA_exit_blk, XA_exit_nil, load1, Ev.loadCells, objCells, bodyCells, setCells, AV.flat, AV.flat1, backR, backV, backCell, mapO, AV.cells, AV.atom, AV.tree, fillV, repeatL, treeCell, freezeAll, eqCells, callV_T, callV_F, passN, passV, passCell, srcCells, sliceBounds, hiB, loB, thenQ_nA, thenQ_xA, thenQ_rA, runK_nA, runK_xA, runK_rA, wrap_i64, wrap_u64, wrap_u32, wrap_u8, wrap_u16, callV_O, okIds, passObjs, passBody, backObjs, backBody, adopts, List.idxOf?, List.findIdx?, List.findIdx?.go, isNilP, mapLook, mapGet, keyGet, adopts, List.lookup, AV.atom, normA, lkE, fixObjs, fixBody, fixV, fixCell, bV, bM, hi', hi]
            refine XA_for (fun k => ⟨[(2, .ptr 0 0 0), (5, .ptr 1 0 0), (7, .ro N fs), (10, .int .i64 i), (11, .int .i64 (((S.take k).count x : Nat) : Int)), (12, .int .i64 k)], [⟨0, .var [.ro ds.length (flatD ds), .int .i64 m]⟩, bV 0 2 0 ds m T, bM 0 T, ⟨0, .none⟩]⟩)
              (fun _ => True) N 0 (Nat.zero_le _) (by simp [AV.atom, normA, lkE, fixObjs, fixBody, fixV, fixCell, bV, bM]) trivial ?_ ?_
            · intro j _ hj _
              have hj' : (j : Int) < N := by omega
              have dSj := hds j hj
              have wj := wrap_succ j N hj (by omega)
              have s1 := hts' j hj
              have b1 := List.count_le_length (a := x) (l := S.take j)
              rw [List.length_take] at b1
              rw [s1]
              generalize (S.take j).count x = cS at *
              generalize S[j]'_ = p at *
              have ep := eq_rowB p x
              have u1 : IntKind.i64.wrap ((cS : Int) + 1) = (cS : Int) + 1 := wrap_i64 (by omega) (by omega)
              simp only [rowC, List.cons_append, List.nil_append] at dSj
              by_cases c1 : p = x
              · rw [decide_eq_true c1] at ep
                simp [beqI, bneI, mm_min2, mm_max2, mm_min3, mm_max3, startE, lkE, lkX, lkE_rest, sx, substE, opVA, objs0, List.replicate, XA_seq, XA_region, XOA_go, goE_someA, opV, ev, putA, layAll, XOA_nil, XA_skip_seq, XA_skip_nil, XOA_gd, goG_tA, goG_uA, binV, bi_add, bi_sub, bi_mul, bi_quo, bi_rem, bi_eql, bi_neq, bi_lss, bi_leq, bi_gtr, bi_geq, bi_shl, bi_shr, bi_and, bi_or, bi_xor, unV, XA_ret_nil, XA_ret_cons, endFA_r, endFA_n, endTA_r, endTA_n, endRA_r, endRA_n, endEA_r, endEA_n, List.take, fltR, resultsA, resAs, resA, XA_block, XA_cond, pickX_t, pickX_f, pickX_b, XA_skip_blk, XA_skip_lp, XA_exit_seq, XA_exit_lp, XA_exit_blk, XA_exit_nil, load1, Ev.loadCells, objCells, bodyCells, setCells, AV.flat, AV.flat1, backR, backV, backCell, mapO, AV.cells, AV.atom, AV.tree, fillV, repeatL, treeCell, freezeAll, eqCells, callV_T, callV_F, passN, passV, passCell, srcCells, sliceBounds, hiB, loB, thenQ_nA, thenQ_xA, thenQ_rA, runK_nA, runK_xA, runK_rA, wrap_i64, wrap_u64, wrap_u32, wrap_u8, wrap_u16, callV_O, okIds, passObjs, passBody, backObjs, backBody, adopts, List.idxOf?, List.findIdx?, List.findIdx?.go, isNilP, mapLook, mapGet, keyGet, adopts, List.lookup, AV.atom, normA, lkE, fixObjs, fixBody, fixV, fixCell, bV, bM, eqCells, hj', hj, hi', hi, dSj, dSi, wj, ep, c1, u1, hlfs]
              · rw [decide_eq_false c1] at ep
                simp [beqI, bneI, mm_min2, mm_max2, mm_min3, mm_max3, startE, lkE, lkX, lkE_rest, sx, substE, opVA, objs0, List.replicate, XA_seq, XA_region, XOA_go, goE_someA, opV, ev, putA, layAll, XOA_nil, XA_skip_seq, XA_skip_nil, XOA_gd, goG_tA, goG_uA, binV, bi_add, bi_sub, bi_mul, bi_quo, bi_rem, bi_eql, bi_neq, bi_lss, bi_leq, bi_gtr, bi_geq, bi_shl, bi_shr, bi_and, bi_or, bi_xor, unV, XA_ret_nil, XA_ret_cons, endFA_r, endFA_n, endTA_r, endTA_n, endRA_r, endRA_n, endEA_r, endEA_n, List.take, fltR, resultsA, resAs, resA, XA_block, XA_cond, pickX_t, pickX_f, pickX_b, XA_skip_blk, XA_skip_lp, XA_exit_seq, XA_exit_lp, XA_exit_blk, XA_exit_nil, load1, Ev.loadCells, objCells, bodyCells, setCells, AV.flat, AV.flat1, backR, backV, backCell, mapO, AV.cells, AV.atom, AV.tree, fillV, repeatL, treeCell, freezeAll, eqCells, callV_T, callV_F, passN, passV, passCell, srcCells, sliceBounds, hiB, loB, thenQ_nA, thenQ_xA, thenQ_rA, runK_nA, runK_xA, runK_rA, wrap_i64, wrap_u64, wrap_u32, wrap_u8, wrap_u16, callV_O, okIds, passObjs, passBody, backObjs, backBody, adopts, List.idxOf?, List.findIdx?, List.findIdx?.go, isNilP, mapLook, mapGet, keyGet, adopts, List.lookup, AV.atom, normA, lkE, fixObjs, fixBody, fixV, fixCell, bV, bM, eqCells, hj', hj, hi', hi, dSj, dSi, wj, ep, c1, u1, hlfs]
            · intro _
              have hT1 : S.take N = S := List.take_of_length_le (by omega)
              rw [hT1]
              by_cases h0 : i = 0
              · subst h0
                simp at dSi hi' hws
                simp [beqI, bneI, mm_min2, mm_max2, mm_min3, mm_max3, startE, lkE, lkX, lkE_rest, sx, substE, opVA, objs0, List.replicate, XA_seq, XA_region, XOA_go, goE_someA, opV, ev, putA, layAll, XOA_nil, XA_skip_seq, XA_skip_nil, XOA_gd, goG_tA, goG_uA, binV, bi_add, bi_sub, bi_mul, bi_quo, bi_rem, bi_eql, bi_neq, bi_lss, bi_leq, bi_gtr, bi_geq, bi_shl, bi_shr, bi_and, bi_or, bi_xor, unV, XA_ret_nil, XA_ret_cons, endFA_r, endFA_n, endTA_r, endTA_n, endRA_r, endRA_n, endEA_r, endEA_n, List.take, fltR, resultsA, resAs, resA, XA_block, XA_cond, pickX_t, pickX_f, pickX_b, XA_skip_blk, XA_skip_lp, XA_exit_seq, XA_exit_lp, XA_exit_blk, XA_exit_nil, load1, Ev.loadCells, objCells, bodyCells, setCells, AV.flat, AV.flat1, backR, backV, backCell, mapO, AV.cells, AV.atom, AV.tree, fillV, repeatL, treeCell, freezeAll, eqCells, callV_T, callV_F, passN, passV, passCell, srcCells, sliceBounds, hiB, loB, thenQ_nA, thenQ_xA, thenQ_rA, runK_nA, runK_xA, runK_rA, wrap_i64, wrap_u64, wrap_u32, wrap_u8, wrap_u16, callV_O, okIds, passObjs, passBody, backObjs, backBody, adopts, List.idxOf?, List.findIdx?, List.findIdx?.go, isNilP, mapLook, mapGet, keyGet, adopts, List.lookup, AV.atom, normA, lkE, fixObjs, fixBody, fixV, fixCell, bV, bM, hi', hi, dSi, hws, eh, egd, hlfs]
              · obtain ⟨j, rfl⟩ : ∃ j, i = j + 1 := ⟨i - 1, by omega⟩
                have hjN : j < N := by omega
                have hpv := hprev j rfl
                have el := hle j hjN
                have dSj := hds j hjN
                have hlt : decide (ltR x (S[j]'(by omega))) = false := hpv
                rw [hlt] at el
                have wj : IntKind.i64.wrap (((j + 1 : Nat) : Int) - 1) = (j : Int) := by rw [wrap_i64 (by omega) (by omega)]; omega
                have hj' : (j : Int) < N := by omega
                have h0' : (0 : Int) < ((j + 1 : Nat) : Int) := by omega
                generalize S[j]'_ = p at *
                obtain ⟨i, hii⟩ : ∃ i, j + 1 = i := ⟨_, rfl⟩
                rw [hii] at dSi hi' hi wj hws h0' h0 ⊢
                have h0p : 0 < i := by omega
                simp only [rowC, List.cons_append, List.nil_append] at dSj el
                simp [beqI, bneI, mm_min2, mm_max2, mm_min3, mm_max3, startE, lkE, lkX, lkE_rest, sx, substE, opVA, objs0, List.replicate, XA_seq, XA_region, XOA_go, goE_someA, opV, ev, putA, layAll, XOA_nil, XA_skip_seq, XA_skip_nil, XOA_gd, goG_tA, goG_uA, binV, bi_add, bi_sub, bi_mul, bi_quo, bi_rem, bi_eql, bi_neq, bi_lss, bi_leq, bi_gtr, bi_geq, bi_shl, bi_shr, bi_and, bi_or, bi_xor, unV, XA_ret_nil, XA_ret_cons, endFA_r, endFA_n, endTA_r, endTA_n, endRA_r, endRA_n, endEA_r, endEA_n, List.take, fltR, resultsA, resAs, resA, XA_block, XA_cond, pickX_t, pickX_f, pickX_b, XA_skip_blk, XA_skip_lp, XA_exit_seq, XA_exit_lp, XA_exit_blk, XA_exit_nil, load1, Ev.loadCells, objCells, bodyCells, setCells, AV.flat, AV.flat1, backR, backV, backCell, mapO, AV.cells, AV.atom, AV.tree, fillV, repeatL, treeCell, freezeAll, eqCells, callV_T, callV_F, passN, passV, passCell, srcCells, sliceBounds, hiB, loB, thenQ_nA, thenQ_xA, thenQ_rA, runK_nA, runK_xA, runK_rA, wrap_i64, wrap_u64, wrap_u32, wrap_u8, wrap_u16, callV_O, okIds, passObjs, passBody, backObjs, backBody, adopts, List.idxOf?, List.findIdx?, List.findIdx?.go, isNilP, mapLook, mapGet, keyGet, adopts, List.lookup, AV.atom, normA, lkE, fixObjs, fixBody, fixV, fixCell, bV, bM, hi', hi, dSi, dSj, hj', hjN, wj, hws, el, h0', h0p, eh, egd, hlfs]
          · intro _
            simp [beqI, bneI, mm_min2, mm_max2, mm_min3, mm_max3, startE, lkE, lkX, lkE_rest, sx, substE, opVA, objs0, List.replicate, XA_seq, XA_region, XOA_go, goE_someA, opV, ev, putA, layAll, XOA_nil, XA_skip_seq, XA_skip_nil, XOA_gd, goG_tA, goG_uA, binV, bi_add, bi_sub, bi_mul, bi_quo, bi_rem, bi_eql, bi_neq, bi_lss, bi_leq, bi_gtr, bi_geq, bi_shl, bi_shr, bi_and, bi_or, bi_xor, unV, XA_ret_nil, XA_ret_cons, endFA_r, endFA_n, endTA_r, endTA_n, endRA_r, endRA_n, endEA_r, endEA_n, List.take, fltR, resultsA, resAs, resA, XA_block, XA_cond, pickX_t, pickX_f, pickX_b, XA_skip_blk, XA_skip_lp, XA_exit_seq, XA_exit_lp, XA_exit_blk, XA_exit_nil, load1, Ev.loadCells, objCells, bodyCells, setCells, AV.flat, AV.flat1, backR, backV, backCell, mapO, AV.cells, AV.atom, AV.tree, fillV, repeatL, treeCell, freezeAll, eqCells, callV_T, callV_F, passN, passV, passCell, srcCells, sliceBounds, hiB, loB, thenQ_nA, thenQ_xA, thenQ_rA, runK_nA, runK_xA, runK_rA, wrap_i64, wrap_u64, wrap_u32, wrap_u8, wrap_u16, callV_O, okIds, passObjs, passBody, backObjs, backBody, adopts, List.idxOf?, List.findIdx?, List.findIdx?.go, isNilP, mapLook, mapGet, keyGet, adopts, List.lookup, AV.atom, normA, lkE, fixObjs, fixBody, fixV, fixCell, bV, bM, ew]
      · have g' : goodC ds m = false := by simpa using g
        rw [g'] at eg
        refine cvFA_R (mf := Mf.f7) rfl rfl (by kernel_rfl) ?_
        simp only [Mf.f7]
        simp [beqI, bneI, mm_min2, mm_max2, mm_min3, mm_max3, startE, lkE, lkX, lkE_rest, sx, substE, opVA, objs0, List.replicate, XA_seq, XA_region, XOA_go, goE_someA, opV, ev, putA, layAll, XOA_nil, XA_skip_seq, XA_skip_nil, XOA_gd, goG_tA, goG_uA, binV, bi_add, bi_sub, bi_mul, bi_quo, bi_rem, bi_eql, bi_neq, bi_lss, bi_leq, bi_gtr, bi_geq, bi_shl, bi_shr, bi_and, bi_or, bi_xor, unV, XA_ret_nil, XA_ret_cons, endFA_r, endFA_n, endTA_r, endTA_n, endRA_r, endRA_n, endEA_r, endEA_n, List.take, fltR, resultsA, resAs, resA, XA_block, XA_cond, pickX_t, pickX_f, pickX_b, XA_skip_blk, XA_skip_lp, XA_exit_seq, XA_exit_lp, XA_exit_blk, XA_exit_nil, load1, Ev.loadCells, objCells, bodyCells, setCells, AV.flat, AV.flat1, backR, backV, backCell, mapO, AV.cells, AV.atom, AV.tree, fillV, repeatL, treeCell, freezeAll, eqCells, callV_T, callV_F, passN, passV, passCell, srcCells, sliceBounds, hiB, loB, thenQ_nA, thenQ_xA, thenQ_rA, runK_nA, runK_xA, runK_rA, wrap_i64, wrap_u64, wrap_u32, wrap_u8, wrap_u16, callV_O, okIds, passObjs, passBody, backObjs, backBody, adopts, List.idxOf?, List.findIdx?, List.findIdx?.go, isNilP, mapLook, mapGet, keyGet, adopts, List.lookup, rH, eL, c2', eg, ew]
    · have c2' : 60 < (l.length : Int) := by omega
      refine cvFA_R (mf := Mf.f7) rfl rfl (by kernel_rfl) ?_
      simp only [Mf.f7]
      simp [beqI, bneI, mm_min2, mm_max2, mm_min3, mm_max3, startE, lkE, lkX, lkE_rest, sx, substE, opVA, objs0, List.replicate, XA_seq, XA_region, XOA_go, goE_someA, opV, ev, putA, layAll, XOA_nil, XA_skip_seq, XA_skip_nil, XOA_gd, goG_tA, goG_uA, binV, bi_add, bi_sub, bi_mul, bi_quo, bi_rem, bi_eql, bi_neq, bi_lss, bi_leq, bi_gtr, bi_geq, bi_shl, bi_shr, bi_and, bi_or, bi_xor, unV, XA_ret_nil, XA_ret_cons, endFA_r, endFA_n, endTA_r, endTA_n, endRA_r, endRA_n, endEA_r, endEA_n, List.take, fltR, resultsA, resAs, resA, XA_block, XA_cond, pickX_t, pickX_f, pickX_b, XA_skip_blk, XA_skip_lp, XA_exit_seq, XA_exit_lp, XA_exit_blk, XA_exit_nil, load1, Ev.loadCells, objCells, bodyCells, setCells, AV.flat, AV.flat1, backR, backV, backCell, mapO, AV.cells, AV.atom, AV.tree, fillV, repeatL, treeCell, freezeAll, eqCells, callV_T, callV_F, passN, passV, passCell, srcCells, sliceBounds, hiB, loB, thenQ_nA, thenQ_xA, thenQ_rA, runK_nA, runK_xA, runK_rA, wrap_i64, wrap_u64, wrap_u32, wrap_u8, wrap_u16, callV_O, okIds, passObjs, passBody, backObjs, backBody, adopts, List.idxOf?, List.findIdx?, List.findIdx?.go, isNilP, mapLook, mapGet, keyGet, adopts, List.lookup, rH, eL, c2', ew]
  · have c1' : lightC ds = false := by simpa using c1
    rw [c1'] at eL
    refine cvFA_R (mf := Mf.f7) rfl rfl (by kernel_rfl) ?_
    simp only [Mf.f7]
    simp [beqI, bneI, mm_min2, mm_max2, mm_min3, mm_max3, startE, lkE, lkX, lkE_rest, sx, substE, opVA, objs0, List.replicate, XA_seq, XA_region, XOA_go, goE_someA, opV, ev, putA, layAll, XOA_nil, XA_skip_seq, XA_skip_nil, XOA_gd, goG_tA, goG_uA, binV, bi_add, bi_sub, bi_mul, bi_quo, bi_rem, bi_eql, bi_neq, bi_lss, bi_leq, bi_gtr, bi_geq, bi_shl, bi_shr, bi_and, bi_or, bi_xor, unV, XA_ret_nil, XA_ret_cons, endFA_r, endFA_n, endTA_r, endTA_n, endRA_r, endRA_n, endEA_r, endEA_n, List.take, fltR, resultsA, resAs, resA, XA_block, XA_cond, pickX_t, pickX_f, pickX_b, XA_skip_blk, XA_skip_lp, XA_exit_seq, XA_exit_lp, XA_exit_blk, XA_exit_nil, load1, Ev.loadCells, objCells, bodyCells, setCells, AV.flat, AV.flat1, backR, backV, backCell, mapO, AV.cells, AV.atom, AV.tree, fillV, repeatL, treeCell, freezeAll, eqCells, callV_T, callV_F, passN, passV, passCell, srcCells, sliceBounds, hiB, loB, thenQ_nA, thenQ_xA, thenQ_rA, runK_nA, runK_xA, runK_rA, wrap_i64, wrap_u64, wrap_u32, wrap_u8, wrap_u16, callV_O, okIds, passObjs, passBody, backObjs, backBody, adopts, List.idxOf?, List.findIdx?, List.findIdx?.go, isNilP, mapLook, mapGet, keyGet, adopts, List.lookup, eL, ew]
theorem baseRows_law (l : List AV) (h : RDargs [gCat, .slice gCh] l) : ∃ H1, cfT tabB 7 l [] = some (.bool true, H1) := by
  obtain ⟨x, r, rfl, hx, y, r2, rfl, hy, rfl⟩ := h
  obtain ⟨ds, m, rfl, hC, hm⟩ := rdarg_cat hx
  obtain ⟨l, rfl, hl⟩ := rdarg_chs hy
  exact cvF_bool (baRows_ev ds m l hC hl)
theorem baseRows_lifted (os : Os) (started : os.Started) (H : Type) (enc : TypeId × Value → H) :
    ReturnsInHanded {} Try.checked os 7 .any (Rows.baseRowsSpec.pre6 enc Try.prog Try.f7 Rows.baseRowsRow.domain false) (Rows.baseRowsSpec.post enc Try.prog Try.f7 false true false false) := by
  refine returnsInHanded_of_change (C := Try.checked) Try.own started (by kernel_rfl) Try.func7
    (ChangeSpec.witness6 (enc := enc) (C := Try.checked) false ⟨#[], #[.agg #[.slice none 0 0, .int .i64 0] , .slice none 0 0], []⟩ 8 (by kernel_rfl) (by kernel_rfl) (by kernel_rfl) (by kernel_rfl)) ?_
  intro W base args ds gs before hval hW hcnd _
  have hval' : ∀ (j : Nat) (t : TypeId) (v : Value), Try.f7.params.toList[j]? = some t → args[j]? = some v → Value.okWide Try.prog W .any base t v := fun j t v h1 h2 => hval j t v (by simpa using h1) h2
  obtain ⟨p, q, hA, hV, hpq, _, _⟩ := id hW
  have hg : gtsB Try.prog [gCat, .slice gCh] Try.f7.params.toList = true := by kernel_rfl
  refine (law_calls' tabB_ok hg baseRows_law hval' hA).mono fun e W' ⟨he, hb⟩ => ?_
  subst he
  refine ⟨_, rfl, post_true Try.laidOut (rt := 4) (fun ds h => ?_) rfl (by kernel_rfl) (by kernel_rfl) (by kernel_rfl) hW hb⟩
  match ds, h with
  | [_, _], _ => rfl
theorem baseRows_holds : Rows.BaseRowsSaid :=
  OpenClaim.holds_of_wide 7 Try.f7 rfl rfl rfl rfl rfl rfl rfl ⟨rfl, rfl, rfl, rfl, rfl⟩ rfl rfl rfl rfl rfl (by kernel_rfl) Try.func7 (by kernel_rfl)
    (of_decide_eq_true (by kernel_rfl)) (by unfold Func.isWrapper; first | (rw [if_pos (by decide +kernel)]; kernel_rfl) | (rw [if_neg (by decide +kernel)]; exact ⟨rfl, rfl⟩))
    (fun os started H enc _ => baseRows_lifted os started H enc)
end Go.Proofs.Ytmnafjgkhhdidaa
