/- What was done is undone, from the last on: the rows are those that they were each time; what is refused changes nothing. -/
import Derived.Test.YtmnafjgkhhdidaaBaK
set_option linter.unusedSimpArgs false
set_option linter.unusedVariables false
set_option maxHeartbeats 16000000
set_option maxRecDepth 100000
namespace Go.Proofs.Ytmnafjgkhhdidaa
open Go.Ev
def wasC (acc : Past) : List AV := acc.map fun p => rW (srt p.2)
def backS (ds : List Dm) (m : Int) (S : Bs) (acc : Past) : Nat → Bs
  | 0 => S
  | j + 1 => (doS ds m (backS ds m S acc j) (!(acc[acc.length - 1 - j]?.map (·.1.1)).getD false) ((acc[acc.length - 1 - j]?.map (·.1.2)).getD rw0)).2
theorem backS_RB {ds : List Dm} {m : Int} {S : Bs} {acc : Past} {L : List Rw} (h : RB S L) (hp : okPast ds m acc L) : ∀ j, j ≤ acc.length → RB (backS ds m S acc j) (bagAt acc L (acc.length - j))
  | 0, _ => by
    have : bagAt acc L (acc.length - 0) = L := by unfold bagAt; rw [List.getElem?_eq_none (by omega)]; rfl
    rw [this]; exact h
  | j + 1, hj => by
    have ih := backS_RB h hp j (by omega)
    have hk : acc.length - 1 - j < acc.length := by omega
    obtain ⟨s1, s2⟩ := hp.st _ hk
    rw [show acc.length - 1 - j + 1 = acc.length - j by omega] at s2
    rw [s2] at ih
    obtain ⟨g1, g2⟩ := hp.g _ (List.getElem_mem hk)
    have hu := undo_back s1 g1
    have hd := (doS_R ds m (!acc[acc.length - 1 - j].1.1) ih g2).2
    have hb : bagAt acc L (acc.length - (j + 1)) = acc[acc.length - 1 - j].2 := by
      unfold bagAt
      rw [show acc.length - (j + 1) = acc.length - 1 - j by omega, List.getElem?_eq_getElem hk]; rfl
    rw [hb]
    have e1 : (acc[acc.length - 1 - j]?.map (·.1.1)).getD false = acc[acc.length - 1 - j].1.1 := by rw [List.getElem?_eq_getElem hk]; rfl
    have e2 : (acc[acc.length - 1 - j]?.map (·.1.2)).getD rw0 = acc[acc.length - 1 - j].1.2 := by rw [List.getElem?_eq_getElem hk]; rfl
    show RB (doS ds m (backS ds m S acc j) _ _).2 _
    rw [e1, e2]
    exact ⟨hd.ib, hd.p.trans hu.2⟩
theorem baBack_ev (ds : List Dm) (m : Int) (l : List Ch) (hC : okC ds) (hl : okH l) : cvF tabB 4 [.agg [.ro ds.length (flatD ds), .int .i64 m], rH l] = some (.bool true) := by
  have eL := cvFB (cvFS (lightCat_ev ds m))
  have eg := bgood_ev ds m hC
  have ew := wake_ev
  by_cases c1 : lightC ds = true
  · rw [c1] at eL
    by_cases c2 : l.length ≤ 60
    · have c2' : ¬ 60 < (l.length : Int) := by omega
      by_cases g : goodC ds m = true
      · rw [g] at eg
        have en := cfB (cfS (new_cf ds m hC g))
        have hRB := fun i (h : i ≤ l.length) => seq_RB ds m l hl i h
        have hdo := fun i (h : i < l.length) => do_E ds m l[i].1 hC (hRB i (by omega)).1 (hl _ (List.getElem_mem h)) (by have := (hRB i (by omega)).2.1; omega)
        have hsc := fun i (h : i < l.length) => seqC_succ ds m l i h
        have hP := fun i (h : i ≤ l.length) => seqP_ok ds m l hl c2 i h
        have hPs := fun i (h : i < l.length) => seqP_succ ds m l i h
        have hPf := fun i (h : i ≤ l.length) => seqP_fst ds m l i h
        have hrows := fun i (h : i ≤ l.length) => rows_R ds m (hRB i h).1 (by have := (hRB i h).2.1; omega)
        have hd7 := fun i (h : i < l.length) => dropH l i h
        have hfl := flatH_len l
        have hz : seqC ds m l 0 = bs0 := rfl
        have hz2 : (seqP ds m l 0).2 = [] := rfl
        simp only [rH]
        generalize hfH : flatH l = fl at *
        refine cvFA_R (mf := Mf.f4) rfl rfl (by kernel_rfl) ?_
        simp only [Mf.f4]
        simp only [rowC, chC, bV, bM] at en
        simp [beqI, bneI, mm_min2, mm_max2, mm_min3, mm_max3, startE, lkE, lkX, lkE_rest, sx, substE, opVA, objs0, List.replicate, XA_seq, XA_region, XOA_go, goE_someA, opV, ev, putA, layAll, XOA_nil, XA_skip_seq, XA_skip_nil, XOA_gd, goG_tA, goG_uA, binV, bi_add, bi_sub, bi_mul, bi_quo, bi_rem, bi_eql, bi_neq, bi_lss, bi_leq, bi_gtr, bi_geq, bi_shl, bi_shr, bi_and, bi_or, bi_xor, unV, XA_ret_nil, XA_ret_cons, endFA_r, endFA_n, endTA_r, endTA_n, endRA_r, endRA_n, endEA_r, endEA_n, List.take, fltR, resultsA, resAs, resA, XA_block, XA_cond, pickX_t, pickX_f, pickX_b, XA_skip_blk, XA_skip_lp, XA_exit_seq, XA_exit_lp, XA_exit_blk, XA_exit_nil, load1, Ev.loadCells, objCells, bodyCells, setCells, AV.flat, AV.flat1, backR, backV, backCell, mapO, AV.cells, AV.atom, AV.tree, fillV, repeatL, treeCell, freezeAll, eqCells, callV_T, callV_F, passN, passV, passCell, srcCells, sliceBounds, hiB, loB, thenQ_nA, thenQ_xA, thenQ_rA, runK_nA, runK_xA, runK_rA, wrap_i64, wrap_u64, wrap_u32, wrap_u8, wrap_u16, callV_O, okIds, passObjs, passBody, backObjs, backBody, adopts, List.idxOf?, List.findIdx?, List.findIdx?.go, isNilP, mapLook, mapGet, keyGet, adopts, List.lookup, callV_R, backBody, eL, c2', eg, en]
        refine XA_for (fun i => ⟨[(1, .ro l.length fl), (5, .ptr 1 0 0), (6, .own 3 0 0 (seqP ds m l i).2.length 7), (7, .own 4 0 0 (seqP ds m l i).2.length 1), (8, .int .i64 i)], [⟨0, .none⟩, bV 0 2 0 ds m (seqC ds m l i), bM 0 (seqC ds m l i), ⟨0, .row true 7 (flatH ((seqP ds m l i).2.map (·.1)))⟩, ⟨0, .row true 1 (wasC (seqP ds m l i).2)⟩]⟩)
          (fun _ => True) l.length 0 (Nat.zero_le _) (by simp [AV.atom, normA, lkE, fixObjs, fixBody, fixV, fixCell, bV, bM, hz, hz2, flatH, wasC]) trivial ?_ ?_
        · intro i _ hi _
          have hi' : (i : Int) < l.length := by omega
          obtain ⟨Ha, ea⟩ := hdo i hi
          obtain ⟨Hb, eb⟩ := hrows i (by omega)
          obtain ⟨Hc, ec⟩ := hrows (i + 1) (by omega)
          obtain ⟨_, hPl⟩ := hP i (by omega)
          have hs := hsc i hi
          have hps := hPs i hi
          have hpf := hPf i (by omega)
          have hd := hd7 i hi
          have hws := wrap_succ i l.length hi (by omega)
          have hlenL := (hRB i (by omega)).2.1
          have esame := cvFB (cvFS (rwsame_ev (srt (seqL ds m l i)) (by rw [srt_len]; omega)))
          rw [← hs] at ea
          have hll := seqL_succ ds m l i hi
          unfold stepB at hps
          rw [hpf] at hps
          have hf7 := flatH_len ((seqP ds m l i).2.map (·.1))
          rw [List.length_map] at hf7
          generalize seqC ds m l (i + 1) = T' at *
          generalize seqC ds m l i = T at *
          generalize seqP ds m l (i + 1) = P' at *
          generalize seqP ds m l i = Q at *
          obtain ⟨P1, acc⟩ := Q
          dsimp only at hPl hf7 hps ⊢
          by_cases c : errL ds m (seqL ds m l i) l[i].1 l[i].2 = 0
          · rw [if_pos c] at hps
            subst hps
            rw [c] at ea
            have hlw : (wasC acc).length = acc.length := by simp [wasC]
            have hw1 : wasC (acc ++ [(l[i], seqL ds m l i)]) = wasC acc ++ [rW (srt (seqL ds m l i))] := by simp [wasC]
            have hh1 : flatH ((acc ++ [(l[i], seqL ds m l i)]).map (·.1)) = flatH (acc.map (·.1)) ++ chC l[i].1 l[i].2 := by simp [flatH]
            have hn1 : (acc ++ [(l[i], seqL ds m l i)]).length = acc.length + 1 := by simp
            simp only [hn1, hw1, hh1]
            generalize l[i] = dR at *
            obtain ⟨db, R⟩ := dR
            generalize srt (seqL ds m l i) = K at *
            generalize srt (seqL ds m l (i + 1)) = K' at *
            generalize flatH (acc.map (·.1)) = A at *
            generalize wasC acc = B at *
            generalize acc.length = n at *
            have q1 : (n + 1) * 32 ≤ 140737488355328 := by omega
            have q2 : (n + 1) * 24 ≤ 140737488355328 := by omega
            have q3 : n + 1 < 4611686018427387904 := by omega
            simp only [rowC, chC, bV, bM, rW, List.cons_append, List.nil_append] at ea eb hd ⊢
            simp [beqI, bneI, mm_min2, mm_max2, mm_min3, mm_max3, startE, lkE, lkX, lkE_rest, sx, substE, opVA, objs0, List.replicate, XA_seq, XA_region, XOA_go, goE_someA, opV, ev, putA, layAll, XOA_nil, XA_skip_seq, XA_skip_nil, XOA_gd, goG_tA, goG_uA, binV, bi_add, bi_sub, bi_mul, bi_quo, bi_rem, bi_eql, bi_neq, bi_lss, bi_leq, bi_gtr, bi_geq, bi_shl, bi_shr, bi_and, bi_or, bi_xor, unV, XA_ret_nil, XA_ret_cons, endFA_r, endFA_n, endTA_r, endTA_n, endRA_r, endRA_n, endEA_r, endEA_n, List.take, fltR, resultsA, resAs, resA, XA_block, XA_cond, pickX_t, pickX_f, pickX_b, XA_skip_blk, XA_skip_lp, XA_exit_seq, XA_exit_lp, XA_exit_blk, XA_exit_nil, load1, Ev.loadCells, objCells, bodyCells, setCells, AV.flat, AV.flat1, backR, backV, backCell, mapO, AV.cells, AV.atom, AV.tree, fillV, repeatL, treeCell, freezeAll, eqCells, callV_T, callV_F, passN, passV, passCell, srcCells, sliceBounds, hiB, loB, thenQ_nA, thenQ_xA, thenQ_rA, runK_nA, runK_xA, runK_rA, wrap_i64, wrap_u64, wrap_u32, wrap_u8, wrap_u16, callV_O, okIds, passObjs, passBody, backObjs, backBody, adopts, List.idxOf?, List.findIdx?, List.findIdx?.go, isNilP, mapLook, mapGet, keyGet, adopts, List.lookup, AV.atom, normA, lkE, fixObjs, fixBody, fixV, fixCell, hi', hi, hd, hfl, ea, eb, hws, q1, q2, q3, hf7, hlw]
          · rw [if_neg c] at hps
            subst hps
            have hnx : seqL ds m l (i + 1) = seqL ds m l i := by rw [hll]; unfold nxtL; rw [if_neg c]
            rw [hnx] at ec
            generalize errL ds m (seqL ds m l i) l[i].1 l[i].2 = er at *
            generalize l[i] = dR at *
            obtain ⟨db, R⟩ := dR
            generalize srt (seqL ds m l i) = K at *
            generalize flatH (acc.map (·.1)) = A at *
            generalize wasC acc = B at *
            generalize acc.length = n at *
            simp only [rowC, chC, bV, bM, rW, List.cons_append, List.nil_append] at ea eb ec esame hd ⊢
            simp [beqI, bneI, mm_min2, mm_max2, mm_min3, mm_max3, startE, lkE, lkX, lkE_rest, sx, substE, opVA, objs0, List.replicate, XA_seq, XA_region, XOA_go, goE_someA, opV, ev, putA, layAll, XOA_nil, XA_skip_seq, XA_skip_nil, XOA_gd, goG_tA, goG_uA, binV, bi_add, bi_sub, bi_mul, bi_quo, bi_rem, bi_eql, bi_neq, bi_lss, bi_leq, bi_gtr, bi_geq, bi_shl, bi_shr, bi_and, bi_or, bi_xor, unV, XA_ret_nil, XA_ret_cons, endFA_r, endFA_n, endTA_r, endTA_n, endRA_r, endRA_n, endEA_r, endEA_n, List.take, fltR, resultsA, resAs, resA, XA_block, XA_cond, pickX_t, pickX_f, pickX_b, XA_skip_blk, XA_skip_lp, XA_exit_seq, XA_exit_lp, XA_exit_blk, XA_exit_nil, load1, Ev.loadCells, objCells, bodyCells, setCells, AV.flat, AV.flat1, backR, backV, backCell, mapO, AV.cells, AV.atom, AV.tree, fillV, repeatL, treeCell, freezeAll, eqCells, callV_T, callV_F, passN, passV, passCell, srcCells, sliceBounds, hiB, loB, thenQ_nA, thenQ_xA, thenQ_rA, runK_nA, runK_xA, runK_rA, wrap_i64, wrap_u64, wrap_u32, wrap_u8, wrap_u16, callV_O, okIds, passObjs, passBody, backObjs, backBody, adopts, List.idxOf?, List.findIdx?, List.findIdx?.go, isNilP, mapLook, mapGet, keyGet, adopts, List.lookup, AV.atom, normA, lkE, fixObjs, fixBody, fixV, fixCell, hi', hi, hd, hfl, ea, eb, ec, esame, hws, c]
        · intro _
          obtain ⟨hOK, hPl⟩ := hP l.length (Nat.le_refl _)
          have hRB0 := (hRB l.length (Nat.le_refl _)).1
          have hRBl := (hRB l.length (Nat.le_refl _)).2.1
          generalize seqC ds m l l.length = T at *
          generalize (seqP ds m l l.length).2 = acc at *
          generalize seqL ds m l l.length = LL at *
          have hU := backS_RB hRB0 hOK
          have hlw : (wasC acc).length = acc.length := by simp [wasC]
          have hf7 := flatH_len (acc.map (·.1))
          rw [List.length_map] at hf7
          have hLl : LL.length ≤ 60 := by omega
          have hbag : ∀ j, j ≤ acc.length → (bagAt acc LL (acc.length - j)).length ≤ 1000000 := by
            intro j _
            unfold bagAt
            cases hg : acc[acc.length - j]? with
            | none => simp only [Option.map_none, Option.getD_none]; omega
            | some p => have := hOK.le p (List.mem_of_getElem? hg); simp only [Option.map_some, Option.getD_some]; omega
          have hstep : ∀ j (hj : j < acc.length), ∃ (db : Bool) (R : Rw) (K : List Rw) (H H2 : List AObj) (rest : List AV), 
              (flatH (acc.map (·.1))).drop ((acc.length - 1 - j) * 7) = chC db R ++ rest ∧ (wasC acc)[acc.length - 1 - j]? = some (rW K) ∧ K.length ≤ 1000 ∧
              cfT tabB 18 [.ptr 0 0 0, .agg (chC db R)] [bV 0 1 0 ds m (backS ds m T acc j), bM 0 (backS ds m T acc j)] = some (.bool true, [bV 0 1 0 ds m (backS ds m T acc (j + 1)), bM 0 (backS ds m T acc (j + 1))] ++ H) ∧
              cfT tabB 15 [.ptr 0 0 0] [bV 0 1 0 ds m (backS ds m T acc (j + 1)), bM 0 (backS ds m T acc (j + 1))] = some (rW K, [bV 0 1 0 ds m (backS ds m T acc (j + 1)), bM 0 (backS ds m T acc (j + 1))] ++ H2) := by
            intro j hj
            have hk : acc.length - 1 - j < acc.length := by omega
            obtain ⟨s1, s2⟩ := hOK.st _ hk
            rw [show acc.length - 1 - j + 1 = acc.length - j by omega] at s2
            obtain ⟨g1, g2⟩ := hOK.g _ (List.getElem_mem hk)
            have hu := undo_back s1 g1
            have hb : bagAt acc LL (acc.length - (j + 1)) = acc[acc.length - 1 - j].2 := by
              unfold bagAt
              rw [show acc.length - (j + 1) = acc.length - 1 - j by omega, List.getElem?_eq_getElem hk]; rfl
            obtain ⟨H, e1⟩ := undo_E ds m acc[acc.length - 1 - j].1.1 hC (hU j (by omega)) g2 (hbag j (by omega))
            have hUj := hU (j + 1) hj
            obtain ⟨H2, e2⟩ := rows_R ds m hUj (hbag (j + 1) hj)
            have hbl := hbag (j + 1) hj
            rw [hb] at e2 hbl
            rw [s2, hu.1] at e1
            have hbs : backS ds m T acc (j + 1) = (doS ds m (backS ds m T acc j) (!acc[acc.length - 1 - j].1.1) acc[acc.length - 1 - j].1.2).2 := by
              show (doS ds m (backS ds m T acc j) _ _).2 = _
              rw [List.getElem?_eq_getElem hk]; rfl
            rw [← hbs] at e1
            have hd := dropH (acc.map (·.1)) (acc.length - 1 - j) (by rw [List.length_map]; exact hk)
            rw [List.getElem_map] at hd
            refine ⟨_, _, srt acc[acc.length - 1 - j].2, H, H2, _, hd, ?_, ?_, by simpa using e1, e2⟩
            · unfold wasC; rw [List.getElem?_map, List.getElem?_eq_getElem hk]; rfl
            · rw [srt_len]; have := hOK.le _ (List.getElem_mem hk); omega
          have hend := hU acc.length (Nat.le_refl _)
          rw [Nat.sub_self, hOK.z] at hend
          obtain ⟨Hn, eN⟩ := len_R ds m hend
          obtain ⟨Hm, em⟩ := mass_R ds m hend
          have hz3 : backS ds m T acc 0 = T := rfl
          generalize hA : flatH (acc.map (·.1)) = A at *
          generalize hB : wasC acc = B at *
          generalize hn : acc.length = n at *
          have wn : IntKind.i64.wrap ((n : Int) - 1) = (n : Int) - 1 := wrap_i64 (by omega) (by omega)
          simp [beqI, bneI, mm_min2, mm_max2, mm_min3, mm_max3, startE, lkE, lkX, lkE_rest, sx, substE, opVA, objs0, List.replicate, XA_seq, XA_region, XOA_go, goE_someA, opV, ev, putA, layAll, XOA_nil, XA_skip_seq, XA_skip_nil, XOA_gd, goG_tA, goG_uA, binV, bi_add, bi_sub, bi_mul, bi_quo, bi_rem, bi_eql, bi_neq, bi_lss, bi_leq, bi_gtr, bi_geq, bi_shl, bi_shr, bi_and, bi_or, bi_xor, unV, XA_ret_nil, XA_ret_cons, endFA_r, endFA_n, endTA_r, endTA_n, endRA_r, endRA_n, endEA_r, endEA_n, List.take, fltR, resultsA, resAs, resA, XA_block, XA_cond, pickX_t, pickX_f, pickX_b, XA_skip_blk, XA_skip_lp, XA_exit_seq, XA_exit_lp, XA_exit_blk, XA_exit_nil, load1, Ev.loadCells, objCells, bodyCells, setCells, AV.flat, AV.flat1, backR, backV, backCell, mapO, AV.cells, AV.atom, AV.tree, fillV, repeatL, treeCell, freezeAll, eqCells, callV_T, callV_F, passN, passV, passCell, srcCells, sliceBounds, hiB, loB, thenQ_nA, thenQ_xA, thenQ_rA, runK_nA, runK_xA, runK_rA, wrap_i64, wrap_u64, wrap_u32, wrap_u8, wrap_u16, callV_O, okIds, passObjs, passBody, backObjs, backBody, adopts, List.idxOf?, List.findIdx?, List.findIdx?.go, isNilP, mapLook, mapGet, keyGet, adopts, List.lookup, AV.atom, normA, lkE, fixObjs, fixBody, fixV, fixCell, bV, bM, wn]
          refine XA_for (fun j => ⟨[(5, .ptr 1 0 0), (6, .own 3 0 0 n 7), (7, .own 4 0 0 n 1), (10, .int .i64 ((n : Int) - 1 - (j : Int)))], [⟨0, .none⟩, bV 0 2 0 ds m (backS ds m T acc j), bM 0 (backS ds m T acc j), ⟨0, .row true 7 A⟩, ⟨0, .row true 1 B⟩]⟩)
            (fun _ => True) n 0 (Nat.zero_le _) (by simp [AV.atom, normA, lkE, fixObjs, fixBody, fixV, fixCell, bV, bM, hz3]) trivial ?_ ?_
          · intro j _ hj _
            obtain ⟨db, R, K, H, H2, rest, k1, k2, k3, k4, k5⟩ := hstep j hj
            have esame := cvFB (cvFS (rwsame_ev K k3))
            generalize backS ds m T acc (j + 1) = U' at *
            generalize backS ds m T acc j = U at *
            have z1 : (0 : Int) ≤ (n : Int) - 1 - (j : Int) := by omega
            have z1' : (j : Int) ≤ (n : Int) - 1 := by omega
            have z2 : (n : Int) - 1 - (j : Int) < n := by omega
            have z3 : ((n : Int) - 1 - (j : Int)).toNat = n - 1 - j := by omega
            have z4 : IntKind.i64.wrap ((n : Int) - 1 - (j : Int) - 1) = (n : Int) - 1 - ((j : Int) + 1) := by rw [wrap_i64 (by omega) (by omega)]; omega
            have z5 : (n - 1 - j) * 7 + 7 ≤ A.length := by omega
            have z6 : n - 1 - j < B.length := by omega
            simp only [rowC, chC, bV, bM, rW, List.cons_append, List.nil_append] at k1 k2 k4 k5 esame ⊢
            generalize n - 1 - j = z at *
            simp [beqI, bneI, mm_min2, mm_max2, mm_min3, mm_max3, startE, lkE, lkX, lkE_rest, sx, substE, opVA, objs0, List.replicate, XA_seq, XA_region, XOA_go, goE_someA, opV, ev, putA, layAll, XOA_nil, XA_skip_seq, XA_skip_nil, XOA_gd, goG_tA, goG_uA, binV, bi_add, bi_sub, bi_mul, bi_quo, bi_rem, bi_eql, bi_neq, bi_lss, bi_leq, bi_gtr, bi_geq, bi_shl, bi_shr, bi_and, bi_or, bi_xor, unV, XA_ret_nil, XA_ret_cons, endFA_r, endFA_n, endTA_r, endTA_n, endRA_r, endRA_n, endEA_r, endEA_n, List.take, fltR, resultsA, resAs, resA, XA_block, XA_cond, pickX_t, pickX_f, pickX_b, XA_skip_blk, XA_skip_lp, XA_exit_seq, XA_exit_lp, XA_exit_blk, XA_exit_nil, load1, Ev.loadCells, objCells, bodyCells, setCells, AV.flat, AV.flat1, backR, backV, backCell, mapO, AV.cells, AV.atom, AV.tree, fillV, repeatL, treeCell, freezeAll, eqCells, callV_T, callV_F, passN, passV, passCell, srcCells, sliceBounds, hiB, loB, thenQ_nA, thenQ_xA, thenQ_rA, runK_nA, runK_xA, runK_rA, wrap_i64, wrap_u64, wrap_u32, wrap_u8, wrap_u16, callV_O, okIds, passObjs, passBody, backObjs, backBody, adopts, List.idxOf?, List.findIdx?, List.findIdx?.go, isNilP, mapLook, mapGet, keyGet, adopts, List.lookup, AV.atom, normA, lkE, fixObjs, fixBody, fixV, fixCell, z1, z1', z2, z3, z4, z5, k1, k2, k4, k5, esame]
          · intro _
            have z1 : ¬ (0 : Int) ≤ (n : Int) - 1 - (n : Int) := by omega
            have z1' : ¬ (n : Int) ≤ (n : Int) - 1 := by omega
            simp only [bV, bM] at eN em ⊢
            simp [beqI, bneI, mm_min2, mm_max2, mm_min3, mm_max3, startE, lkE, lkX, lkE_rest, sx, substE, opVA, objs0, List.replicate, XA_seq, XA_region, XOA_go, goE_someA, opV, ev, putA, layAll, XOA_nil, XA_skip_seq, XA_skip_nil, XOA_gd, goG_tA, goG_uA, binV, bi_add, bi_sub, bi_mul, bi_quo, bi_rem, bi_eql, bi_neq, bi_lss, bi_leq, bi_gtr, bi_geq, bi_shl, bi_shr, bi_and, bi_or, bi_xor, unV, XA_ret_nil, XA_ret_cons, endFA_r, endFA_n, endTA_r, endTA_n, endRA_r, endRA_n, endEA_r, endEA_n, List.take, fltR, resultsA, resAs, resA, XA_block, XA_cond, pickX_t, pickX_f, pickX_b, XA_skip_blk, XA_skip_lp, XA_exit_seq, XA_exit_lp, XA_exit_blk, XA_exit_nil, load1, Ev.loadCells, objCells, bodyCells, setCells, AV.flat, AV.flat1, backR, backV, backCell, mapO, AV.cells, AV.atom, AV.tree, fillV, repeatL, treeCell, freezeAll, eqCells, callV_T, callV_F, passN, passV, passCell, srcCells, sliceBounds, hiB, loB, thenQ_nA, thenQ_xA, thenQ_rA, runK_nA, runK_xA, runK_rA, wrap_i64, wrap_u64, wrap_u32, wrap_u8, wrap_u16, callV_O, okIds, passObjs, passBody, backObjs, backBody, adopts, List.idxOf?, List.findIdx?, List.findIdx?.go, isNilP, mapLook, mapGet, keyGet, adopts, List.lookup, AV.atom, normA, lkE, fixObjs, fixBody, fixV, fixCell, z1, z1', eN, em, ew, sumX, sumY]
      · have g' : goodC ds m = false := by simpa using g
        rw [g'] at eg
        refine cvFA_R (mf := Mf.f4) rfl rfl (by kernel_rfl) ?_
        simp only [Mf.f4]
        simp [beqI, bneI, mm_min2, mm_max2, mm_min3, mm_max3, startE, lkE, lkX, lkE_rest, sx, substE, opVA, objs0, List.replicate, XA_seq, XA_region, XOA_go, goE_someA, opV, ev, putA, layAll, XOA_nil, XA_skip_seq, XA_skip_nil, XOA_gd, goG_tA, goG_uA, binV, bi_add, bi_sub, bi_mul, bi_quo, bi_rem, bi_eql, bi_neq, bi_lss, bi_leq, bi_gtr, bi_geq, bi_shl, bi_shr, bi_and, bi_or, bi_xor, unV, XA_ret_nil, XA_ret_cons, endFA_r, endFA_n, endTA_r, endTA_n, endRA_r, endRA_n, endEA_r, endEA_n, List.take, fltR, resultsA, resAs, resA, XA_block, XA_cond, pickX_t, pickX_f, pickX_b, XA_skip_blk, XA_skip_lp, XA_exit_seq, XA_exit_lp, XA_exit_blk, XA_exit_nil, load1, Ev.loadCells, objCells, bodyCells, setCells, AV.flat, AV.flat1, backR, backV, backCell, mapO, AV.cells, AV.atom, AV.tree, fillV, repeatL, treeCell, freezeAll, eqCells, callV_T, callV_F, passN, passV, passCell, srcCells, sliceBounds, hiB, loB, thenQ_nA, thenQ_xA, thenQ_rA, runK_nA, runK_xA, runK_rA, wrap_i64, wrap_u64, wrap_u32, wrap_u8, wrap_u16, callV_O, okIds, passObjs, passBody, backObjs, backBody, adopts, List.idxOf?, List.findIdx?, List.findIdx?.go, isNilP, mapLook, mapGet, keyGet, adopts, List.lookup, rH, eL, c2', eg, ew]
    · have c2' : 60 < (l.length : Int) := by omega
      refine cvFA_R (mf := Mf.f4) rfl rfl (by kernel_rfl) ?_
      simp only [Mf.f4]
      simp [beqI, bneI, mm_min2, mm_max2, mm_min3, mm_max3, startE, lkE, lkX, lkE_rest, sx, substE, opVA, objs0, List.replicate, XA_seq, XA_region, XOA_go, goE_someA, opV, ev, putA, layAll, XOA_nil, XA_skip_seq, XA_skip_nil, XOA_gd, goG_tA, goG_uA, binV, bi_add, bi_sub, bi_mul, bi_quo, bi_rem, bi_eql, bi_neq, bi_lss, bi_leq, bi_gtr, bi_geq, bi_shl, bi_shr, bi_and, bi_or, bi_xor, unV, XA_ret_nil, XA_ret_cons, endFA_r, endFA_n, endTA_r, endTA_n, endRA_r, endRA_n, endEA_r, endEA_n, List.take, fltR, resultsA, resAs, resA, XA_block, XA_cond, pickX_t, pickX_f, pickX_b, XA_skip_blk, XA_skip_lp, XA_exit_seq, XA_exit_lp, XA_exit_blk, XA_exit_nil, load1, Ev.loadCells, objCells, bodyCells, setCells, AV.flat, AV.flat1, backR, backV, backCell, mapO, AV.cells, AV.atom, AV.tree, fillV, repeatL, treeCell, freezeAll, eqCells, callV_T, callV_F, passN, passV, passCell, srcCells, sliceBounds, hiB, loB, thenQ_nA, thenQ_xA, thenQ_rA, runK_nA, runK_xA, runK_rA, wrap_i64, wrap_u64, wrap_u32, wrap_u8, wrap_u16, callV_O, okIds, passObjs, passBody, backObjs, backBody, adopts, List.idxOf?, List.findIdx?, List.findIdx?.go, isNilP, mapLook, mapGet, keyGet, adopts, List.lookup, rH, eL, c2', ew]
  · have c1' : lightC ds = false := by simpa using c1
    rw [c1'] at eL
    refine cvFA_R (mf := Mf.f4) rfl rfl (by kernel_rfl) ?_
    simp only [Mf.f4]
    simp [beqI, bneI, mm_min2, mm_max2, mm_min3, mm_max3, startE, lkE, lkX, lkE_rest, sx, substE, opVA, objs0, List.replicate, XA_seq, XA_region, XOA_go, goE_someA, opV, ev, putA, layAll, XOA_nil, XA_skip_seq, XA_skip_nil, XOA_gd, goG_tA, goG_uA, binV, bi_add, bi_sub, bi_mul, bi_quo, bi_rem, bi_eql, bi_neq, bi_lss, bi_leq, bi_gtr, bi_geq, bi_shl, bi_shr, bi_and, bi_or, bi_xor, unV, XA_ret_nil, XA_ret_cons, endFA_r, endFA_n, endTA_r, endTA_n, endRA_r, endRA_n, endEA_r, endEA_n, List.take, fltR, resultsA, resAs, resA, XA_block, XA_cond, pickX_t, pickX_f, pickX_b, XA_skip_blk, XA_skip_lp, XA_exit_seq, XA_exit_lp, XA_exit_blk, XA_exit_nil, load1, Ev.loadCells, objCells, bodyCells, setCells, AV.flat, AV.flat1, backR, backV, backCell, mapO, AV.cells, AV.atom, AV.tree, fillV, repeatL, treeCell, freezeAll, eqCells, callV_T, callV_F, passN, passV, passCell, srcCells, sliceBounds, hiB, loB, thenQ_nA, thenQ_xA, thenQ_rA, runK_nA, runK_xA, runK_rA, wrap_i64, wrap_u64, wrap_u32, wrap_u8, wrap_u16, callV_O, okIds, passObjs, passBody, backObjs, backBody, adopts, List.idxOf?, List.findIdx?, List.findIdx?.go, isNilP, mapLook, mapGet, keyGet, adopts, List.lookup, eL, ew]
theorem baseBack_law (l : List AV) (h : RDargs [gCat, .slice gCh] l) : ∃ H1, cfT tabB 4 l [] = some (.bool true, H1) := by
  obtain ⟨x, r, rfl, hx, y, r2, rfl, hy, rfl⟩ := h
  obtain ⟨ds, m, rfl, hC, hm⟩ := rdarg_cat hx
  obtain ⟨l, rfl, hl⟩ := rdarg_chs hy
  exact cvF_bool (baBack_ev ds m l hC hl)
theorem baseBack_lifted (os : Os) (started : os.Started) (H : Type) (enc : TypeId × Value → H) :
    ReturnsInHanded {} Try.checked os 4 .any (Rows.baseBackSpec.pre6 enc Try.prog Try.f4 Rows.baseBackRow.domain false) (Rows.baseBackSpec.post enc Try.prog Try.f4 false true false false) := by
  refine returnsInHanded_of_change (C := Try.checked) Try.own started (by kernel_rfl) Try.func4
    (ChangeSpec.witness6 (enc := enc) (C := Try.checked) false ⟨#[], #[.agg #[.slice none 0 0, .int .i64 0] , .slice none 0 0], []⟩ 8 (by kernel_rfl) (by kernel_rfl) (by kernel_rfl) (by kernel_rfl)) ?_
  intro W base args ds gs before hval hW hcnd _
  have hval' : ∀ (j : Nat) (t : TypeId) (v : Value), Try.f4.params.toList[j]? = some t → args[j]? = some v → Value.okWide Try.prog W .any base t v := fun j t v h1 h2 => hval j t v (by simpa using h1) h2
  obtain ⟨p, q, hA, hV, hpq, _, _⟩ := id hW
  have hg : gtsB Try.prog [gCat, .slice gCh] Try.f4.params.toList = true := by kernel_rfl
  refine (law_calls' tabB_ok hg baseBack_law hval' hA).mono fun e W' ⟨he, hb⟩ => ?_
  subst he
  refine ⟨_, rfl, post_true Try.laidOut (rt := 4) (fun ds h => ?_) rfl (by kernel_rfl) (by kernel_rfl) (by kernel_rfl) hW hb⟩
  match ds, h with
  | [_, _], _ => rfl
theorem baseBack_holds : Rows.BaseBackSaid :=
  OpenClaim.holds_of_wide 4 Try.f4 rfl rfl rfl rfl rfl rfl rfl ⟨rfl, rfl, rfl, rfl, rfl⟩ rfl rfl rfl rfl rfl (by kernel_rfl) Try.func4 (by kernel_rfl)
    (of_decide_eq_true (by kernel_rfl)) (by unfold Func.isWrapper; first | (rw [if_pos (by decide +kernel)]; kernel_rfl) | (rw [if_neg (by decide +kernel)]; exact ⟨rfl, rfl⟩))
    (fun os started H enc _ => baseBack_lifted os started H enc)
end Go.Proofs.Ytmnafjgkhhdidaa
