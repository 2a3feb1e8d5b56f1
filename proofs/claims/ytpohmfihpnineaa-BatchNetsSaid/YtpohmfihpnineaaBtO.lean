/- What changes come to: the walk. -/
import Derived.Test.YtpohmfihpnineaaBtN
set_option linter.unusedSimpArgs false
set_option linter.unusedVariables false
set_option maxHeartbeats 16000000
set_option maxRecDepth 100000
namespace Go.Proofs.Ytpohmfihpnineaa
open Go.Ev
theorem nC_bound (l : List Ch) (r : Rw) : -(l.length : Int) ≤ nC l r ∧ nC l r ≤ l.length := by
  unfold nC
  have h1 := List.count_le_length (a := (false, r)) (l := l)
  have h2 := List.count_le_length (a := (true, r)) (l := l)
  omega
theorem flatH_rep (l : List Ch) (n : Nat) (b : Bool) (r : Rw) : flatH (l ++ List.replicate (n + 1) (b, r)) = flatH (l ++ List.replicate n (b, r)) ++ chC b r := by
  rw [List.replicate_succ', ← List.append_assoc, flatH_append]; simp [flatH]
theorem stepN_none {S : Nat × List Me} {c : Ch} (h : findE c.2 S.2 0 = none) : stepN S c = (S.1 + 1, S.2 ++ [(c.2, sgn c.1, S.1)]) := by unfold stepN; rw [h]
theorem stepN_some {S : Nat × List Me} {c : Ch} {i : Nat} {e : Me} (h : findE c.2 S.2 0 = some (i, e)) : stepN S c = (S.1, modM S.2 i (e.2.1 + sgn c.1)) := by unfold stepN; rw [h]
def outN (l : List Ch) (K : List Rw) (j : Nat) : List Ch := (K.take j).flatMap (netOf (nC l))
theorem outN_succ (l : List Ch) (K : List Rw) (j : Nat) (h : j < K.length) : outN l K (j + 1) = outN l K j ++ List.replicate (nC l K[j]).natAbs (decide (nC l K[j] < 0), K[j]) := by
  unfold outN; rw [List.take_succ_eq_append_getElem h, List.flatMap_append]; simp only [List.flatMap_cons, List.flatMap_nil, List.append_nil]; rfl
theorem outN_len (l : List Ch) (K : List Rw) (j : Nat) : (outN l K j).length ≤ (K.flatMap (netOf (nC l))).length := by
  unfold outN
  have : K.flatMap (netOf (nC l)) = (K.take j).flatMap (netOf (nC l)) ++ (K.drop j).flatMap (netOf (nC l)) := by rw [← List.flatMap_append, List.take_append_drop]
  rw [this, List.length_append]; omega
theorem net_look {l : List Ch} {r : Rw} (h : r ∈ keysN l) : ∃ i b, mfind ks6 (rowC r) ((runN l).2.map encE) 0 = some (some (i, (rowC r, nC l r, b))) := by
  have hI := runN_in l
  unfold keysN at h
  have hlk := mfind_enc r (runN l).2 0
  cases hf : findE r (runN l).2 0 with
  | none =>
    obtain ⟨e, he, h2⟩ := List.mem_map.1 h
    exact absurd h2 (findE_none hf e he)
  | some p =>
    obtain ⟨i, e⟩ := p
    rw [hf] at hlk
    obtain ⟨_, hg, hke⟩ := findE_get hf
    have hv := hI.va e (List.mem_of_getElem? hg)
    rw [hke] at hv
    obtain ⟨er, v, s⟩ := e
    simp only at hke hv
    subst hke
    subst hv
    exact ⟨i, s, hlk⟩
theorem net_ev (l : List Ch) (hl : okH l) (hn : l.length ≤ 100) : cvT tabC 11 [rH l] = some (rH (netL l)) := by
  have hd := fun i (h : i < l.length) => dropH l i h
  have hfl := flatH_len l
  have hI := fun i => runN_in (l.take i)
  have hs := fun i (h : i < l.length) => runN_succ l i h
  have hz : runN [] = (0, []) := rfl
  have hfin := runN_in l
  have esrt := cvTC (cvTB (sort_ev (keys_ok hl) (by unfold keysN; rw [List.length_map]; have := hfin.le; omega)))
  have hTL : l.take l.length = l := List.take_length
  unfold netL
  generalize hNL : (srt (keysN l)).flatMap (netOf (nC l)) = NL
  simp only [rH]
  generalize hF : flatH l = fl at *
  refine cvTA_R (mf := Mf.f11) rfl rfl (by kernel_rfl) ?_
  simp only [Mf.f11]
  simp [beqI, bneI, mm_min2, mm_max2, mm_min3, mm_max3, startE, lkE, lkX, lkE_rest, sx, substE, opVA, objs0, List.replicate, XA_seq, XA_region, XOA_go, goE_someA, opV, ev, putA, layAll, XOA_nil, XA_skip_seq, XA_skip_nil, XOA_gd, goG_tA, goG_uA, binV, bi_add, bi_sub, bi_mul, bi_quo, bi_rem, bi_eql, bi_neq, bi_lss, bi_leq, bi_gtr, bi_geq, bi_shl, bi_shr, bi_and, bi_or, bi_xor, unV, XA_ret_nil, XA_ret_cons, endFA_r, endFA_n, endTA_r, endTA_n, endRA_r, endRA_n, endEA_r, endEA_n, List.take, fltR, resultsA, resAs, resA, XA_block, XA_cond, pickX_t, pickX_f, pickX_b, XA_skip_blk, XA_skip_lp, XA_exit_seq, XA_exit_lp, XA_exit_blk, XA_exit_nil, load1, Ev.loadCells, objCells, bodyCells, setCells, AV.flat, AV.flat1, backR, backV, backCell, mapO, AV.cells, AV.atom, AV.tree, fillV, repeatL, treeCell, freezeAll, eqCells, callV_T, callV_F, passN, passV, passCell, srcCells, sliceBounds, hiB, loB, thenQ_nA, thenQ_xA, thenQ_rA, runK_nA, runK_xA, runK_rA, wrap_i64, wrap_u64, wrap_u32, wrap_u8, wrap_u16, callV_O, okIds, passObjs, passBody, backObjs, backBody, adopts, List.idxOf?, List.findIdx?, List.findIdx?.go, isNilP, mapLook, mapGet, keyGet, adopts, List.lookup]
  refine XA_for (fun i => ⟨[(3, .mp 0 0), (4, .own 1 0 0 (runN (l.take i)).2.length 6), (14, .ro l.length fl), (15, .int .i64 l.length), (16, .int .i64 i)], [⟨0, .map (runN (l.take i)).1 ((runN (l.take i)).2.map encE)⟩, ⟨0, .row true 6 (flatW ((runN (l.take i)).2.map (·.1)))⟩, ⟨0, .none⟩, ⟨0, .none⟩, ⟨0, .none⟩]⟩)
    (fun _ => True) l.length 0 (Nat.zero_le _) (by simp [AV.atom, normA, lkE, fixObjs, fixBody, fixV, fixCell, hz, flatW]) trivial ?_ ?_
  · intro i _ hi _
    have hi' : (i : Int) < l.length := by omega
    have d := hd i hi
    have ws := wrap_succ i l.length hi (by omega)
    have hIi := hI i
    have hsi := hs i hi
    have hlt : (l.take i).length = i := by rw [List.length_take]; omega
    rw [hsi]
    have hnb := fun r => nC_bound (l.take i) r
    generalize l[i] = p at *
    generalize runN (l.take i) = S at *
    obtain ⟨clk, es⟩ := S
    obtain ⟨db, r⟩ := p
    have hlk := mfind_enc r es 0
    have hfw := flatW_len (es.map (·.1))
    rw [List.length_map] at hfw
    have hesl : es.length ≤ 100 := by have := hIi.le; simp only at this; omega
    cases hf : findE r es 0 with
    | none =>
      rw [hf] at hlk
      rw [stepN_none hf]
      have hap := findE_app [(r, (0 : Int), clk)] hf
      have hl2 := mfind_enc r (es ++ [(r, (0 : Int), clk)]) 0
      rw [hap] at hl2
      have hb := bornIdx_last (r := r) (v := 0) hIi.lt
      have hm : ∀ v, modE (es.map encE ++ [(rowC r, 0, clk)]) es.length v = es.map encE ++ [(rowC r, v, clk)] := by
        intro v
        have := modE_last (es.map encE) (rowC r, 0, clk) v
        rw [List.length_map] at this
        exact this
      have q1 : (es.length + 1) * 24 ≤ 140737488355328 := by omega
      have q2 : es.length + 1 < 4611686018427387904 := by omega
      have hfw2 : flatW ((es ++ [(r, sgn db, clk)]).map (·.1)) = flatW (es.map (·.1)) ++ rowC r := by
        rw [List.map_append, flatW_append]; simp [flatW]
      simp only [List.map_append, List.map_cons, List.map_nil, encE, findE, if_true, Option.map_some, Option.map_none, Nat.zero_add] at hlk hl2
      simp only [hfw2, chC, rowC, List.cons_append, List.nil_append, ks6] at d hlk hl2 hb hm ⊢
      generalize flatW (es.map (·.1)) = FW at *
      cases db
      · have w1 : IntKind.i64.wrap (0 + 1) = 1 := rfl
        simp [beqI, bneI, mm_min2, mm_max2, mm_min3, mm_max3, startE, lkE, lkX, lkE_rest, sx, substE, opVA, objs0, List.replicate, XA_seq, XA_region, XOA_go, goE_someA, opV, ev, putA, layAll, XOA_nil, XA_skip_seq, XA_skip_nil, XOA_gd, goG_tA, goG_uA, binV, bi_add, bi_sub, bi_mul, bi_quo, bi_rem, bi_eql, bi_neq, bi_lss, bi_leq, bi_gtr, bi_geq, bi_shl, bi_shr, bi_and, bi_or, bi_xor, unV, XA_ret_nil, XA_ret_cons, endFA_r, endFA_n, endTA_r, endTA_n, endRA_r, endRA_n, endEA_r, endEA_n, List.take, fltR, resultsA, resAs, resA, XA_block, XA_cond, pickX_t, pickX_f, pickX_b, XA_skip_blk, XA_skip_lp, XA_exit_seq, XA_exit_lp, XA_exit_blk, XA_exit_nil, load1, Ev.loadCells, objCells, bodyCells, setCells, AV.flat, AV.flat1, backR, backV, backCell, mapO, AV.cells, AV.atom, AV.tree, fillV, repeatL, treeCell, freezeAll, eqCells, callV_T, callV_F, passN, passV, passCell, srcCells, sliceBounds, hiB, loB, thenQ_nA, thenQ_xA, thenQ_rA, runK_nA, runK_xA, runK_rA, wrap_i64, wrap_u64, wrap_u32, wrap_u8, wrap_u16, callV_O, okIds, passObjs, passBody, backObjs, backBody, adopts, List.idxOf?, List.findIdx?, List.findIdx?.go, isNilP, mapLook, mapGet, keyGet, adopts, List.lookup, AV.atom, normA, lkE, fixObjs, fixBody, fixV, fixCell, hi, hi', d, hfl, ws, hlk, hl2, hb, hm, q1, q2, hfw, w1, encE, sgn, rowC]
      · have w1 : IntKind.i64.wrap (0 - 1) = -1 := rfl
        simp [beqI, bneI, mm_min2, mm_max2, mm_min3, mm_max3, startE, lkE, lkX, lkE_rest, sx, substE, opVA, objs0, List.replicate, XA_seq, XA_region, XOA_go, goE_someA, opV, ev, putA, layAll, XOA_nil, XA_skip_seq, XA_skip_nil, XOA_gd, goG_tA, goG_uA, binV, bi_add, bi_sub, bi_mul, bi_quo, bi_rem, bi_eql, bi_neq, bi_lss, bi_leq, bi_gtr, bi_geq, bi_shl, bi_shr, bi_and, bi_or, bi_xor, unV, XA_ret_nil, XA_ret_cons, endFA_r, endFA_n, endTA_r, endTA_n, endRA_r, endRA_n, endEA_r, endEA_n, List.take, fltR, resultsA, resAs, resA, XA_block, XA_cond, pickX_t, pickX_f, pickX_b, XA_skip_blk, XA_skip_lp, XA_exit_seq, XA_exit_lp, XA_exit_blk, XA_exit_nil, load1, Ev.loadCells, objCells, bodyCells, setCells, AV.flat, AV.flat1, backR, backV, backCell, mapO, AV.cells, AV.atom, AV.tree, fillV, repeatL, treeCell, freezeAll, eqCells, callV_T, callV_F, passN, passV, passCell, srcCells, sliceBounds, hiB, loB, thenQ_nA, thenQ_xA, thenQ_rA, runK_nA, runK_xA, runK_rA, wrap_i64, wrap_u64, wrap_u32, wrap_u8, wrap_u16, callV_O, okIds, passObjs, passBody, backObjs, backBody, adopts, List.idxOf?, List.findIdx?, List.findIdx?.go, isNilP, mapLook, mapGet, keyGet, adopts, List.lookup, AV.atom, normA, lkE, fixObjs, fixBody, fixV, fixCell, hi, hi', d, hfl, ws, hlk, hl2, hb, hm, q1, q2, hfw, w1, encE, sgn, rowC]
    | some q =>
      obtain ⟨k, e⟩ := q
      rw [stepN_some hf, modM_len, modM_fst]
      obtain ⟨_, hg, hke⟩ := findE_get hf
      obtain ⟨er, v, s⟩ := e
      simp only [Nat.sub_zero] at hg hke
      subst hke
      rw [hf] at hlk
      have hv := hIi.va _ (List.mem_of_getElem? hg)
      simp only at hv
      have hvb := hnb er
      rw [← hv, hlt] at hvb
      have hb := bornIdx_get hIi.nd hg
      have hm1 := modE_enc (v + sgn db) es k
      simp only [Option.map_some, encE] at hlk hb
      simp only [chC, rowC, List.cons_append, List.nil_append, ks6] at d hlk ⊢
      generalize flatW (es.map (·.1)) = FW at *
      cases db
      · have w1 : IntKind.i64.wrap (v + 1) = v + 1 := wrap_i64 (by omega) (by omega)
        simp only [sgn, Bool.false_eq_true, if_false] at hm1 ⊢
        simp [beqI, bneI, mm_min2, mm_max2, mm_min3, mm_max3, startE, lkE, lkX, lkE_rest, sx, substE, opVA, objs0, List.replicate, XA_seq, XA_region, XOA_go, goE_someA, opV, ev, putA, layAll, XOA_nil, XA_skip_seq, XA_skip_nil, XOA_gd, goG_tA, goG_uA, binV, bi_add, bi_sub, bi_mul, bi_quo, bi_rem, bi_eql, bi_neq, bi_lss, bi_leq, bi_gtr, bi_geq, bi_shl, bi_shr, bi_and, bi_or, bi_xor, unV, XA_ret_nil, XA_ret_cons, endFA_r, endFA_n, endTA_r, endTA_n, endRA_r, endRA_n, endEA_r, endEA_n, List.take, fltR, resultsA, resAs, resA, XA_block, XA_cond, pickX_t, pickX_f, pickX_b, XA_skip_blk, XA_skip_lp, XA_exit_seq, XA_exit_lp, XA_exit_blk, XA_exit_nil, load1, Ev.loadCells, objCells, bodyCells, setCells, AV.flat, AV.flat1, backR, backV, backCell, mapO, AV.cells, AV.atom, AV.tree, fillV, repeatL, treeCell, freezeAll, eqCells, callV_T, callV_F, passN, passV, passCell, srcCells, sliceBounds, hiB, loB, thenQ_nA, thenQ_xA, thenQ_rA, runK_nA, runK_xA, runK_rA, wrap_i64, wrap_u64, wrap_u32, wrap_u8, wrap_u16, callV_O, okIds, passObjs, passBody, backObjs, backBody, adopts, List.idxOf?, List.findIdx?, List.findIdx?.go, isNilP, mapLook, mapGet, keyGet, adopts, List.lookup, AV.atom, normA, lkE, fixObjs, fixBody, fixV, fixCell, hi, hi', d, hfl, ws, hlk, hb, hm1, hfw, w1, encE, rowC]
      · have w1 : IntKind.i64.wrap (v - 1) = v + -1 := by rw [wrap_i64 (by omega) (by omega)]; omega
        simp only [sgn, if_true] at hm1 ⊢
        simp [beqI, bneI, mm_min2, mm_max2, mm_min3, mm_max3, startE, lkE, lkX, lkE_rest, sx, substE, opVA, objs0, List.replicate, XA_seq, XA_region, XOA_go, goE_someA, opV, ev, putA, layAll, XOA_nil, XA_skip_seq, XA_skip_nil, XOA_gd, goG_tA, goG_uA, binV, bi_add, bi_sub, bi_mul, bi_quo, bi_rem, bi_eql, bi_neq, bi_lss, bi_leq, bi_gtr, bi_geq, bi_shl, bi_shr, bi_and, bi_or, bi_xor, unV, XA_ret_nil, XA_ret_cons, endFA_r, endFA_n, endTA_r, endTA_n, endRA_r, endRA_n, endEA_r, endEA_n, List.take, fltR, resultsA, resAs, resA, XA_block, XA_cond, pickX_t, pickX_f, pickX_b, XA_skip_blk, XA_skip_lp, XA_exit_seq, XA_exit_lp, XA_exit_blk, XA_exit_nil, load1, Ev.loadCells, objCells, bodyCells, setCells, AV.flat, AV.flat1, backR, backV, backCell, mapO, AV.cells, AV.atom, AV.tree, fillV, repeatL, treeCell, freezeAll, eqCells, callV_T, callV_F, passN, passV, passCell, srcCells, sliceBounds, hiB, loB, thenQ_nA, thenQ_xA, thenQ_rA, runK_nA, runK_xA, runK_rA, wrap_i64, wrap_u64, wrap_u32, wrap_u8, wrap_u16, callV_O, okIds, passObjs, passBody, backObjs, backBody, adopts, List.idxOf?, List.findIdx?, List.findIdx?.go, isNilP, mapLook, mapGet, keyGet, adopts, List.lookup, AV.atom, normA, lkE, fixObjs, fixBody, fixV, fixCell, hi, hi', d, hfl, ws, hlk, hb, hm1, hfw, w1, encE, rowC]
  · intro _
    rw [hTL]
    have hlook := fun r (h : r ∈ keysN l) => net_look h
    have hKm := fun r => (srt_perm (keysN l)).mem_iff (a := r)
    have hnl := (merge_netL hl).2
    unfold netL at hnl
    have hout := outN_len l (srt (keysN l))
    have hosucc := outN_succ l (srt (keysN l))
    have hnb := fun r => nC_bound l r
    have hfw := flatW_len (keysN l)
    have hkl : (keysN l).length = (runN l).2.length := by unfold keysN; rw [List.length_map]
    have hdK := fun j (h : j < (srt (keysN l)).length) => dropW (srt (keysN l)) j h
    have hflK := flatW_len (srt (keysN l))
    have hsl := srt_len (keysN l)
    have hle := hfin.le
    have hend : (srt (keysN l)).flatMap (netOf (nC l)) = outN l (srt (keysN l)) (srt (keysN l)).length := by unfold outN; rw [List.take_length]
    have hend0 : outN l (srt (keysN l)) 0 = [] := rfl
    have htr := flatW_tree (keysN l)
    have htk : List.take ((keysN l).length * 6) (flatW (keysN l)) = flatW (keysN l) := List.take_of_length_le (by omega)
    rw [hend] at hnl hout
    rw [hend] at hNL
    subst hNL
    have hk1 : flatW (List.map (fun e : Me => e.1) (runN l).2) = flatW (keysN l) := rfl
    simp only [hTL, hk1]
    clear hI hs hfin hend
    unfold rW at esrt
    rw [hkl] at esrt hfw htk
    generalize srt (keysN l) = K at *
    generalize flatW (keysN l) = FW at *
    generalize hFK : flatW K = FK at *
    generalize runN l = S at *
    obtain ⟨clk, ez⟩ := S
    simp only at hlook hfw htk esrt hkl hle
    generalize ez.map encE = EN at *
    generalize ez.length = ne at *
    simp [beqI, bneI, mm_min2, mm_max2, mm_min3, mm_max3, startE, lkE, lkX, lkE_rest, sx, substE, opVA, objs0, List.replicate, XA_seq, XA_region, XOA_go, goE_someA, opV, ev, putA, layAll, XOA_nil, XA_skip_seq, XA_skip_nil, XOA_gd, goG_tA, goG_uA, binV, bi_add, bi_sub, bi_mul, bi_quo, bi_rem, bi_eql, bi_neq, bi_lss, bi_leq, bi_gtr, bi_geq, bi_shl, bi_shr, bi_and, bi_or, bi_xor, unV, XA_ret_nil, XA_ret_cons, endFA_r, endFA_n, endTA_r, endTA_n, endRA_r, endRA_n, endEA_r, endEA_n, List.take, fltR, resultsA, resAs, resA, XA_block, XA_cond, pickX_t, pickX_f, pickX_b, XA_skip_blk, XA_skip_lp, XA_exit_seq, XA_exit_lp, XA_exit_blk, XA_exit_nil, load1, Ev.loadCells, objCells, bodyCells, setCells, AV.flat, AV.flat1, backR, backV, backCell, mapO, AV.cells, AV.atom, AV.tree, fillV, repeatL, treeCell, freezeAll, eqCells, callV_T, callV_F, passN, passV, passCell, srcCells, sliceBounds, hiB, loB, thenQ_nA, thenQ_xA, thenQ_rA, runK_nA, runK_xA, runK_rA, wrap_i64, wrap_u64, wrap_u32, wrap_u8, wrap_u16, callV_O, okIds, passObjs, passBody, backObjs, backBody, adopts, List.idxOf?, List.findIdx?, List.findIdx?.go, isNilP, mapLook, mapGet, keyGet, adopts, List.lookup, AV.atom, normA, lkE, fixObjs, fixBody, fixV, fixCell, esrt, hfw, htk, htr]
    refine XA_for (fun j => ⟨[(3, .mp 0 0), (9, .own 3 0 0 (outN l K j).length 7), (52, .ro K.length FK), (53, .int .i64 K.length), (54, .int .i64 j)], [⟨0, .map clk EN⟩, ⟨0, .none⟩, ⟨0, .none⟩, ⟨0, .row true 7 (flatH (outN l K j))⟩, ⟨0, .none⟩]⟩)
      (fun _ => True) K.length 0 (Nat.zero_le _) (by simp [AV.atom, normA, lkE, fixObjs, fixBody, fixV, fixCell, hend0, flatH]) trivial ?_ ?_
    · intro j _ hj _
      have hj' : (j : Int) < K.length := by omega
      have d := hdK j hj
      have ws := wrap_succ j K.length hj (by omega)
      obtain ⟨ki, kb, hlk⟩ := hlook K[j] ((hKm _).1 (List.getElem_mem hj))
      have hnr := hnb K[j]
      have ho := hosucc j hj
      have hol := hout (j + 1)
      rw [ho]
      rw [ho, List.length_append, List.length_replicate] at hol
      generalize nC l K[j] = n at *
      generalize K[j] = r at *
      generalize outN l K j = O at *
      obtain ⟨N, hN⟩ : ∃ N, n.natAbs = N := ⟨_, rfl⟩
      rw [hN] at hol ⊢
      have hmx : max n (-n) = (N : Int) := by omega
      have wn : IntKind.i64.wrap (-n) = -n := wrap_i64 (by omega) (by omega)
      have hfo := flatH_len O
      simp only [rowC, List.cons_append, List.nil_append, ks6] at d hlk
      simp [beqI, bneI, mm_min2, mm_max2, mm_min3, mm_max3, startE, lkE, lkX, lkE_rest, sx, substE, opVA, objs0, List.replicate, XA_seq, XA_region, XOA_go, goE_someA, opV, ev, putA, layAll, XOA_nil, XA_skip_seq, XA_skip_nil, XOA_gd, goG_tA, goG_uA, binV, bi_add, bi_sub, bi_mul, bi_quo, bi_rem, bi_eql, bi_neq, bi_lss, bi_leq, bi_gtr, bi_geq, bi_shl, bi_shr, bi_and, bi_or, bi_xor, unV, XA_ret_nil, XA_ret_cons, endFA_r, endFA_n, endTA_r, endTA_n, endRA_r, endRA_n, endEA_r, endEA_n, List.take, fltR, resultsA, resAs, resA, XA_block, XA_cond, pickX_t, pickX_f, pickX_b, XA_skip_blk, XA_skip_lp, XA_exit_seq, XA_exit_lp, XA_exit_blk, XA_exit_nil, load1, Ev.loadCells, objCells, bodyCells, setCells, AV.flat, AV.flat1, backR, backV, backCell, mapO, AV.cells, AV.atom, AV.tree, fillV, repeatL, treeCell, freezeAll, eqCells, callV_T, callV_F, passN, passV, passCell, srcCells, sliceBounds, hiB, loB, thenQ_nA, thenQ_xA, thenQ_rA, runK_nA, runK_xA, runK_rA, wrap_i64, wrap_u64, wrap_u32, wrap_u8, wrap_u16, callV_O, okIds, passObjs, passBody, backObjs, backBody, adopts, List.idxOf?, List.findIdx?, List.findIdx?.go, isNilP, mapLook, mapGet, keyGet, adopts, List.lookup, AV.atom, normA, lkE, fixObjs, fixBody, fixV, fixCell, hj, hj', d, hflK, hlk, hmx, wn]
      refine XA_for (fun t => ⟨[(3, .mp 0 0), (9, .own 3 0 0 (O ++ List.replicate t (decide (n < 0), r)).length 7), (11, .ptr 4 0 0), (12, .int .i64 n), (52, .ro K.length FK), (53, .int .i64 K.length), (54, .int .i64 j), (64, .int .i64 N), (65, .int .i64 t)], [⟨0, .map clk EN⟩, ⟨0, .none⟩, ⟨0, .none⟩, ⟨0, .row true 7 (flatH (O ++ List.replicate t (decide (n < 0), r)))⟩, ⟨0, .var (rowC r)⟩]⟩)
        (fun _ => True) N 0 (Nat.zero_le _) (by simp [AV.atom, normA, lkE, fixObjs, fixBody, fixV, fixCell, rowC]) trivial ?_ ?_
      · intro t _ ht _
        have ht' : (t : Int) < N := by omega
        have wt := wrap_succ t N ht (by omega)
        have hfr := flatH_rep O t (decide (n < 0)) r
        have hft := flatH_len (O ++ List.replicate t (decide (n < 0), r))
        have hl1 : (O ++ List.replicate (t + 1) (decide (n < 0), r)).length = (O ++ List.replicate t (decide (n < 0), r)).length + 1 := by simp; omega
        have hl2 : (O ++ List.replicate t (decide (n < 0), r)).length ≤ 100 := by rw [List.length_append, List.length_replicate]; omega
        rw [hfr, hl1]
        generalize O ++ List.replicate t (decide (n < 0), r) = Q at *
        generalize hfq : flatH Q = fq at *
        have q1 : (Q.length + 1) * 32 ≤ 140737488355328 := by omega
        have q2 : Q.length + 1 < 4611686018427387904 := by omega
        simp [beqI, bneI, mm_min2, mm_max2, mm_min3, mm_max3, startE, lkE, lkX, lkE_rest, sx, substE, opVA, objs0, List.replicate, XA_seq, XA_region, XOA_go, goE_someA, opV, ev, putA, layAll, XOA_nil, XA_skip_seq, XA_skip_nil, XOA_gd, goG_tA, goG_uA, binV, bi_add, bi_sub, bi_mul, bi_quo, bi_rem, bi_eql, bi_neq, bi_lss, bi_leq, bi_gtr, bi_geq, bi_shl, bi_shr, bi_and, bi_or, bi_xor, unV, XA_ret_nil, XA_ret_cons, endFA_r, endFA_n, endTA_r, endTA_n, endRA_r, endRA_n, endEA_r, endEA_n, List.take, fltR, resultsA, resAs, resA, XA_block, XA_cond, pickX_t, pickX_f, pickX_b, XA_skip_blk, XA_skip_lp, XA_exit_seq, XA_exit_lp, XA_exit_blk, XA_exit_nil, load1, Ev.loadCells, objCells, bodyCells, setCells, AV.flat, AV.flat1, backR, backV, backCell, mapO, AV.cells, AV.atom, AV.tree, fillV, repeatL, treeCell, freezeAll, eqCells, callV_T, callV_F, passN, passV, passCell, srcCells, sliceBounds, hiB, loB, thenQ_nA, thenQ_xA, thenQ_rA, runK_nA, runK_xA, runK_rA, wrap_i64, wrap_u64, wrap_u32, wrap_u8, wrap_u16, callV_O, okIds, passObjs, passBody, backObjs, backBody, adopts, List.idxOf?, List.findIdx?, List.findIdx?.go, isNilP, mapLook, mapGet, keyGet, adopts, List.lookup, AV.atom, normA, lkE, fixObjs, fixBody, fixV, fixCell, ht, ht', wt, q1, q2, hft, rowC, chC]
      · intro _
        have hQl : (O ++ List.replicate N (decide (n < 0), r)).length = O.length + N := by simp
        generalize O ++ List.replicate N (decide (n < 0), r) = Q at *
        simp [beqI, bneI, mm_min2, mm_max2, mm_min3, mm_max3, startE, lkE, lkX, lkE_rest, sx, substE, opVA, objs0, List.replicate, XA_seq, XA_region, XOA_go, goE_someA, opV, ev, putA, layAll, XOA_nil, XA_skip_seq, XA_skip_nil, XOA_gd, goG_tA, goG_uA, binV, bi_add, bi_sub, bi_mul, bi_quo, bi_rem, bi_eql, bi_neq, bi_lss, bi_leq, bi_gtr, bi_geq, bi_shl, bi_shr, bi_and, bi_or, bi_xor, unV, XA_ret_nil, XA_ret_cons, endFA_r, endFA_n, endTA_r, endTA_n, endRA_r, endRA_n, endEA_r, endEA_n, List.take, fltR, resultsA, resAs, resA, XA_block, XA_cond, pickX_t, pickX_f, pickX_b, XA_skip_blk, XA_skip_lp, XA_exit_seq, XA_exit_lp, XA_exit_blk, XA_exit_nil, load1, Ev.loadCells, objCells, bodyCells, setCells, AV.flat, AV.flat1, backR, backV, backCell, mapO, AV.cells, AV.atom, AV.tree, fillV, repeatL, treeCell, freezeAll, eqCells, callV_T, callV_F, passN, passV, passCell, srcCells, sliceBounds, hiB, loB, thenQ_nA, thenQ_xA, thenQ_rA, runK_nA, runK_xA, runK_rA, wrap_i64, wrap_u64, wrap_u32, wrap_u8, wrap_u16, callV_O, okIds, passObjs, passBody, backObjs, backBody, adopts, List.idxOf?, List.findIdx?, List.findIdx?.go, isNilP, mapLook, mapGet, keyGet, adopts, List.lookup, AV.atom, normA, lkE, fixObjs, fixBody, fixV, fixCell, ws, hQl]
    · intro _
      have hfo := flatH_len (outN l K K.length)
      generalize outN l K K.length = O at *
      generalize hfq : flatH O = fq at *
      have htq : List.take (O.length * 7) fq = fq := List.take_of_length_le (by omega)
      simp [beqI, bneI, mm_min2, mm_max2, mm_min3, mm_max3, startE, lkE, lkX, lkE_rest, sx, substE, opVA, objs0, List.replicate, XA_seq, XA_region, XOA_go, goE_someA, opV, ev, putA, layAll, XOA_nil, XA_skip_seq, XA_skip_nil, XOA_gd, goG_tA, goG_uA, binV, bi_add, bi_sub, bi_mul, bi_quo, bi_rem, bi_eql, bi_neq, bi_lss, bi_leq, bi_gtr, bi_geq, bi_shl, bi_shr, bi_and, bi_or, bi_xor, unV, XA_ret_nil, XA_ret_cons, endFA_r, endFA_n, endTA_r, endTA_n, endRA_r, endRA_n, endEA_r, endEA_n, List.take, fltR, resultsA, resAs, resA, XA_block, XA_cond, pickX_t, pickX_f, pickX_b, XA_skip_blk, XA_skip_lp, XA_exit_seq, XA_exit_lp, XA_exit_blk, XA_exit_nil, load1, Ev.loadCells, objCells, bodyCells, setCells, AV.flat, AV.flat1, backR, backV, backCell, mapO, AV.cells, AV.atom, AV.tree, fillV, repeatL, treeCell, freezeAll, eqCells, callV_T, callV_F, passN, passV, passCell, srcCells, sliceBounds, hiB, loB, thenQ_nA, thenQ_xA, thenQ_rA, runK_nA, runK_xA, runK_rA, wrap_i64, wrap_u64, wrap_u32, wrap_u8, wrap_u16, callV_O, okIds, passObjs, passBody, backObjs, backBody, adopts, List.idxOf?, List.findIdx?, List.findIdx?.go, isNilP, mapLook, mapGet, keyGet, adopts, List.lookup, AV.atom, normA, lkE, fixObjs, fixBody, fixV, fixCell, hfo, htq]
end Go.Proofs.Ytpohmfihpnineaa
