/- What changes come to: the document's walk. -/
import Derived.Test.YtpohmfihpnineaaBtO
import Derived.Test.YtpohmfihpnineaaRowY
set_option linter.unusedSimpArgs false
set_option linter.unusedVariables false
set_option maxHeartbeats 16000000
set_option maxRecDepth 100000
namespace Go.Proofs.Ytpohmfihpnineaa
open Go.Ev
theorem insN_succ (l : List Ch) (i : Nat) (h : i < l.length) : insN (l.take (i + 1)) = insN (l.take i) ++ (if l[i].1 = true then [] else [l[i].2]) := by
  unfold insN
  rw [List.take_succ_eq_append_getElem h, List.filter_append, List.map_append]
  congr 1
  generalize l[i] = p
  obtain ⟨d, r⟩ := p
  cases d <;> rfl
theorem outsN_succ (l : List Ch) (i : Nat) (h : i < l.length) : outsN (l.take (i + 1)) = outsN (l.take i) ++ (if l[i].1 = true then [l[i].2] else []) := by
  unfold outsN
  rw [List.take_succ_eq_append_getElem h, List.filter_append, List.map_append]
  congr 1
  generalize l[i] = p
  obtain ⟨d, r⟩ := p
  cases d <;> rfl
theorem flatW_snoc (l : List Rw) (r : Rw) : flatW (l ++ [r]) = flatW l ++ rowC r := by rw [flatW_append]; simp [flatW]
theorem flatH_snoc' (l : List Ch) (b : Bool) (r : Rw) : flatH (l ++ [(b, r)]) = flatH l ++ chC b r := by rw [flatH_append]; simp [flatH]
theorem rnet_ev (l : List Ch) (hl : okH l) (hn : l.length ≤ 100) : cvT tabC 26 [rH l] = some (rH (netL l)) := by
  have hd := fun i (h : i < l.length) => dropH l i h
  have hfl := flatH_len l
  have hiO := fun i (h : i < l.length) => insN_succ l i h
  have hoO := fun i (h : i < l.length) => outsN_succ l i h
  have hln := fun i => inout_len (l.take i)
  have hz1 : insN [] = [] := rfl
  have hz2 : outsN [] = [] := rfl
  have hTL : l.take l.length = l := List.take_length
  have hA := insN_ok hl
  have hB := outsN_ok hl
  have hlen := inout_len l
  have e1 := cvTC (cvTB (cvTS (rsort_ev (insN l) hA (by omega))))
  have e2 := cvTC (cvTB (cvTS (rsort_ev (outsN l) hB (by omega))))
  rw [rS_srt hA] at e1
  rw [rS_srt hB] at e2
  have hmg := merge_netL hl
  generalize netL l = NL at *
  simp only [rH]
  generalize hF : flatH l = fl at *
  refine cvTA_R (mf := Mf.f26) rfl rfl (by kernel_rfl) ?_
  simp only [Mf.f26]
  simp [beqI, bneI, mm_min2, mm_max2, mm_min3, mm_max3, startE, lkE, lkX, lkE_rest, sx, substE, opVA, objs0, List.replicate, XA_seq, XA_region, XOA_go, goE_someA, opV, ev, putA, layAll, XOA_nil, XA_skip_seq, XA_skip_nil, XOA_gd, goG_tA, goG_uA, binV, bi_add, bi_sub, bi_mul, bi_quo, bi_rem, bi_eql, bi_neq, bi_lss, bi_leq, bi_gtr, bi_geq, bi_shl, bi_shr, bi_and, bi_or, bi_xor, unV, XA_ret_nil, XA_ret_cons, endFA_r, endFA_n, endTA_r, endTA_n, endRA_r, endRA_n, endEA_r, endEA_n, List.take, fltR, resultsA, resAs, resA, XA_block, XA_cond, pickX_t, pickX_f, pickX_b, XA_skip_blk, XA_skip_lp, XA_exit_seq, XA_exit_lp, XA_exit_blk, XA_exit_nil, load1, Ev.loadCells, objCells, bodyCells, setCells, AV.flat, AV.flat1, backR, backV, backCell, mapO, AV.cells, AV.atom, AV.tree, fillV, repeatL, treeCell, freezeAll, eqCells, callV_T, callV_F, passN, passV, passCell, srcCells, sliceBounds, hiB, loB, thenQ_nA, thenQ_xA, thenQ_rA, runK_nA, runK_xA, runK_rA, wrap_i64, wrap_u64, wrap_u32, wrap_u8, wrap_u16, callV_O, okIds, passObjs, passBody, backObjs, backBody, adopts, List.idxOf?, List.findIdx?, List.findIdx?.go, isNilP, mapLook, mapGet, keyGet, adopts, List.lookup]
  refine XA_for (fun i => ⟨[(0, .ro l.length fl), (3, .own 0 0 0 (insN (l.take i)).length 6), (4, .own 1 0 0 (outsN (l.take i)).length 6), (5, .int .i64 i)], [⟨0, .row true 6 (flatW (insN (l.take i)))⟩, ⟨0, .row true 6 (flatW (outsN (l.take i)))⟩, ⟨0, .none⟩]⟩)
    (fun _ => True) l.length 0 (Nat.zero_le _) (by simp [AV.atom, normA, lkE, fixObjs, fixBody, fixV, fixCell, hz1, hz2, flatW]) trivial ?_ ?_
  · intro i _ hi _
    have hi' : (i : Int) < l.length := by omega
    have d := hd i hi
    have ws := wrap_succ i l.length hi (by omega)
    have hlni := hln i
    rw [List.length_take] at hlni
    rw [hiO i hi, hoO i hi]
    generalize l[i] = p at *
    generalize insN (l.take i) = I at *
    generalize outsN (l.take i) = O at *
    obtain ⟨db, r⟩ := p
    have h1 := flatW_len I
    have h2 := flatW_len O
    have q1 : (I.length + 1) * 24 ≤ 140737488355328 := by omega
    have q2 : I.length + 1 < 4611686018427387904 := by omega
    have q3 : (O.length + 1) * 24 ≤ 140737488355328 := by omega
    have q4 : O.length + 1 < 4611686018427387904 := by omega
    simp only [chC, rowC, List.cons_append, List.nil_append] at d
    cases db
    · simp [beqI, bneI, mm_min2, mm_max2, mm_min3, mm_max3, startE, lkE, lkX, lkE_rest, sx, substE, opVA, objs0, List.replicate, XA_seq, XA_region, XOA_go, goE_someA, opV, ev, putA, layAll, XOA_nil, XA_skip_seq, XA_skip_nil, XOA_gd, goG_tA, goG_uA, binV, bi_add, bi_sub, bi_mul, bi_quo, bi_rem, bi_eql, bi_neq, bi_lss, bi_leq, bi_gtr, bi_geq, bi_shl, bi_shr, bi_and, bi_or, bi_xor, unV, XA_ret_nil, XA_ret_cons, endFA_r, endFA_n, endTA_r, endTA_n, endRA_r, endRA_n, endEA_r, endEA_n, List.take, fltR, resultsA, resAs, resA, XA_block, XA_cond, pickX_t, pickX_f, pickX_b, XA_skip_blk, XA_skip_lp, XA_exit_seq, XA_exit_lp, XA_exit_blk, XA_exit_nil, load1, Ev.loadCells, objCells, bodyCells, setCells, AV.flat, AV.flat1, backR, backV, backCell, mapO, AV.cells, AV.atom, AV.tree, fillV, repeatL, treeCell, freezeAll, eqCells, callV_T, callV_F, passN, passV, passCell, srcCells, sliceBounds, hiB, loB, thenQ_nA, thenQ_xA, thenQ_rA, runK_nA, runK_xA, runK_rA, wrap_i64, wrap_u64, wrap_u32, wrap_u8, wrap_u16, callV_O, okIds, passObjs, passBody, backObjs, backBody, adopts, List.idxOf?, List.findIdx?, List.findIdx?.go, isNilP, mapLook, mapGet, keyGet, adopts, List.lookup, AV.atom, normA, lkE, fixObjs, fixBody, fixV, fixCell, hi, hi', d, hfl, ws, q1, q2, h1, flatW_snoc, rowC]
    · simp [beqI, bneI, mm_min2, mm_max2, mm_min3, mm_max3, startE, lkE, lkX, lkE_rest, sx, substE, opVA, objs0, List.replicate, XA_seq, XA_region, XOA_go, goE_someA, opV, ev, putA, layAll, XOA_nil, XA_skip_seq, XA_skip_nil, XOA_gd, goG_tA, goG_uA, binV, bi_add, bi_sub, bi_mul, bi_quo, bi_rem, bi_eql, bi_neq, bi_lss, bi_leq, bi_gtr, bi_geq, bi_shl, bi_shr, bi_and, bi_or, bi_xor, unV, XA_ret_nil, XA_ret_cons, endFA_r, endFA_n, endTA_r, endTA_n, endRA_r, endRA_n, endEA_r, endEA_n, List.take, fltR, resultsA, resAs, resA, XA_block, XA_cond, pickX_t, pickX_f, pickX_b, XA_skip_blk, XA_skip_lp, XA_exit_seq, XA_exit_lp, XA_exit_blk, XA_exit_nil, load1, Ev.loadCells, objCells, bodyCells, setCells, AV.flat, AV.flat1, backR, backV, backCell, mapO, AV.cells, AV.atom, AV.tree, fillV, repeatL, treeCell, freezeAll, eqCells, callV_T, callV_F, passN, passV, passCell, srcCells, sliceBounds, hiB, loB, thenQ_nA, thenQ_xA, thenQ_rA, runK_nA, runK_xA, runK_rA, wrap_i64, wrap_u64, wrap_u32, wrap_u8, wrap_u16, callV_O, okIds, passObjs, passBody, backObjs, backBody, adopts, List.idxOf?, List.findIdx?, List.findIdx?.go, isNilP, mapLook, mapGet, keyGet, adopts, List.lookup, AV.atom, normA, lkE, fixObjs, fixBody, fixV, fixCell, hi, hi', d, hfl, ws, q3, q4, h2, flatW_snoc, rowC]
  · intro _
    simp only [hTL]
    clear hiO hoO hln
    have t1 := flatW_tree (insN l)
    have t2 := flatW_tree (outsN l)
    have f1 := flatW_len (insN l)
    have f2 := flatW_len (outsN l)
    have k1 : List.take ((insN l).length * 6) (flatW (insN l)) = flatW (insN l) := List.take_of_length_le (by omega)
    have k2 : List.take ((outsN l).length * 6) (flatW (outsN l)) = flatW (outsN l) := List.take_of_length_le (by omega)
    have okA := srt_ok hA
    have okB' := srt_ok hB
    have lA := srt_len (insN l)
    have lB := srt_len (outsN l)
    have hdA := fun j (h : j < (srt (insN l)).length) => dropW (srt (insN l)) j h
    have hdB := fun j (h : j < (srt (outsN l)).length) => dropW (srt (outsN l)) j h
    have hfA := flatW_len (srt (insN l))
    have hfB := flatW_len (srt (outsN l))
    simp only [rW] at e1 e2
    generalize hSA : srt (insN l) = A at *
    generalize hSB : srt (outsN l) = B at *
    generalize insN l = I at *
    generalize outsN l = O at *
    generalize flatW I = FI at *
    generalize flatW O = FO at *
    generalize hFA : flatW A = FA at *
    generalize hFB : flatW B = FB at *
    simp [beqI, bneI, mm_min2, mm_max2, mm_min3, mm_max3, startE, lkE, lkX, lkE_rest, sx, substE, opVA, objs0, List.replicate, XA_seq, XA_region, XOA_go, goE_someA, opV, ev, putA, layAll, XOA_nil, XA_skip_seq, XA_skip_nil, XOA_gd, goG_tA, goG_uA, binV, bi_add, bi_sub, bi_mul, bi_quo, bi_rem, bi_eql, bi_neq, bi_lss, bi_leq, bi_gtr, bi_geq, bi_shl, bi_shr, bi_and, bi_or, bi_xor, unV, XA_ret_nil, XA_ret_cons, endFA_r, endFA_n, endTA_r, endTA_n, endRA_r, endRA_n, endEA_r, endEA_n, List.take, fltR, resultsA, resAs, resA, XA_block, XA_cond, pickX_t, pickX_f, pickX_b, XA_skip_blk, XA_skip_lp, XA_exit_seq, XA_exit_lp, XA_exit_blk, XA_exit_nil, load1, Ev.loadCells, objCells, bodyCells, setCells, AV.flat, AV.flat1, backR, backV, backCell, mapO, AV.cells, AV.atom, AV.tree, fillV, repeatL, treeCell, freezeAll, eqCells, callV_T, callV_F, passN, passV, passCell, srcCells, sliceBounds, hiB, loB, thenQ_nA, thenQ_xA, thenQ_rA, runK_nA, runK_xA, runK_rA, wrap_i64, wrap_u64, wrap_u32, wrap_u8, wrap_u16, callV_O, okIds, passObjs, passBody, backObjs, backBody, adopts, List.idxOf?, List.findIdx?, List.findIdx?.go, isNilP, mapLook, mapGet, keyGet, adopts, List.lookup, AV.atom, normA, lkE, fixObjs, fixBody, fixV, fixCell, e1, e2, f1, f2, k1, k2, t1, t2]
    refine XA_loop (α := Nat × Nat × List Ch) (fun x => ⟨[(3, .ro A.length FA), (4, .ro B.length FB), (6, .own 2 0 0 x.2.2.length 7), (7, .int .i64 x.1), (8, .int .i64 x.2.1)], [⟨0, .row false 6 FI⟩, ⟨0, .row false 6 FO⟩, ⟨0, .row true 7 (flatH x.2.2)⟩]⟩)
      (fun x => x.1 ≤ A.length ∧ x.2.1 ≤ B.length ∧ x.2.2.length ≤ x.1 + x.2.1 ∧ x.2.2 ++ mergeN (A.drop x.1) (B.drop x.2.1) = NL) (fun x => (A.length - x.1) + (B.length - x.2.1)) (0, 0, []) (by simp [AV.atom, normA, lkE, fixObjs, fixBody, fixV, fixCell, flatH]) ⟨Nat.zero_le _, Nat.zero_le _, Nat.zero_le _, by simp [hmg.1]⟩ ?_
    rintro ⟨i, k, N⟩ ⟨c1, c2, c3, c4⟩
    simp only at c1 c2 c3 c4
    have hN := flatH_len N
    have q1 : (N.length + 1) * 32 ≤ 140737488355328 := by omega
    have q2 : N.length + 1 < 4611686018427387904 := by omega
    by_cases ci : i < A.length
    · have ci' : (i : Int) < A.length := by omega
      have wi := wrap_succ i A.length ci (by omega)
      have dA := hdA i ci
      have hdi : A.drop i = A[i] :: A.drop (i + 1) := List.drop_eq_getElem_cons ci
      have hoa := okA _ (List.getElem_mem ci)
      rw [hdi] at c4
      by_cases ck : k < B.length
      · have ck' : (k : Int) < B.length := by omega
        have ck2 : ¬ B.length ≤ k := by omega
        have wk := wrap_succ k B.length ck (by omega)
        have dB := hdB k ck
        have hdk : B.drop k = B[k] :: B.drop (k + 1) := List.drop_eq_getElem_cons ck
        have hob := okB' _ (List.getElem_mem ck)
        rw [hdk, mergeN_cons] at c4
        have eL := cvFC (cvFB (cvFS (rless_ev A[i] B[k] hoa hob)))
        have ep := eq_rowB A[i] B[k]
        generalize A[i] = a at *
        generalize B[k] = b at *
        have hne : ¬ a = b → a.a = b.a → a.b = b.b → a.c = b.c → a.d = b.d → a.x = b.x → ¬ a.y = b.y := fun h g2 g3 g4 g5 g6 g7 => h (by cases a; cases b; simp only at g2 g3 g4 g5 g6 g7; subst g2 g3 g4 g5 g6 g7; rfl)
        simp only [rowC, List.cons_append, List.nil_append] at dA dB eL ep
        by_cases hab : a = b
        · subst hab
          rw [if_pos rfl] at c4
          simp [beqI, bneI, mm_min2, mm_max2, mm_min3, mm_max3, startE, lkE, lkX, lkE_rest, sx, substE, opVA, objs0, List.replicate, XA_seq, XA_region, XOA_go, goE_someA, opV, ev, putA, layAll, XOA_nil, XA_skip_seq, XA_skip_nil, XOA_gd, goG_tA, goG_uA, binV, bi_add, bi_sub, bi_mul, bi_quo, bi_rem, bi_eql, bi_neq, bi_lss, bi_leq, bi_gtr, bi_geq, bi_shl, bi_shr, bi_and, bi_or, bi_xor, unV, XA_ret_nil, XA_ret_cons, endFA_r, endFA_n, endTA_r, endTA_n, endRA_r, endRA_n, endEA_r, endEA_n, List.take, fltR, resultsA, resAs, resA, XA_block, XA_cond, pickX_t, pickX_f, pickX_b, XA_skip_blk, XA_skip_lp, XA_exit_seq, XA_exit_lp, XA_exit_blk, XA_exit_nil, load1, Ev.loadCells, objCells, bodyCells, setCells, AV.flat, AV.flat1, backR, backV, backCell, mapO, AV.cells, AV.atom, AV.tree, fillV, repeatL, treeCell, freezeAll, eqCells, callV_T, callV_F, passN, passV, passCell, srcCells, sliceBounds, hiB, loB, thenQ_nA, thenQ_xA, thenQ_rA, runK_nA, runK_xA, runK_rA, wrap_i64, wrap_u64, wrap_u32, wrap_u8, wrap_u16, callV_O, okIds, passObjs, passBody, backObjs, backBody, adopts, List.idxOf?, List.findIdx?, List.findIdx?.go, isNilP, mapLook, mapGet, keyGet, adopts, List.lookup, AV.atom, normA, lkE, fixObjs, fixBody, fixV, fixCell, ci, ci', ck, ck', dA, dB, hfA, hfB, wi, wk]
          exact ⟨i + 1, k + 1, N, ⟨⟨rfl, by omega, by omega⟩, rfl⟩, ⟨by omega, by omega, by omega, c4⟩, by omega⟩
        · rw [if_neg hab] at c4
          rw [decide_eq_false hab] at ep
          by_cases hlt : ltR a b
          · rw [if_pos hlt] at c4
            rw [decide_eq_true hlt] at eL
            simp [beqI, bneI, mm_min2, mm_max2, mm_min3, mm_max3, startE, lkE, lkX, lkE_rest, sx, substE, opVA, objs0, List.replicate, XA_seq, XA_region, XOA_go, goE_someA, opV, ev, putA, layAll, XOA_nil, XA_skip_seq, XA_skip_nil, XOA_gd, goG_tA, goG_uA, binV, bi_add, bi_sub, bi_mul, bi_quo, bi_rem, bi_eql, bi_neq, bi_lss, bi_leq, bi_gtr, bi_geq, bi_shl, bi_shr, bi_and, bi_or, bi_xor, unV, XA_ret_nil, XA_ret_cons, endFA_r, endFA_n, endTA_r, endTA_n, endRA_r, endRA_n, endEA_r, endEA_n, List.take, fltR, resultsA, resAs, resA, XA_block, XA_cond, pickX_t, pickX_f, pickX_b, XA_skip_blk, XA_skip_lp, XA_exit_seq, XA_exit_lp, XA_exit_blk, XA_exit_nil, load1, Ev.loadCells, objCells, bodyCells, setCells, AV.flat, AV.flat1, backR, backV, backCell, mapO, AV.cells, AV.atom, AV.tree, fillV, repeatL, treeCell, freezeAll, eqCells, callV_T, callV_F, passN, passV, passCell, srcCells, sliceBounds, hiB, loB, thenQ_nA, thenQ_xA, thenQ_rA, runK_nA, runK_xA, runK_rA, wrap_i64, wrap_u64, wrap_u32, wrap_u8, wrap_u16, callV_O, okIds, passObjs, passBody, backObjs, backBody, adopts, List.idxOf?, List.findIdx?, List.findIdx?.go, isNilP, mapLook, mapGet, keyGet, adopts, List.lookup, AV.atom, normA, lkE, fixObjs, fixBody, fixV, fixCell, ci, ci', ck, ck', dA, dB, hfA, hfB, wi, wk, ep, eL, eqCells, hab, q1, q2, hN, ck2]
            exact ⟨i + 1, k, N ++ [(false, a)], ⟨⟨by simp, by omega, rfl⟩, by rw [flatH_snoc']; rfl⟩, ⟨by omega, by omega, by simp; omega, by rw [← c4, hdk]; simp⟩, by omega⟩
          · rw [if_neg hlt] at c4
            rw [decide_eq_false hlt] at eL
            simp [beqI, bneI, mm_min2, mm_max2, mm_min3, mm_max3, startE, lkE, lkX, lkE_rest, sx, substE, opVA, objs0, List.replicate, XA_seq, XA_region, XOA_go, goE_someA, opV, ev, putA, layAll, XOA_nil, XA_skip_seq, XA_skip_nil, XOA_gd, goG_tA, goG_uA, binV, bi_add, bi_sub, bi_mul, bi_quo, bi_rem, bi_eql, bi_neq, bi_lss, bi_leq, bi_gtr, bi_geq, bi_shl, bi_shr, bi_and, bi_or, bi_xor, unV, XA_ret_nil, XA_ret_cons, endFA_r, endFA_n, endTA_r, endTA_n, endRA_r, endRA_n, endEA_r, endEA_n, List.take, fltR, resultsA, resAs, resA, XA_block, XA_cond, pickX_t, pickX_f, pickX_b, XA_skip_blk, XA_skip_lp, XA_exit_seq, XA_exit_lp, XA_exit_blk, XA_exit_nil, load1, Ev.loadCells, objCells, bodyCells, setCells, AV.flat, AV.flat1, backR, backV, backCell, mapO, AV.cells, AV.atom, AV.tree, fillV, repeatL, treeCell, freezeAll, eqCells, callV_T, callV_F, passN, passV, passCell, srcCells, sliceBounds, hiB, loB, thenQ_nA, thenQ_xA, thenQ_rA, runK_nA, runK_xA, runK_rA, wrap_i64, wrap_u64, wrap_u32, wrap_u8, wrap_u16, callV_O, okIds, passObjs, passBody, backObjs, backBody, adopts, List.idxOf?, List.findIdx?, List.findIdx?.go, isNilP, mapLook, mapGet, keyGet, adopts, List.lookup, AV.atom, normA, lkE, fixObjs, fixBody, fixV, fixCell, ci, ci', ck, ck', dA, dB, hfA, hfB, wi, wk, ep, eL, eqCells, hab, q1, q2, hN, ck2]
            exact ⟨i, k + 1, N ++ [(true, b)], ⟨⟨by simp, rfl, by omega⟩, by rw [flatH_snoc']; rfl⟩, ⟨by omega, by omega, by simp; omega, by rw [← c4, hdi]; simp⟩, by omega⟩
      · have ck' : ¬ (k : Int) < B.length := by omega
        have ck2 : B.length ≤ k := by omega
        have hdk : B.drop k = [] := List.drop_eq_nil_of_le (by omega)
        rw [hdk, mergeN_nilR, List.map_cons, ← mergeN_nilR, ← hdk] at c4
        generalize A[i] = a at *
        simp only [rowC, List.cons_append, List.nil_append] at dA
        simp [beqI, bneI, mm_min2, mm_max2, mm_min3, mm_max3, startE, lkE, lkX, lkE_rest, sx, substE, opVA, objs0, List.replicate, XA_seq, XA_region, XOA_go, goE_someA, opV, ev, putA, layAll, XOA_nil, XA_skip_seq, XA_skip_nil, XOA_gd, goG_tA, goG_uA, binV, bi_add, bi_sub, bi_mul, bi_quo, bi_rem, bi_eql, bi_neq, bi_lss, bi_leq, bi_gtr, bi_geq, bi_shl, bi_shr, bi_and, bi_or, bi_xor, unV, XA_ret_nil, XA_ret_cons, endFA_r, endFA_n, endTA_r, endTA_n, endRA_r, endRA_n, endEA_r, endEA_n, List.take, fltR, resultsA, resAs, resA, XA_block, XA_cond, pickX_t, pickX_f, pickX_b, XA_skip_blk, XA_skip_lp, XA_exit_seq, XA_exit_lp, XA_exit_blk, XA_exit_nil, load1, Ev.loadCells, objCells, bodyCells, setCells, AV.flat, AV.flat1, backR, backV, backCell, mapO, AV.cells, AV.atom, AV.tree, fillV, repeatL, treeCell, freezeAll, eqCells, callV_T, callV_F, passN, passV, passCell, srcCells, sliceBounds, hiB, loB, thenQ_nA, thenQ_xA, thenQ_rA, runK_nA, runK_xA, runK_rA, wrap_i64, wrap_u64, wrap_u32, wrap_u8, wrap_u16, callV_O, okIds, passObjs, passBody, backObjs, backBody, adopts, List.idxOf?, List.findIdx?, List.findIdx?.go, isNilP, mapLook, mapGet, keyGet, adopts, List.lookup, AV.atom, normA, lkE, fixObjs, fixBody, fixV, fixCell, ci, ci', ck, ck', ck2, q1, q2, hN, rowC, chC, dA, hfA, hfB, wi]
        exact ⟨i + 1, k, N ++ [(false, a)], ⟨⟨by simp, by omega, rfl⟩, by rw [flatH_snoc']; rfl⟩, ⟨by omega, by omega, by simp; omega, by rw [← c4]; simp⟩, by omega⟩
    · have ci' : ¬ (i : Int) < A.length := by omega
      have hdi : A.drop i = [] := List.drop_eq_nil_of_le (by omega)
      by_cases ck : k < B.length
      · have ck' : (k : Int) < B.length := by omega
        have ck2 : ¬ B.length ≤ k := by omega
        have wk := wrap_succ k B.length ck (by omega)
        have dB := hdB k ck
        have hdk : B.drop k = B[k] :: B.drop (k + 1) := List.drop_eq_getElem_cons ck
        rw [hdi, mergeN_nilL, hdk, List.map_cons, ← mergeN_nilL, ← hdi] at c4
        generalize B[k] = b at *
        simp only [rowC, List.cons_append, List.nil_append] at dB
        simp [beqI, bneI, mm_min2, mm_max2, mm_min3, mm_max3, startE, lkE, lkX, lkE_rest, sx, substE, opVA, objs0, List.replicate, XA_seq, XA_region, XOA_go, goE_someA, opV, ev, putA, layAll, XOA_nil, XA_skip_seq, XA_skip_nil, XOA_gd, goG_tA, goG_uA, binV, bi_add, bi_sub, bi_mul, bi_quo, bi_rem, bi_eql, bi_neq, bi_lss, bi_leq, bi_gtr, bi_geq, bi_shl, bi_shr, bi_and, bi_or, bi_xor, unV, XA_ret_nil, XA_ret_cons, endFA_r, endFA_n, endTA_r, endTA_n, endRA_r, endRA_n, endEA_r, endEA_n, List.take, fltR, resultsA, resAs, resA, XA_block, XA_cond, pickX_t, pickX_f, pickX_b, XA_skip_blk, XA_skip_lp, XA_exit_seq, XA_exit_lp, XA_exit_blk, XA_exit_nil, load1, Ev.loadCells, objCells, bodyCells, setCells, AV.flat, AV.flat1, backR, backV, backCell, mapO, AV.cells, AV.atom, AV.tree, fillV, repeatL, treeCell, freezeAll, eqCells, callV_T, callV_F, passN, passV, passCell, srcCells, sliceBounds, hiB, loB, thenQ_nA, thenQ_xA, thenQ_rA, runK_nA, runK_xA, runK_rA, wrap_i64, wrap_u64, wrap_u32, wrap_u8, wrap_u16, callV_O, okIds, passObjs, passBody, backObjs, backBody, adopts, List.idxOf?, List.findIdx?, List.findIdx?.go, isNilP, mapLook, mapGet, keyGet, adopts, List.lookup, AV.atom, normA, lkE, fixObjs, fixBody, fixV, fixCell, ci, ci', ck, ck', ck2, q1, q2, hN, rowC, chC, dB, hfA, hfB, wk]
        exact ⟨i, k + 1, N ++ [(true, b)], ⟨⟨by simp, rfl, by omega⟩, by rw [flatH_snoc']; rfl⟩, ⟨by omega, by omega, by simp; omega, by rw [← c4]; simp⟩, by omega⟩
      · have ck' : ¬ (k : Int) < B.length := by omega
        have hdk : B.drop k = [] := List.drop_eq_nil_of_le (by omega)
        rw [hdi, hdk, mergeN_nilL, List.map_nil, List.append_nil] at c4
        subst c4
        have htq : List.take (N.length * 7) (flatH N) = flatH N := List.take_of_length_le (by omega)
        simp [beqI, bneI, mm_min2, mm_max2, mm_min3, mm_max3, startE, lkE, lkX, lkE_rest, sx, substE, opVA, objs0, List.replicate, XA_seq, XA_region, XOA_go, goE_someA, opV, ev, putA, layAll, XOA_nil, XA_skip_seq, XA_skip_nil, XOA_gd, goG_tA, goG_uA, binV, bi_add, bi_sub, bi_mul, bi_quo, bi_rem, bi_eql, bi_neq, bi_lss, bi_leq, bi_gtr, bi_geq, bi_shl, bi_shr, bi_and, bi_or, bi_xor, unV, XA_ret_nil, XA_ret_cons, endFA_r, endFA_n, endTA_r, endTA_n, endRA_r, endRA_n, endEA_r, endEA_n, List.take, fltR, resultsA, resAs, resA, XA_block, XA_cond, pickX_t, pickX_f, pickX_b, XA_skip_blk, XA_skip_lp, XA_exit_seq, XA_exit_lp, XA_exit_blk, XA_exit_nil, load1, Ev.loadCells, objCells, bodyCells, setCells, AV.flat, AV.flat1, backR, backV, backCell, mapO, AV.cells, AV.atom, AV.tree, fillV, repeatL, treeCell, freezeAll, eqCells, callV_T, callV_F, passN, passV, passCell, srcCells, sliceBounds, hiB, loB, thenQ_nA, thenQ_xA, thenQ_rA, runK_nA, runK_xA, runK_rA, wrap_i64, wrap_u64, wrap_u32, wrap_u8, wrap_u16, callV_O, okIds, passObjs, passBody, backObjs, backBody, adopts, List.idxOf?, List.findIdx?, List.findIdx?.go, isNilP, mapLook, mapGet, keyGet, adopts, List.lookup, AV.atom, normA, lkE, fixObjs, fixBody, fixV, fixCell, ci, ci', ck, ck', hN, htq]
end Go.Proofs.Ytpohmfihpnineaa
