/- Catalogs are read: lists, dimensions, catalogs. -/
import Derived.Test.YtmnafjgkhhdidaaSchQ
set_option linter.unusedSimpArgs false
set_option linter.unusedVariables false
set_option maxHeartbeats 4000000
set_option maxRecDepth 100000
namespace Go.Proofs.Ytmnafjgkhhdidaa
open Go.Ev
/-- A row of n that is nil as long as nothing was put. -/
def nlOr (t sz n : Nat) : AV := if n = 0 then .nilsl else .own t 0 0 n sz
def nlObj (sz n : Nat) (cs : List AV) : AObj := if n = 0 then ⟨0, .none⟩ else ⟨0, .row true sz cs⟩
def vR (s : RS) : AObj := ⟨0, .var [.ro s.1.length (s.1.map (.int .u8)), .bool s.2]⟩
theorem num_ev' (s : RS) (most : Nat) (hs : okS s) (hm : most ≤ 40) : cfT tab 48 [.ptr 0 0 0, .int .i64 most] [vR s] = some (.int .i64 (numS most s).1, [vR (numS most s).2]) := num_ev s.1 s.2 most hs hm
theorem num_ev4 (s : RS) (hs : okS s) : cfT tab 48 [.ptr 0 0 0, .int .i64 4] [vR s] = some (.int .i64 (numS 4 s).1, [vR (numS 4 s).2]) := num_ev' s 4 hs (by omega)
theorem num_ev2 (s : RS) (hs : okS s) : cfT tab 48 [.ptr 0 0 0, .int .i64 2] [vR s] = some (.int .i64 (numS 2 s).1, [vR (numS 2 s).2]) := num_ev' s 2 hs (by omega)
theorem listS_succ (most i : Nat) (s : RS) : listP numS stS most (i + 1) s = ((listP numS stS most i s).1 ++ [(numS most (listP numS stS most i s).2).1], (numS most (listP numS stS most i s).2).2) := by
  unfold listP
  rw [rep_snoc]
  simp [stS, listF]
theorem listS_len (most n : Nat) (s : RS) : (listP numS stS most n s).1.length = n := rep_len (f := listF numS most) (fun s => by simp [listF]) ([], s) rfl n
theorem list_ev (s : RS) (n most : Nat) (hs : okS s) (hn : n ≤ 40) (hm : most ≤ 40) :
    cfT tab 66 [.ptr 0 0 0, .int .i64 n, .int .i64 most] [vR s] =
      some (.own 1 0 0 n 1, [vR (listP numS stS most n s).2, ⟨0, .row true 1 ((listP numS stS most n s).1.map (.int .i64))⟩]) := by
  refine cfTA_R (mf := Mf.f66) rfl rfl (by kernel_rfl) ?_
  simp only [Mf.f66]
  simp [beqI, bneI, mm_min2, mm_max2, mm_min3, mm_max3, startE, lkE, lkX, lkE_rest, sx, substE, opVA, objs0, List.replicate, XA_seq, XA_region, XOA_go, goE_someA, opV, ev, putA, layAll, XOA_nil, XA_skip_seq, XA_skip_nil, XOA_gd, goG_tA, goG_uA, binV, bi_add, bi_sub, bi_mul, bi_quo, bi_rem, bi_eql, bi_neq, bi_lss, bi_leq, bi_gtr, bi_geq, bi_shl, bi_shr, bi_and, bi_or, bi_xor, unV, XA_ret_nil, XA_ret_cons, endFA_r, endFA_n, endTA_r, endTA_n, endRA_r, endRA_n, endEA_r, endEA_n, List.take, fltR, resultsA, resAs, resA, XA_block, XA_cond, pickX_t, pickX_f, pickX_b, XA_skip_blk, XA_skip_lp, XA_exit_seq, XA_exit_lp, XA_exit_blk, XA_exit_nil, load1, Ev.loadCells, objCells, bodyCells, setCells, AV.flat, AV.flat1, backR, backV, backCell, mapO, AV.cells, AV.atom, AV.tree, fillV, repeatL, treeCell, freezeAll, eqCells, callV_T, callV_F, passN, passV, passCell, srcCells, sliceBounds, hiB, loB, thenQ_nA, thenQ_xA, thenQ_rA, runK_nA, runK_xA, runK_rA, wrap_i64, wrap_u64, wrap_u32, wrap_u8, wrap_u16]
  refine XA_for (fun i => ⟨[(0, .ptr 0 0 0), (2, .int .i64 most), (7, .own 1 0 0 i 1), (8, .int .i64 n), (9, .int .i64 i)], [vR (listP numS stS most i s).2, ⟨0, .row true 1 ((listP numS stS most i s).1.map (.int .i64))⟩]⟩)
    (fun i => True) n 0 (Nat.zero_le _) (by simp [AV.atom, normA, lkE, fixObjs, fixBody, fixV, fixCell, vR, listP, rep]) trivial ?_ ?_
  · intro i _ hi _
    have hi' : (i : Int) < n := by omega
    have hP := listP_inv stS numS_I (most := most) hm hs i
    have hl := listS_len most i s
    rw [listS_succ]
    generalize listP numS stS most i s = p at *
    obtain ⟨l, s1⟩ := p
    simp only at hP hl
    have e := num_ev' s1 most hP.2.1 hm
    simp only
    generalize numS most s1 = q at *
    obtain ⟨u, s2⟩ := q
    simp only [vR] at e
    have h1 : (i + 1) * 8 ≤ 140737488355328 := by omega
    have h2 : i + 1 < 4611686018427387904 := by omega
    simp [beqI, bneI, mm_min2, mm_max2, mm_min3, mm_max3, startE, lkE, lkX, lkE_rest, sx, substE, opVA, objs0, List.replicate, XA_seq, XA_region, XOA_go, goE_someA, opV, ev, putA, layAll, XOA_nil, XA_skip_seq, XA_skip_nil, XOA_gd, goG_tA, goG_uA, binV, bi_add, bi_sub, bi_mul, bi_quo, bi_rem, bi_eql, bi_neq, bi_lss, bi_leq, bi_gtr, bi_geq, bi_shl, bi_shr, bi_and, bi_or, bi_xor, unV, XA_ret_nil, XA_ret_cons, endFA_r, endFA_n, endTA_r, endTA_n, endRA_r, endRA_n, endEA_r, endEA_n, List.take, fltR, resultsA, resAs, resA, XA_block, XA_cond, pickX_t, pickX_f, pickX_b, XA_skip_blk, XA_skip_lp, XA_exit_seq, XA_exit_lp, XA_exit_blk, XA_exit_nil, load1, Ev.loadCells, objCells, bodyCells, setCells, AV.flat, AV.flat1, backR, backV, backCell, mapO, AV.cells, AV.atom, AV.tree, fillV, repeatL, treeCell, freezeAll, eqCells, callV_T, callV_F, passN, passV, passCell, srcCells, sliceBounds, hiB, loB, thenQ_nA, thenQ_xA, thenQ_rA, runK_nA, runK_xA, runK_rA, wrap_i64, wrap_u64, wrap_u32, wrap_u8, wrap_u16, callV_O, okIds, passObjs, passBody, backObjs, backBody, adopts, List.idxOf?, List.findIdx?, List.findIdx?.go, AV.atom, normA, lkE, fixObjs, fixBody, fixV, fixCell, vR, hi', e, wrap_succ i n hi (by omega), h1, h2, hl]
  · intro _
    simp [beqI, bneI, mm_min2, mm_max2, mm_min3, mm_max3, startE, lkE, lkX, lkE_rest, sx, substE, opVA, objs0, List.replicate, XA_seq, XA_region, XOA_go, goE_someA, opV, ev, putA, layAll, XOA_nil, XA_skip_seq, XA_skip_nil, XOA_gd, goG_tA, goG_uA, binV, bi_add, bi_sub, bi_mul, bi_quo, bi_rem, bi_eql, bi_neq, bi_lss, bi_leq, bi_gtr, bi_geq, bi_shl, bi_shr, bi_and, bi_or, bi_xor, unV, XA_ret_nil, XA_ret_cons, endFA_r, endFA_n, endTA_r, endTA_n, endRA_r, endRA_n, endEA_r, endEA_n, List.take, fltR, resultsA, resAs, resA, XA_block, XA_cond, pickX_t, pickX_f, pickX_b, XA_skip_blk, XA_skip_lp, XA_exit_seq, XA_exit_lp, XA_exit_blk, XA_exit_nil, load1, Ev.loadCells, objCells, bodyCells, setCells, AV.flat, AV.flat1, backR, backV, backCell, mapO, AV.cells, AV.atom, AV.tree, fillV, repeatL, treeCell, freezeAll, eqCells, callV_T, callV_F, passN, passV, passCell, srcCells, sliceBounds, hiB, loB, thenQ_nA, thenQ_xA, thenQ_rA, runK_nA, runK_xA, runK_rA, wrap_i64, wrap_u64, wrap_u32, wrap_u8, wrap_u16, AV.atom, normA, lkE, fixObjs, fixBody, fixV, fixCell, endRA_n, endRA_r, vR]
theorem list_ev40 (s : RS) (n : Nat) (hs : okS s) (hn : n ≤ 40) :
    cfT tab 66 [.ptr 0 0 0, .int .i64 n, .int .i64 40] [vR s] =
      some (.own 1 0 0 n 1, [vR (listP numS stS 40 n s).2, ⟨0, .row true 1 ((listP numS stS 40 n s).1.map (.int .i64))⟩]) := list_ev s n 40 hs hn (by omega)
theorem upS_succ (S : List Int) (i : Nat) (s : RS) : upP numS stS S (i + 1) s = upF numS stS S (upP numS stS S i s) := by
  unfold upP
  rw [rep_snoc]
  simp [stS]
theorem upS_len (S : List Int) (n : Nat) (s : RS) : (upP numS stS S n s).1.length = n := rep_len (f := upF numS stS S) (fun s => by simp [upF]) ([], s) rfl n
theorem rI_map (l : List Int) : AV.ro l.length (l.map (.int .i64)) = rI l := rfl
theorem dim_ev (s : RS) (hs : okS s) : ∃ H, cfT tab 49 [.ptr 0 0 0] [vR s] =
      some (.agg [rI (dimP numS stS s).1.S, nlOr 3 1 (dimP numS stS s).1.U.length], vR (dimP numS stS s).2 :: H) ∧ H[2]? = some (nlObj 1 (dimP numS stS s).1.U.length ((dimP numS stS s).1.U.map rI)) := by
  refine ⟨[⟨0, .var [rI (dimP numS stS s).1.S, nlOr 3 1 (dimP numS stS s).1.U.length]⟩, ⟨0, .var [rI (dimP numS stS s).1.S, nlOr 3 1 (dimP numS stS s).1.U.length]⟩, nlObj 1 (dimP numS stS s).1.U.length ((dimP numS stS s).1.U.map rI)], ?_, rfl⟩
  refine cfTA_R (mf := Mf.f49) rfl rfl (by kernel_rfl) ?_
  simp only [Mf.f49]
  have e1 := num_ev4 s hs
  have h1 := numS_I.v 4 s hs (by omega)
  have h1s := numS_I.s 4 s hs
  unfold dimP
  generalize numS 4 s = q at *
  obtain ⟨u, s1⟩ := q
  obtain ⟨n, rfl⟩ := nat_of h1.1
  have e2 := list_ev40 s1 n h1s (by simp only at h1; omega)
  have h2 := listP_inv stS numS_I (most := 40) (by omega) h1s n
  have h2l := listS_len 40 n s1
  simp only [Int.toNat_natCast]
  generalize listP numS stS 40 n s1 = q2 at *
  obtain ⟨S, s2⟩ := q2
  simp only at h2 h2l e1 e2 ⊢
  have hnw : IntKind.i64.wrap ((n : Int) - 1) = (n : Int) - 1 := wrap_i64 (by omega) (by omega)
  have hSI : AV.ro n (S.map (.int .i64)) = rI S := by rw [← h2l]; rfl
  have hSl : (S.length : Int) = n := by omega
  obtain ⟨RI, hRI⟩ : ∃ x, rI S = x := ⟨_, rfl⟩
  obtain ⟨cs, hcs⟩ : ∃ x, S.map (AV.int .i64) = x := ⟨_, rfl⟩
  have hRI' : RI = .ro n cs := by rw [← hRI, ← hcs, hSI]
  have hcl : cs.length = n := by rw [← hcs, List.length_map, h2l]
  have hct : List.take n cs = cs := List.take_of_length_le (by omega)
  rw [hcs] at e2
  simp only [vR] at e1 e2
  rw [hRI]
  simp [beqI, bneI, mm_min2, mm_max2, mm_min3, mm_max3, startE, lkE, lkX, lkE_rest, sx, substE, opVA, objs0, List.replicate, XA_seq, XA_region, XOA_go, goE_someA, opV, ev, putA, layAll, XOA_nil, XA_skip_seq, XA_skip_nil, XOA_gd, goG_tA, goG_uA, binV, bi_add, bi_sub, bi_mul, bi_quo, bi_rem, bi_eql, bi_neq, bi_lss, bi_leq, bi_gtr, bi_geq, bi_shl, bi_shr, bi_and, bi_or, bi_xor, unV, XA_ret_nil, XA_ret_cons, endFA_r, endFA_n, endTA_r, endTA_n, endRA_r, endRA_n, endEA_r, endEA_n, List.take, fltR, resultsA, resAs, resA, XA_block, XA_cond, pickX_t, pickX_f, pickX_b, XA_skip_blk, XA_skip_lp, XA_exit_seq, XA_exit_lp, XA_exit_blk, XA_exit_nil, load1, Ev.loadCells, objCells, bodyCells, setCells, AV.flat, AV.flat1, backR, backV, backCell, mapO, AV.cells, AV.atom, AV.tree, fillV, repeatL, treeCell, freezeAll, eqCells, callV_T, callV_F, passN, passV, passCell, srcCells, sliceBounds, hiB, loB, thenQ_nA, thenQ_xA, thenQ_rA, runK_nA, runK_xA, runK_rA, wrap_i64, wrap_u64, wrap_u32, wrap_u8, wrap_u16, callV_O, okIds, passObjs, passBody, backObjs, backBody, adopts, List.idxOf?, List.findIdx?, List.findIdx?.go, vR, e1, e2, hnw, hcl, hct]
  refine XA_for (fun i => ⟨[(0, .ptr 0 0 0), (2, .ptr 1 0 0), (3, .ptr 2 0 0), (13, .int .i64 ((n : Int) - 1)), (14, .int .i64 i)], [vR (upP numS stS S i s2).2, ⟨0, .var [.nilsl, .nilsl]⟩, ⟨0, .var [RI, nlOr 3 1 i]⟩, nlObj 1 i ((upP numS stS S i s2).1.map rI)]⟩)
    (fun i => True) (n - 1) 0 (Nat.zero_le _) (by simp [AV.atom, normA, lkE, fixObjs, fixBody, fixV, fixCell, vR, upP, rep, nlOr, nlObj, hRI']) trivial ?_ ?_
  · intro i _ hi _
    have hi' : (i : Int) < (n : Int) - 1 := by omega
    have hP := upP_inv stS numS_I S h2.2.2 h2.2.1 i
    have hl := upS_len S i s2
    rw [upS_succ]
    generalize upP numS stS S i s2 = p at *
    obtain ⟨L, s3⟩ := p
    simp only at hP hl
    simp only [upF, hl]
    have hSi : i < S.length := by omega
    have hix := idxI S i hSi
    rw [hcs] at hix
    have hv := h2.2.2 _ (List.getElem_mem hSi)
    rw [gI_get _ _ hSi]
    obtain ⟨k, hk⟩ := nat_of hv.1
    rw [hk] at hv hix ⊢
    simp only [Int.toNat_natCast]
    have e3 := list_ev40 s3 k hP.2.1 (by omega)
    have h3l := listS_len 40 k s3
    generalize listP numS stS 40 k s3 = q3 at *
    obtain ⟨l, s4⟩ := q3
    simp only at h3l e3
    have hin : (i : Int) < (n : Int) := by omega
    have g1 : (i + 1) * 24 ≤ 140737488355328 := by omega
    have g2 : i + 1 < 4611686018427387904 := by omega
    have hrl : rI l = .ro k (l.map (.int .i64)) := by rw [← h3l]; rfl
    obtain ⟨rl, hrl2⟩ : ∃ x, l.map (AV.int .i64) = x := ⟨_, rfl⟩
    have hkl : rl.length = k := by rw [← hrl2, List.length_map, h3l]
    have hkt : List.take k rl = rl := List.take_of_length_le (by omega)
    rw [hrl2] at hrl e3
    simp only [vR] at e3
    have hw := wrap_succ i (n - 1) hi (by omega)
    rcases Nat.eq_zero_or_pos i with h0 | h0
    · subst h0
      have hL : L = [] := List.length_eq_zero_iff.1 hl
      subst hL
      have z1 : (1 : Int) < n := by omega
      have z2 : 0 < n := by omega
      simp at hix hw
      simp [z1, z2, hw, beqI, bneI, mm_min2, mm_max2, mm_min3, mm_max3, startE, lkE, lkX, lkE_rest, sx, substE, opVA, objs0, List.replicate, XA_seq, XA_region, XOA_go, goE_someA, opV, ev, putA, layAll, XOA_nil, XA_skip_seq, XA_skip_nil, XOA_gd, goG_tA, goG_uA, binV, bi_add, bi_sub, bi_mul, bi_quo, bi_rem, bi_eql, bi_neq, bi_lss, bi_leq, bi_gtr, bi_geq, bi_shl, bi_shr, bi_and, bi_or, bi_xor, unV, XA_ret_nil, XA_ret_cons, endFA_r, endFA_n, endTA_r, endTA_n, endRA_r, endRA_n, endEA_r, endEA_n, List.take, fltR, resultsA, resAs, resA, XA_block, XA_cond, pickX_t, pickX_f, pickX_b, XA_skip_blk, XA_skip_lp, XA_exit_seq, XA_exit_lp, XA_exit_blk, XA_exit_nil, load1, Ev.loadCells, objCells, bodyCells, setCells, AV.flat, AV.flat1, backR, backV, backCell, mapO, AV.cells, AV.atom, AV.tree, fillV, repeatL, treeCell, freezeAll, eqCells, callV_T, callV_F, passN, passV, passCell, srcCells, sliceBounds, hiB, loB, thenQ_nA, thenQ_xA, thenQ_rA, runK_nA, runK_xA, runK_rA, wrap_i64, wrap_u64, wrap_u32, wrap_u8, wrap_u16, callV_O, okIds, passObjs, passBody, backObjs, backBody, adopts, List.idxOf?, List.findIdx?, List.findIdx?.go, AV.atom, normA, lkE, fixObjs, fixBody, fixV, fixCell, vR, hi', hix, hin, e3, nlOr, nlObj, hRI', hrl, hkl, hkt]
    · have h0' : ¬ i = 0 := by omega
      simp [beqI, bneI, mm_min2, mm_max2, mm_min3, mm_max3, startE, lkE, lkX, lkE_rest, sx, substE, opVA, objs0, List.replicate, XA_seq, XA_region, XOA_go, goE_someA, opV, ev, putA, layAll, XOA_nil, XA_skip_seq, XA_skip_nil, XOA_gd, goG_tA, goG_uA, binV, bi_add, bi_sub, bi_mul, bi_quo, bi_rem, bi_eql, bi_neq, bi_lss, bi_leq, bi_gtr, bi_geq, bi_shl, bi_shr, bi_and, bi_or, bi_xor, unV, XA_ret_nil, XA_ret_cons, endFA_r, endFA_n, endTA_r, endTA_n, endRA_r, endRA_n, endEA_r, endEA_n, List.take, fltR, resultsA, resAs, resA, XA_block, XA_cond, pickX_t, pickX_f, pickX_b, XA_skip_blk, XA_skip_lp, XA_exit_seq, XA_exit_lp, XA_exit_blk, XA_exit_nil, load1, Ev.loadCells, objCells, bodyCells, setCells, AV.flat, AV.flat1, backR, backV, backCell, mapO, AV.cells, AV.atom, AV.tree, fillV, repeatL, treeCell, freezeAll, eqCells, callV_T, callV_F, passN, passV, passCell, srcCells, sliceBounds, hiB, loB, thenQ_nA, thenQ_xA, thenQ_rA, runK_nA, runK_xA, runK_rA, wrap_i64, wrap_u64, wrap_u32, wrap_u8, wrap_u16, callV_O, okIds, passObjs, passBody, backObjs, backBody, adopts, List.idxOf?, List.findIdx?, List.findIdx?.go, AV.atom, normA, lkE, fixObjs, fixBody, fixV, fixCell, vR, hi', hix, hin, e3, nlOr, nlObj, hRI', hrl, hkl, hkt, h0', g1, g2, hl, hw]
  · intro _
    have hl := upS_len S (n - 1) s2
    have hlt : ¬ ((n - 1 : Nat) : Int) < (n : Int) - 1 := by omega
    generalize upP numS stS S (n - 1) s2 = p at *
    obtain ⟨L, s3⟩ := p
    simp only at hl
    by_cases h0 : n - 1 = 0
    · have hL : L.length = 0 := by omega
      have z1 : ¬ (1 : Int) < n := by omega
      simp [z1, hRI', beqI, bneI, mm_min2, mm_max2, mm_min3, mm_max3, startE, lkE, lkX, lkE_rest, sx, substE, opVA, objs0, List.replicate, XA_seq, XA_region, XOA_go, goE_someA, opV, ev, putA, layAll, XOA_nil, XA_skip_seq, XA_skip_nil, XOA_gd, goG_tA, goG_uA, binV, bi_add, bi_sub, bi_mul, bi_quo, bi_rem, bi_eql, bi_neq, bi_lss, bi_leq, bi_gtr, bi_geq, bi_shl, bi_shr, bi_and, bi_or, bi_xor, unV, XA_ret_nil, XA_ret_cons, endFA_r, endFA_n, endTA_r, endTA_n, endRA_r, endRA_n, endEA_r, endEA_n, List.take, fltR, resultsA, resAs, resA, XA_block, XA_cond, pickX_t, pickX_f, pickX_b, XA_skip_blk, XA_skip_lp, XA_exit_seq, XA_exit_lp, XA_exit_blk, XA_exit_nil, load1, Ev.loadCells, objCells, bodyCells, setCells, AV.flat, AV.flat1, backR, backV, backCell, mapO, AV.cells, AV.atom, AV.tree, fillV, repeatL, treeCell, freezeAll, eqCells, callV_T, callV_F, passN, passV, passCell, srcCells, sliceBounds, hiB, loB, thenQ_nA, thenQ_xA, thenQ_rA, runK_nA, runK_xA, runK_rA, wrap_i64, wrap_u64, wrap_u32, wrap_u8, wrap_u16, callV_O, okIds, passObjs, passBody, backObjs, backBody, adopts, List.idxOf?, List.findIdx?, List.findIdx?.go, AV.atom, normA, lkE, fixObjs, fixBody, fixV, fixCell, endRA_n, endRA_r, vR, hlt, nlOr, nlObj, h0, hL]
    · have hL : L.length = n - 1 := by omega
      simp [hRI', beqI, bneI, mm_min2, mm_max2, mm_min3, mm_max3, startE, lkE, lkX, lkE_rest, sx, substE, opVA, objs0, List.replicate, XA_seq, XA_region, XOA_go, goE_someA, opV, ev, putA, layAll, XOA_nil, XA_skip_seq, XA_skip_nil, XOA_gd, goG_tA, goG_uA, binV, bi_add, bi_sub, bi_mul, bi_quo, bi_rem, bi_eql, bi_neq, bi_lss, bi_leq, bi_gtr, bi_geq, bi_shl, bi_shr, bi_and, bi_or, bi_xor, unV, XA_ret_nil, XA_ret_cons, endFA_r, endFA_n, endTA_r, endTA_n, endRA_r, endRA_n, endEA_r, endEA_n, List.take, fltR, resultsA, resAs, resA, XA_block, XA_cond, pickX_t, pickX_f, pickX_b, XA_skip_blk, XA_skip_lp, XA_exit_seq, XA_exit_lp, XA_exit_blk, XA_exit_nil, load1, Ev.loadCells, objCells, bodyCells, setCells, AV.flat, AV.flat1, backR, backV, backCell, mapO, AV.cells, AV.atom, AV.tree, fillV, repeatL, treeCell, freezeAll, eqCells, callV_T, callV_F, passN, passV, passCell, srcCells, sliceBounds, hiB, loB, thenQ_nA, thenQ_xA, thenQ_rA, runK_nA, runK_xA, runK_rA, wrap_i64, wrap_u64, wrap_u32, wrap_u8, wrap_u16, callV_O, okIds, passObjs, passBody, backObjs, backBody, adopts, List.idxOf?, List.findIdx?, List.findIdx?.go, AV.atom, normA, lkE, fixObjs, fixBody, fixV, fixCell, endRA_n, endRA_r, vR, hlt, nlOr, nlObj, h0, hL]
end Go.Proofs.Ytmnafjgkhhdidaa
