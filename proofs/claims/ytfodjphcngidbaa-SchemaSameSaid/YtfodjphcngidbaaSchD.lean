/- Catalogs as bytes; the document's. -/
import Derived.Test.YtfodjphcngidbaaSchC
set_option linter.unusedSimpArgs false
set_option linter.unusedVariables false
set_option maxHeartbeats 4000000
set_option maxRecDepth 100000
namespace Go.Proofs.Ytfodjphcngidbaa
open Go.Ev
theorem bytes_cf (a b : List Int) (ha : a.length ≤ 100000000) (hb : b.length ≤ 100000000) : cfT tab 31 [rB a, rB b] [] = some (.own 0 3 0 (a.length + b.length) 1, [⟨3, .row true 1 ((a ++ b).map (.int .u8))⟩]) := by
  refine cfTA_R (mf := Mf.f31) rfl rfl (by kernel_rfl) ?_
  simp only [Mf.f31]
  have q1 : a.length ≤ 140737488355328 := by omega
  have q2 : a.length < 4611686018427387904 := by omega
  have q3 : a.length + b.length ≤ 140737488355328 := by omega
  have q4 : a.length + b.length < 4611686018427387904 := by omega
  simp [beqI, bneI, mm_min2, mm_max2, mm_min3, mm_max3, startE, lkE, lkX, lkE_rest, sx, substE, opVA, objs0, List.replicate, XA_seq, XA_region, XOA_go, goE_someA, opV, ev, putA, layAll, XOA_nil, XA_skip_seq, XA_skip_nil, XOA_gd, goG_tA, goG_uA, binV, bi_add, bi_sub, bi_mul, bi_quo, bi_rem, bi_eql, bi_neq, bi_lss, bi_leq, bi_gtr, bi_geq, bi_shl, bi_shr, bi_and, bi_or, bi_xor, unV, XA_ret_nil, XA_ret_cons, endFA_r, endFA_n, endTA_r, endTA_n, endRA_r, endRA_n, fltR, resultsA, resAs, resA, XA_block, XA_cond, pickX_t, pickX_f, pickX_b, XA_skip_blk, XA_skip_lp, XA_exit_seq, XA_exit_lp, XA_exit_blk, XA_exit_nil, load1, Ev.loadCells, objCells, bodyCells, setCells, AV.flat, AV.flat1, backR, backV, backCell, mapO, AV.cells, AV.atom, AV.tree, fillV, repeatL, treeCell, freezeAll, eqCells, callV_T, callV_F, passV, passCell, srcCells, sliceBounds, hiB, loB, thenQ_nA, thenQ_xA, thenQ_rA, runK_nA, runK_xA, runK_rA, wrap_i64, wrap_u64, wrap_u32, wrap_u8, wrap_u16, rB, q1, q2, q3, q4, List.take_of_length_le]
theorem rBytes_ev (ds : List Dm) (m : Int) (hC : okC ds) : cvT tab 18 [.agg [.ro ds.length (flatD ds), .int .i64 m]] = some (rB (bytesC ds m)) := by
  refine cvTA_R (mf := Mf.f18) rfl rfl (by kernel_rfl) ?_
  simp only [Mf.f18]
  cases g : goodC ds m with
  | false => simp [beqI, bneI, mm_min2, mm_max2, mm_min3, mm_max3, startE, lkE, lkX, lkE_rest, sx, substE, opVA, objs0, List.replicate, XA_seq, XA_region, XOA_go, goE_someA, opV, ev, putA, layAll, XOA_nil, XA_skip_seq, XA_skip_nil, XOA_gd, goG_tA, goG_uA, binV, bi_add, bi_sub, bi_mul, bi_quo, bi_rem, bi_eql, bi_neq, bi_lss, bi_leq, bi_gtr, bi_geq, bi_shl, bi_shr, bi_and, bi_or, bi_xor, unV, XA_ret_nil, XA_ret_cons, endFA_r, endFA_n, endTA_r, endTA_n, endRA_r, endRA_n, fltR, resultsA, resAs, resA, XA_block, XA_cond, pickX_t, pickX_f, pickX_b, XA_skip_blk, XA_skip_lp, XA_exit_seq, XA_exit_lp, XA_exit_blk, XA_exit_nil, load1, Ev.loadCells, objCells, bodyCells, setCells, AV.flat, AV.flat1, backR, backV, backCell, mapO, AV.cells, AV.atom, AV.tree, fillV, repeatL, treeCell, freezeAll, eqCells, callV_T, callV_F, passV, passCell, srcCells, sliceBounds, hiB, loB, thenQ_nA, thenQ_xA, thenQ_rA, runK_nA, runK_xA, runK_rA, wrap_i64, wrap_u64, wrap_u32, wrap_u8, wrap_u16, rgood_ev ds m hC, g, bytesC, rB]
  | true =>
    have hl := goodC_len g
    have hB : bytesC ds m = headB ds m ++ ds.flatMap dimB := by unfold bytesC bytesG; rw [if_pos g]
    have d1 := digits_ev m.toNat (by omega)
    rw [Int.toNat_of_nonneg (by omega)] at d1
    have d2 := digits_ev ds.length (by omega)
    have hb := headB_len g
    unfold headB at hb
    rw [List.length_append] at hb
    have d3 := bytes_cf (digN m.toNat) (digN ds.length) (by omega) (by omega)
    have hh : digN m.toNat ++ digN ds.length = headB ds m := rfl
    rw [hh, show (digN m.toNat).length + (digN ds.length).length = (headB ds m).length from by rw [← hh, List.length_append]] at d3
    have w1 : IntKind.u64.wrap m = m := wrap_u64 (by omega) (by omega)
    have w2 : IntKind.u64.wrap (ds.length : Int) = (ds.length : Int) := wrap_u64 (by omega) (by omega)
    simp only [rB] at d1 d2 d3
    simp [beqI, bneI, mm_min2, mm_max2, mm_min3, mm_max3, startE, lkE, lkX, lkE_rest, sx, substE, opVA, objs0, List.replicate, XA_seq, XA_region, XOA_go, goE_someA, opV, ev, putA, layAll, XOA_nil, XA_skip_seq, XA_skip_nil, XOA_gd, goG_tA, goG_uA, binV, bi_add, bi_sub, bi_mul, bi_quo, bi_rem, bi_eql, bi_neq, bi_lss, bi_leq, bi_gtr, bi_geq, bi_shl, bi_shr, bi_and, bi_or, bi_xor, unV, XA_ret_nil, XA_ret_cons, endFA_r, endFA_n, endTA_r, endTA_n, endRA_r, endRA_n, fltR, resultsA, resAs, resA, XA_block, XA_cond, pickX_t, pickX_f, pickX_b, XA_skip_blk, XA_skip_lp, XA_exit_seq, XA_exit_lp, XA_exit_blk, XA_exit_nil, load1, Ev.loadCells, objCells, bodyCells, setCells, AV.flat, AV.flat1, backR, backV, backCell, mapO, AV.cells, AV.atom, AV.tree, fillV, repeatL, treeCell, freezeAll, eqCells, callV_T, callV_F, passV, passCell, srcCells, sliceBounds, hiB, loB, thenQ_nA, thenQ_xA, thenQ_rA, runK_nA, runK_xA, runK_rA, wrap_i64, wrap_u64, wrap_u32, wrap_u8, wrap_u16, callV_A, okIds, adopts, List.lookup, rgood_ev ds m hC, g, d1, d2, d3, w1, w2]
    refine XA_for (fun i => ⟨[(1, .ptr 0 0 0), (3, .own 1 0 0 (headB ds m ++ (ds.take i).flatMap dimB).length 1), (4, .int .i64 i)], [⟨0, .var [.ro ds.length (flatD ds), .int .i64 m]⟩, ⟨0, .row true 1 ((headB ds m ++ (ds.take i).flatMap dimB).map (.int .u8))⟩, ⟨0, .none⟩]⟩)
      (fun i => True) ds.length 0 (Nat.zero_le _) (by simp [AV.atom, normA, lkE, fixObjs, fixBody, fixV, fixCell, rB]) trivial ?_ ?_
    · intro i _ hi _
      have hi' : (i : Int) < ds.length := by omega
      have hb := headB_len g
      have ht := take_len g i
      have hsn := flatMap_snoc dimB ds i hi
      have hsm := small_at g _ (List.getElem_mem hi)
      have hd := dropD ds i hi
      rw [gD_get hi] at hd
      have hws := wrap_succ i ds.length hi (by omega)
      generalize ds[i] = d at *
      have hhd := hsm.head
      have hsS := hsm.s
      have hsU := hsm.u
      have d4 := digits_ev d.S.length (by omega)
      have w3 : IntKind.u64.wrap (d.S.length : Int) = (d.S.length : Int) := wrap_u64 (by omega) (by omega)
      obtain ⟨A, hA⟩ : ∃ A, headB ds m ++ (ds.take i).flatMap dimB = A := ⟨_, rfl⟩
      obtain ⟨D, hD⟩ : ∃ D, digN d.S.length = D := ⟨_, rfl⟩
      have hAl : A.length ≤ 5020 := by rw [← hA, List.length_append]; omega
      rw [hD] at d4 hhd
      have q1 : A.length + D.length ≤ 140737488355328 := by omega
      have q2 : A.length + D.length < 4611686018427387904 := by omega
      simp only [rI, rB, rR] at hd d4
      simp [beqI, bneI, mm_min2, mm_max2, mm_min3, mm_max3, startE, lkE, lkX, lkE_rest, sx, substE, opVA, objs0, List.replicate, XA_seq, XA_region, XOA_go, goE_someA, opV, ev, putA, layAll, XOA_nil, XA_skip_seq, XA_skip_nil, XOA_gd, goG_tA, goG_uA, binV, bi_add, bi_sub, bi_mul, bi_quo, bi_rem, bi_eql, bi_neq, bi_lss, bi_leq, bi_gtr, bi_geq, bi_shl, bi_shr, bi_and, bi_or, bi_xor, unV, XA_ret_nil, XA_ret_cons, endFA_r, endFA_n, endTA_r, endTA_n, endRA_r, endRA_n, fltR, resultsA, resAs, resA, XA_block, XA_cond, pickX_t, pickX_f, pickX_b, XA_skip_blk, XA_skip_lp, XA_exit_seq, XA_exit_lp, XA_exit_blk, XA_exit_nil, load1, Ev.loadCells, objCells, bodyCells, setCells, AV.flat, AV.flat1, backR, backV, backCell, mapO, AV.cells, AV.atom, AV.tree, fillV, repeatL, treeCell, freezeAll, eqCells, callV_T, callV_F, passV, passCell, srcCells, sliceBounds, hiB, loB, thenQ_nA, thenQ_xA, thenQ_rA, runK_nA, runK_xA, runK_rA, wrap_i64, wrap_u64, wrap_u32, wrap_u8, wrap_u16, AV.atom, normA, lkE, fixObjs, fixBody, fixV, fixCell, hi', hd, rB, hA, d4, w3, q1, q2, List.take_of_length_le]
      refine XA_for (fun k => ⟨[(1, .ptr 0 0 0), (3, .own 1 0 0 (A ++ D ++ putL (d.S.take k)).length 1), (4, .int .i64 i), (5, .ptr 2 0 0), (6, .int .i64 k)], [⟨0, .var [.ro ds.length (flatD ds), .int .i64 m]⟩, ⟨0, .row true 1 ((A ++ D ++ putL (d.S.take k)).map (.int .u8))⟩, ⟨0, .var [rI d.S, rR d.U]⟩]⟩)
        (fun i => True) d.S.length 0 (Nat.zero_le _) (by simp [AV.atom, normA, lkE, fixObjs, fixBody, fixV, fixCell, rB, rI, rR, putL]) trivial ?_ ?_
      · intro k _ hk _
        have hk' : (k : Int) < d.S.length := by omega
        have hsv := hsm.sv _ (List.getElem_mem hk)
        have ix := idxI d.S k hk
        have hpn := putL_snoc d.S k hk
        have hpl := putL_len (d.S.take k) (fun n hn => by have := hsm.sv n (List.mem_of_mem_take hn); omega)
        rw [List.length_take] at hpl
        have d5 := digits_ev d.S[k].toNat (by omega)
        have hdt := digN_ten (u := d.S[k].toNat) (by omega)
        have w5 : IntKind.u64.wrap d.S[k] = d.S[k] := wrap_u64 (by omega) (by omega)
        rw [Int.toNat_of_nonneg hsv.1] at d5
        have hPQ : A ++ D ++ putL (d.S.take (k + 1)) = (A ++ D ++ putL (d.S.take k)) ++ digN d.S[k].toNat := by rw [hpn]; simp
        have hPl : (A ++ D ++ putL (d.S.take k)).length ≤ 6000 := by simp only [List.length_append]; omega
        generalize digN d.S[k].toNat = E at *
        generalize d.S[k] = n at *
        generalize A ++ D ++ putL (d.S.take k) = P at *
        generalize A ++ D ++ putL (d.S.take (k + 1)) = Q at *
        subst hPQ
        have q3 : P.length + E.length ≤ 140737488355328 := by omega
        have q4 : P.length + E.length < 4611686018427387904 := by omega
        simp only [rB] at d5
        simp [beqI, bneI, mm_min2, mm_max2, mm_min3, mm_max3, startE, lkE, lkX, lkE_rest, sx, substE, opVA, objs0, List.replicate, XA_seq, XA_region, XOA_go, goE_someA, opV, ev, putA, layAll, XOA_nil, XA_skip_seq, XA_skip_nil, XOA_gd, goG_tA, goG_uA, binV, bi_add, bi_sub, bi_mul, bi_quo, bi_rem, bi_eql, bi_neq, bi_lss, bi_leq, bi_gtr, bi_geq, bi_shl, bi_shr, bi_and, bi_or, bi_xor, unV, XA_ret_nil, XA_ret_cons, endFA_r, endFA_n, endTA_r, endTA_n, endRA_r, endRA_n, fltR, resultsA, resAs, resA, XA_block, XA_cond, pickX_t, pickX_f, pickX_b, XA_skip_blk, XA_skip_lp, XA_exit_seq, XA_exit_lp, XA_exit_blk, XA_exit_nil, load1, Ev.loadCells, objCells, bodyCells, setCells, AV.flat, AV.flat1, backR, backV, backCell, mapO, AV.cells, AV.atom, AV.tree, fillV, repeatL, treeCell, freezeAll, eqCells, callV_T, callV_F, passV, passCell, srcCells, sliceBounds, hiB, loB, thenQ_nA, thenQ_xA, thenQ_rA, runK_nA, runK_xA, runK_rA, wrap_i64, wrap_u64, wrap_u32, wrap_u8, wrap_u16, AV.atom, normA, lkE, fixObjs, fixBody, fixV, fixCell, hk', ix, rB, rI, rR, d5, w5, q3, q4, List.take_of_length_le, wrap_succ k d.S.length hk (by omega)]
      · intro _
        rw [List.take_length]
        obtain ⟨B, hBd⟩ : ∃ B, A ++ D ++ putL d.S = B := ⟨_, rfl⟩
        have hBl : B.length ≤ 6000 := by rw [← hBd]; simp only [List.length_append]; omega
        rw [hBd]
        simp [beqI, bneI, mm_min2, mm_max2, mm_min3, mm_max3, startE, lkE, lkX, lkE_rest, sx, substE, opVA, objs0, List.replicate, XA_seq, XA_region, XOA_go, goE_someA, opV, ev, putA, layAll, XOA_nil, XA_skip_seq, XA_skip_nil, XOA_gd, goG_tA, goG_uA, binV, bi_add, bi_sub, bi_mul, bi_quo, bi_rem, bi_eql, bi_neq, bi_lss, bi_leq, bi_gtr, bi_geq, bi_shl, bi_shr, bi_and, bi_or, bi_xor, unV, XA_ret_nil, XA_ret_cons, endFA_r, endFA_n, endTA_r, endTA_n, endRA_r, endRA_n, fltR, resultsA, resAs, resA, XA_block, XA_cond, pickX_t, pickX_f, pickX_b, XA_skip_blk, XA_skip_lp, XA_exit_seq, XA_exit_lp, XA_exit_blk, XA_exit_nil, load1, Ev.loadCells, objCells, bodyCells, setCells, AV.flat, AV.flat1, backR, backV, backCell, mapO, AV.cells, AV.atom, AV.tree, fillV, repeatL, treeCell, freezeAll, eqCells, callV_T, callV_F, passV, passCell, srcCells, sliceBounds, hiB, loB, thenQ_nA, thenQ_xA, thenQ_rA, runK_nA, runK_xA, runK_rA, wrap_i64, wrap_u64, wrap_u32, wrap_u8, wrap_u16, AV.atom, normA, lkE, fixObjs, fixBody, fixV, fixCell, rB, rR, rI]
        refine XA_for (fun k => ⟨[(1, .ptr 0 0 0), (3, .own 1 0 0 (B ++ (d.U.take k).flatMap putL).length 1), (4, .int .i64 i), (5, .ptr 2 0 0), (7, .int .i64 k)], [⟨0, .var [.ro ds.length (flatD ds), .int .i64 m]⟩, ⟨0, .row true 1 ((B ++ (d.U.take k).flatMap putL).map (.int .u8))⟩, ⟨0, .var [rI d.S, rR d.U]⟩]⟩)
          (fun i => True) d.U.length 0 (Nat.zero_le _) (by simp [AV.atom, normA, lkE, fixObjs, fixBody, fixV, fixCell, rB, rI, rR]) trivial ?_ ?_
        · intro k _ hk _
          have hk' : (k : Int) < d.U.length := by omega
          have hrw := hsm.rows k
          have hsn2 := flatMap_snoc putL d.U k hk
          have hmem := List.getElem_mem hk
          have hul := hsm.ul _ hmem
          have huv := hsm.uv _ hmem
          have ix := idxR d.U k hk
          have hws2 := wrap_succ k d.U.length hk (by omega)
          have hPQ : B ++ (d.U.take (k + 1)).flatMap putL = (B ++ (d.U.take k).flatMap putL) ++ putL d.U[k] := by rw [hsn2]; simp
          have hPl : (B ++ (d.U.take k).flatMap putL).length ≤ 8000 := by simp only [List.length_append]; omega
          generalize B ++ (d.U.take k).flatMap putL = P at *
          generalize d.U[k] = row at *
          simp only [rI] at ix
          simp [beqI, bneI, mm_min2, mm_max2, mm_min3, mm_max3, startE, lkE, lkX, lkE_rest, sx, substE, opVA, objs0, List.replicate, XA_seq, XA_region, XOA_go, goE_someA, opV, ev, putA, layAll, XOA_nil, XA_skip_seq, XA_skip_nil, XOA_gd, goG_tA, goG_uA, binV, bi_add, bi_sub, bi_mul, bi_quo, bi_rem, bi_eql, bi_neq, bi_lss, bi_leq, bi_gtr, bi_geq, bi_shl, bi_shr, bi_and, bi_or, bi_xor, unV, XA_ret_nil, XA_ret_cons, endFA_r, endFA_n, endTA_r, endTA_n, endRA_r, endRA_n, fltR, resultsA, resAs, resA, XA_block, XA_cond, pickX_t, pickX_f, pickX_b, XA_skip_blk, XA_skip_lp, XA_exit_seq, XA_exit_lp, XA_exit_blk, XA_exit_nil, load1, Ev.loadCells, objCells, bodyCells, setCells, AV.flat, AV.flat1, backR, backV, backCell, mapO, AV.cells, AV.atom, AV.tree, fillV, repeatL, treeCell, freezeAll, eqCells, callV_T, callV_F, passV, passCell, srcCells, sliceBounds, hiB, loB, thenQ_nA, thenQ_xA, thenQ_rA, runK_nA, runK_xA, runK_rA, wrap_i64, wrap_u64, wrap_u32, wrap_u8, wrap_u16, AV.atom, normA, lkE, fixObjs, fixBody, fixV, fixCell, hk', rB, rI, rR, ix]
          refine XA_for (fun j => ⟨[(1, .ptr 0 0 0), (3, .own 1 0 0 (P ++ putL (row.take j)).length 1), (4, .int .i64 i), (5, .ptr 2 0 0), (7, .int .i64 k), (8, .int .i64 j)], [⟨0, .var [.ro ds.length (flatD ds), .int .i64 m]⟩, ⟨0, .row true 1 ((P ++ putL (row.take j)).map (.int .u8))⟩, ⟨0, .var [rI d.S, rR d.U]⟩]⟩)
            (fun i => True) row.length 0 (Nat.zero_le _) (by simp [AV.atom, normA, lkE, fixObjs, fixBody, fixV, fixCell, rB, rI, rR, putL]) trivial ?_ ?_
          · intro j _ hj _
            have hj' : (j : Int) < row.length := by omega
            have hjv := huv _ (List.getElem_mem hj)
            have ix2 := idxI row j hj
            have hpn := putL_snoc row j hj
            have hpl := putL_len (row.take j) (fun n hn => by have := huv n (List.mem_of_mem_take hn); omega)
            rw [List.length_take] at hpl
            have d5 := digits_ev row[j].toNat (by omega)
            have hdt := digN_ten (u := row[j].toNat) (by omega)
            have w5 : IntKind.u64.wrap row[j] = row[j] := wrap_u64 (by omega) (by omega)
            rw [Int.toNat_of_nonneg hjv.1] at d5
            have hPQ2 : P ++ putL (row.take (j + 1)) = (P ++ putL (row.take j)) ++ digN row[j].toNat := by rw [hpn]; simp
            have hPl2 : (P ++ putL (row.take j)).length ≤ 9000 := by simp only [List.length_append]; omega
            have hws3 := wrap_succ j row.length hj (by omega)
            generalize digN row[j].toNat = E at *
            generalize row[j] = n at *
            generalize P ++ putL (row.take j) = P1 at *
            generalize P ++ putL (row.take (j + 1)) = Q1 at *
            subst hPQ2
            have q3 : P1.length + E.length ≤ 140737488355328 := by omega
            have q4 : P1.length + E.length < 4611686018427387904 := by omega
            simp only [rB] at d5
            simp [beqI, bneI, mm_min2, mm_max2, mm_min3, mm_max3, startE, lkE, lkX, lkE_rest, sx, substE, opVA, objs0, List.replicate, XA_seq, XA_region, XOA_go, goE_someA, opV, ev, putA, layAll, XOA_nil, XA_skip_seq, XA_skip_nil, XOA_gd, goG_tA, goG_uA, binV, bi_add, bi_sub, bi_mul, bi_quo, bi_rem, bi_eql, bi_neq, bi_lss, bi_leq, bi_gtr, bi_geq, bi_shl, bi_shr, bi_and, bi_or, bi_xor, unV, XA_ret_nil, XA_ret_cons, endFA_r, endFA_n, endTA_r, endTA_n, endRA_r, endRA_n, fltR, resultsA, resAs, resA, XA_block, XA_cond, pickX_t, pickX_f, pickX_b, XA_skip_blk, XA_skip_lp, XA_exit_seq, XA_exit_lp, XA_exit_blk, XA_exit_nil, load1, Ev.loadCells, objCells, bodyCells, setCells, AV.flat, AV.flat1, backR, backV, backCell, mapO, AV.cells, AV.atom, AV.tree, fillV, repeatL, treeCell, freezeAll, eqCells, callV_T, callV_F, passV, passCell, srcCells, sliceBounds, hiB, loB, thenQ_nA, thenQ_xA, thenQ_rA, runK_nA, runK_xA, runK_rA, wrap_i64, wrap_u64, wrap_u32, wrap_u8, wrap_u16, AV.atom, normA, lkE, fixObjs, fixBody, fixV, fixCell, hk', hj', ix, ix2, rB, rI, rR, d5, w5, q3, q4, List.take_of_length_le, hws3]
          · intro _
            rw [List.take_length]
            generalize hQ : B ++ (d.U.take (k + 1)).flatMap putL = Q at *
            rw [← hPQ]
            simp [beqI, bneI, mm_min2, mm_max2, mm_min3, mm_max3, startE, lkE, lkX, lkE_rest, sx, substE, opVA, objs0, List.replicate, XA_seq, XA_region, XOA_go, goE_someA, opV, ev, putA, layAll, XOA_nil, XA_skip_seq, XA_skip_nil, XOA_gd, goG_tA, goG_uA, binV, bi_add, bi_sub, bi_mul, bi_quo, bi_rem, bi_eql, bi_neq, bi_lss, bi_leq, bi_gtr, bi_geq, bi_shl, bi_shr, bi_and, bi_or, bi_xor, unV, XA_ret_nil, XA_ret_cons, endFA_r, endFA_n, endTA_r, endTA_n, endRA_r, endRA_n, fltR, resultsA, resAs, resA, XA_block, XA_cond, pickX_t, pickX_f, pickX_b, XA_skip_blk, XA_skip_lp, XA_exit_seq, XA_exit_lp, XA_exit_blk, XA_exit_nil, load1, Ev.loadCells, objCells, bodyCells, setCells, AV.flat, AV.flat1, backR, backV, backCell, mapO, AV.cells, AV.atom, AV.tree, fillV, repeatL, treeCell, freezeAll, eqCells, callV_T, callV_F, passV, passCell, srcCells, sliceBounds, hiB, loB, thenQ_nA, thenQ_xA, thenQ_rA, runK_nA, runK_xA, runK_rA, wrap_i64, wrap_u64, wrap_u32, wrap_u8, wrap_u16, AV.atom, normA, lkE, fixObjs, fixBody, fixV, fixCell, hk', ix, rB, rI, rR, hws2]
            rw [← hQ]
            simp
        · intro _
          rw [List.take_length]
          have hfin : B ++ d.U.flatMap putL = headB ds m ++ (ds.take (i + 1)).flatMap dimB := by
            rw [hsn, ← hBd, ← hD, ← hA]
            simp [dimB]
          rw [hfin]
          generalize hQQ : headB ds m ++ (ds.take (i + 1)).flatMap dimB = Q
          simp [beqI, bneI, mm_min2, mm_max2, mm_min3, mm_max3, startE, lkE, lkX, lkE_rest, sx, substE, opVA, objs0, List.replicate, XA_seq, XA_region, XOA_go, goE_someA, opV, ev, putA, layAll, XOA_nil, XA_skip_seq, XA_skip_nil, XOA_gd, goG_tA, goG_uA, binV, bi_add, bi_sub, bi_mul, bi_quo, bi_rem, bi_eql, bi_neq, bi_lss, bi_leq, bi_gtr, bi_geq, bi_shl, bi_shr, bi_and, bi_or, bi_xor, unV, XA_ret_nil, XA_ret_cons, endFA_r, endFA_n, endTA_r, endTA_n, endRA_r, endRA_n, fltR, resultsA, resAs, resA, XA_block, XA_cond, pickX_t, pickX_f, pickX_b, XA_skip_blk, XA_skip_lp, XA_exit_seq, XA_exit_lp, XA_exit_blk, XA_exit_nil, load1, Ev.loadCells, objCells, bodyCells, setCells, AV.flat, AV.flat1, backR, backV, backCell, mapO, AV.cells, AV.atom, AV.tree, fillV, repeatL, treeCell, freezeAll, eqCells, callV_T, callV_F, passV, passCell, srcCells, sliceBounds, hiB, loB, thenQ_nA, thenQ_xA, thenQ_rA, runK_nA, runK_xA, runK_rA, wrap_i64, wrap_u64, wrap_u32, wrap_u8, wrap_u16, AV.atom, normA, lkE, fixObjs, fixBody, fixV, fixCell, rB, rI, rR, hws]
          rw [← hQQ]
          simp
    · intro _
      rw [List.take_length, hB]
      generalize headB ds m ++ ds.flatMap dimB = Q
      simp [beqI, bneI, mm_min2, mm_max2, mm_min3, mm_max3, startE, lkE, lkX, lkE_rest, sx, substE, opVA, objs0, List.replicate, XA_seq, XA_region, XOA_go, goE_someA, opV, ev, putA, layAll, XOA_nil, XA_skip_seq, XA_skip_nil, XOA_gd, goG_tA, goG_uA, binV, bi_add, bi_sub, bi_mul, bi_quo, bi_rem, bi_eql, bi_neq, bi_lss, bi_leq, bi_gtr, bi_geq, bi_shl, bi_shr, bi_and, bi_or, bi_xor, unV, XA_ret_nil, XA_ret_cons, endFA_r, endFA_n, endTA_r, endTA_n, endRA_r, endRA_n, fltR, resultsA, resAs, resA, XA_block, XA_cond, pickX_t, pickX_f, pickX_b, XA_skip_blk, XA_skip_lp, XA_exit_seq, XA_exit_lp, XA_exit_blk, XA_exit_nil, load1, Ev.loadCells, objCells, bodyCells, setCells, AV.flat, AV.flat1, backR, backV, backCell, mapO, AV.cells, AV.atom, AV.tree, fillV, repeatL, treeCell, freezeAll, eqCells, callV_T, callV_F, passV, passCell, srcCells, sliceBounds, hiB, loB, thenQ_nA, thenQ_xA, thenQ_rA, runK_nA, runK_xA, runK_rA, wrap_i64, wrap_u64, wrap_u32, wrap_u8, wrap_u16, AV.atom, normA, lkE, fixObjs, fixBody, fixV, fixCell, rB, List.take_of_length_le]
end Go.Proofs.Ytfodjphcngidbaa
