/- The query of bytes: the program's. -/
import Derived.Test.YtambpbcdnhekbaaQR
import Derived.Test.YtambpbcdnhekbaaQK
set_option linter.unusedSimpArgs false
set_option linter.unusedVariables false
set_option maxHeartbeats 8000000
set_option maxRecDepth 100000
namespace Go.Proofs.Ytambpbcdnhekbaa
open Go.Ev
theorem fixesS_succ (i : Nat) (s : RS) : fixesP cnS stS (i + 1) s = fixesF cnS stS (fixesP cnS stS i s) := by
  unfold fixesP
  rw [rep_snoc]
  simp [stS]
theorem fixesS_len (n : Nat) (s : RS) : (fixesP cnS stS n s).1.length = n := rep_len (f := fixesF cnS stS) (fun s => by simp [fixesF]) ([], s) rfl n
theorem fixP_okS {cn : RS → Int × RS} (hc : ∀ s, okS s → okS (cn s).2) (st : Bool → Bool) {s : RS} (hs : okS s) : okS (fixP cn st s).2 :=
  (listP_inv st (hc _ (numQ_okS (numQ_okS hs))) _).2.1
theorem fixesP_okS {cn : RS → Int × RS} (hc : ∀ s, okS s → okS (cn s).2) (st : Bool → Bool) {s : RS} (hs : okS s) (n : Nat) : okS (fixesP cn st n s).2 := by
  refine rep_inv (s := ([], s)) (fun (n : Nat) (s : List Fx × RS) => okS s.2) ?_ ?_ hs n
  · intro i s h2
    exact fixP_okS hc st h2
  · intro i s _ h
    exact h
theorem flatF_snoc (F : List Fx) (f : Fx) : flatF (F ++ [f]) = flatF F ++ [.int .i64 f.d, .int .i64 f.l, rI f.ms] := by
  rw [flatF_append]; rfl
theorem qRead_ev (b : List Int) (hs : okS (b, false)) : cvT tab 17 [rB b] = some (resQ (readQ cnS stS b)) := by
  refine cvTA_R (mf := Mf.f17) rfl rfl (by kernel_rfl) ?_
  simp only [Mf.f17]
  by_cases hsh : 4 ≤ b.length
  · match b, hsh, hs with
    | x0 :: x1 :: x2 :: x3 :: r, _, hs =>
    have hr : okS (r, false) := hs.drop 4 false
    have hg : readQ cnS stS (x0 :: x1 :: x2 :: x3 :: r) = if (bodyP cnS stS (r, false)).2.2 = false ∧ (bodyP cnS stS (r, false)).2.1 = [] then
        some { (bodyP cnS stS (r, false)).1 with a := x0, b := x1, c := x2, e := x3 } else none := by
      unfold readQ
      simp [gI]
    rw [hg]
    clear hg
    unfold bodyP
    have e1 := rd_count (r, false) hr
    have o1 := cnS_okS hr
    have h1 := cnS_le hr
    generalize cnS (r, false) = q at *
    obtain ⟨u, s1⟩ := q
    obtain ⟨n, rfl⟩ := nat_ofQ h1.1
    simp only [Int.toNat_natCast] at e1 o1 h1 ⊢
    have hof := fixesP_okS (cn := cnS) (fun s h => cnS_okS h) stS o1 n
    have hlf := fixesS_len n s1
    obtain ⟨Z, hZ⟩ : ∃ Z, fixesP cnS stS n s1 = Z := ⟨_, rfl⟩
    rw [hZ] at hof hlf ⊢
    have hZ2 : Z = (Z.1, Z.2) := rfl
    obtain ⟨F, s2⟩ := Z
    simp only at hof hlf ⊢
    have e2 := rd_num s2 hof
    have o2 := numQ_okS hof
    generalize numQ s2 = q at *
    obtain ⟨t, s3⟩ := q
    simp only at e2 o2 ⊢
    have e3 := rd_num s3 o2
    have o3 := numQ_okS o2
    generalize numQ s3 = q at *
    obtain ⟨me, s4⟩ := q
    simp only at e3 o3 ⊢
    have e4 := rd_num s4 o3
    have o4 := numQ_okS o3
    generalize numQ s4 = q at *
    obtain ⟨fn, s5⟩ := q
    simp only at e4 o4 ⊢
    have e5 := rd_num s5 o4
    generalize numQ s5 = q at *
    obtain ⟨li, b6, bad6⟩ := q
    simp only at e5 ⊢
    obtain ⟨V, hV⟩ : ∃ V, resQ (if bad6 = false ∧ b6 = [] then some ⟨x0, x1, x2, x3, F, t, me, fn, li⟩ else none) = V := ⟨_, rfl⟩
    rw [hV]
    simp only [vR] at e1 e2 e3 e4 e5
    simp only [rB, List.map_cons, List.length_cons]
    have c1 : ¬ ((r.length : Int) + 1 + 1 + 1 + 1 < 4) := by omega
    have c2 : (4 : Int) ≤ (r.length : Int) + 1 + 1 + 1 + 1 := by omega
    have c3 : List.take r.length (r.map (AV.int .u8)) = r.map (AV.int .u8) := List.take_of_length_le (by simp)
    simp [beqI, bneI, mm_min2, mm_max2, mm_min3, mm_max3, startE, lkE, lkX, lkE_rest, sx, substE, opVA, objs0, List.replicate, XA_seq, XA_region, XOA_go, goE_someA, opV, ev, putA, layAll, XOA_nil, XA_skip_seq, XA_skip_nil, XOA_gd, goG_tA, goG_uA, binV, bi_add, bi_sub, bi_mul, bi_quo, bi_rem, bi_eql, bi_neq, bi_lss, bi_leq, bi_gtr, bi_geq, bi_shl, bi_shr, bi_and, bi_or, bi_xor, unV, XA_ret_nil, XA_ret_cons, endFA_r, endFA_n, endTA_r, endTA_n, endRA_r, endRA_n, fltR, resultsA, resAs, resA, XA_block, XA_cond, pickX_t, pickX_f, pickX_b, XA_skip_blk, XA_skip_lp, XA_exit_seq, XA_exit_lp, XA_exit_blk, XA_exit_nil, load1, Ev.loadCells, objCells, bodyCells, setCells, AV.flat, AV.flat1, backR, backV, backCell, mapO, AV.cells, AV.atom, AV.tree, fillV, repeatL, treeCell, freezeAll, eqCells, callV_T, callV_F, passN, passV, passCell, srcCells, sliceBounds, hiB, loB, thenQ_nA, thenQ_xA, thenQ_rA, runK_nA, runK_xA, runK_rA, wrap_i64, wrap_u64, wrap_u32, wrap_u8, wrap_u16, callV_O, okIds, passObjs, passBody, backObjs, backBody, adopts, List.idxOf?, List.findIdx?, List.findIdx?.go, c1, c2, c3, e1]
    refine XA_for (fun i => ⟨[(2, .ptr 0 0 0), (4, .ptr 1 0 0), (5, .ptr 2 0 0), (19, .int .i64 n), (20, .int .i64 i)], [⟨0, .var [.int .u8 0, .int .u8 0, .int .u8 0, .int .u8 0, .nilsl, .int .i64 0, .int .i64 0, .int .i64 0, .int .i64 0]⟩, ⟨0, .var [.int .u8 x0, .int .u8 x1, .int .u8 x2, .int .u8 x3, nlOr 3 3 i, .int .i64 0, .int .i64 0, .int .i64 0, .int .i64 0]⟩, vR (fixesP cnS stS i s1).2, nlObj 3 i (flatF (fixesP cnS stS i s1).1)]⟩)
      (fun i => True) n 0 (Nat.zero_le _) (by simp [AV.atom, normA, lkE, fixObjs, fixBody, fixV, fixCell, vR, fixesP, rep, nlOr, nlObj]) trivial ?_ ?_
    · intro i _ hi _
      have hi' : (i : Int) < (n : Int) := by omega
      have hP := fixesP_okS (cn := cnS) (fun s h => cnS_okS h) stS o1 i
      have hl := fixesS_len i s1
      rw [fixesS_succ]
      generalize fixesP cnS stS i s1 = p at *
      obtain ⟨L, s7⟩ := p
      simp only at hP hl
      simp only [fixesF]
      obtain ⟨H, e7, hH⟩ := rd_fix s7 hP
      generalize fixP cnS stS s7 = q3 at *
      obtain ⟨⟨d, l, ms⟩, s8⟩ := q3
      simp only at e7 hH ⊢
      rw [flatF_snoc]
      simp only
      have g1 : (i + 1) * 40 ≤ 140737488355328 := by omega
      have g2 : i + 1 < 4611686018427387904 := by omega
      have hw := wrap_succ i n hi (by omega)
      have hfl := flatF_len L
      rw [hl] at hfl
      generalize flatF L = fl at *
      simp only [vR] at e7
      by_cases hU : ms.length = 0
      · have hU' : ms = [] := List.length_eq_zero_iff.1 hU
        subst hU'
        simp only [nlOr, List.length_nil, if_true] at e7
        rcases Nat.eq_zero_or_pos i with h0 | h0
        · subst h0
          have hL : fl = [] := List.length_eq_zero_iff.1 hfl
          subst hL
          simp at hw
          have z1 : (0 : Int) < n := by omega
          have z2 : 0 < n := by omega
          simp [beqI, bneI, mm_min2, mm_max2, mm_min3, mm_max3, startE, lkE, lkX, lkE_rest, sx, substE, opVA, objs0, List.replicate, XA_seq, XA_region, XOA_go, goE_someA, opV, ev, putA, layAll, XOA_nil, XA_skip_seq, XA_skip_nil, XOA_gd, goG_tA, goG_uA, binV, bi_add, bi_sub, bi_mul, bi_quo, bi_rem, bi_eql, bi_neq, bi_lss, bi_leq, bi_gtr, bi_geq, bi_shl, bi_shr, bi_and, bi_or, bi_xor, unV, XA_ret_nil, XA_ret_cons, endFA_r, endFA_n, endTA_r, endTA_n, endRA_r, endRA_n, fltR, resultsA, resAs, resA, XA_block, XA_cond, pickX_t, pickX_f, pickX_b, XA_skip_blk, XA_skip_lp, XA_exit_seq, XA_exit_lp, XA_exit_blk, XA_exit_nil, load1, Ev.loadCells, objCells, bodyCells, setCells, AV.flat, AV.flat1, backR, backV, backCell, mapO, AV.cells, AV.atom, AV.tree, fillV, repeatL, treeCell, freezeAll, eqCells, callV_T, callV_F, passN, passV, passCell, srcCells, sliceBounds, hiB, loB, thenQ_nA, thenQ_xA, thenQ_rA, runK_nA, runK_xA, runK_rA, wrap_i64, wrap_u64, wrap_u32, wrap_u8, wrap_u16, callV_O, okIds, passObjs, passBody, backObjs, backBody, adopts, List.idxOf?, List.findIdx?, List.findIdx?.go, AV.atom, normA, lkE, fixObjs, fixBody, fixV, fixCell, vR, e7, nlOr, nlObj, rI, z1, z2, hw]
        · have h0' : ¬ i = 0 := by omega
          simp [beqI, bneI, mm_min2, mm_max2, mm_min3, mm_max3, startE, lkE, lkX, lkE_rest, sx, substE, opVA, objs0, List.replicate, XA_seq, XA_region, XOA_go, goE_someA, opV, ev, putA, layAll, XOA_nil, XA_skip_seq, XA_skip_nil, XOA_gd, goG_tA, goG_uA, binV, bi_add, bi_sub, bi_mul, bi_quo, bi_rem, bi_eql, bi_neq, bi_lss, bi_leq, bi_gtr, bi_geq, bi_shl, bi_shr, bi_and, bi_or, bi_xor, unV, XA_ret_nil, XA_ret_cons, endFA_r, endFA_n, endTA_r, endTA_n, endRA_r, endRA_n, fltR, resultsA, resAs, resA, XA_block, XA_cond, pickX_t, pickX_f, pickX_b, XA_skip_blk, XA_skip_lp, XA_exit_seq, XA_exit_lp, XA_exit_blk, XA_exit_nil, load1, Ev.loadCells, objCells, bodyCells, setCells, AV.flat, AV.flat1, backR, backV, backCell, mapO, AV.cells, AV.atom, AV.tree, fillV, repeatL, treeCell, freezeAll, eqCells, callV_T, callV_F, passN, passV, passCell, srcCells, sliceBounds, hiB, loB, thenQ_nA, thenQ_xA, thenQ_rA, runK_nA, runK_xA, runK_rA, wrap_i64, wrap_u64, wrap_u32, wrap_u8, wrap_u16, callV_O, okIds, passObjs, passBody, backObjs, backBody, adopts, List.idxOf?, List.findIdx?, List.findIdx?.go, AV.atom, normA, lkE, fixObjs, fixBody, fixV, fixCell, vR, hi', e7, nlOr, nlObj, rI, h0', g1, g2, hfl, hw]
      · simp only [nlOr, if_neg hU] at e7
        simp only [nlObj, if_neg hU] at hH
        have hUl : (ms.map (AV.int .i64)).length = ms.length := List.length_map ..
        have hRU : rI ms = .ro ms.length (ms.map (.int .i64)) := rfl
        generalize ms.map (AV.int .i64) = us at *
        have hut : List.take ms.length us = us := List.take_of_length_le (by omega)
        rcases Nat.eq_zero_or_pos i with h0 | h0
        · subst h0
          have hL : fl = [] := List.length_eq_zero_iff.1 hfl
          subst hL
          simp at hw
          have z1 : (0 : Int) < n := by omega
          have z2 : 0 < n := by omega
          simp [beqI, bneI, mm_min2, mm_max2, mm_min3, mm_max3, startE, lkE, lkX, lkE_rest, sx, substE, opVA, objs0, List.replicate, XA_seq, XA_region, XOA_go, goE_someA, opV, ev, putA, layAll, XOA_nil, XA_skip_seq, XA_skip_nil, XOA_gd, goG_tA, goG_uA, binV, bi_add, bi_sub, bi_mul, bi_quo, bi_rem, bi_eql, bi_neq, bi_lss, bi_leq, bi_gtr, bi_geq, bi_shl, bi_shr, bi_and, bi_or, bi_xor, unV, XA_ret_nil, XA_ret_cons, endFA_r, endFA_n, endTA_r, endTA_n, endRA_r, endRA_n, fltR, resultsA, resAs, resA, XA_block, XA_cond, pickX_t, pickX_f, pickX_b, XA_skip_blk, XA_skip_lp, XA_exit_seq, XA_exit_lp, XA_exit_blk, XA_exit_nil, load1, Ev.loadCells, objCells, bodyCells, setCells, AV.flat, AV.flat1, backR, backV, backCell, mapO, AV.cells, AV.atom, AV.tree, fillV, repeatL, treeCell, freezeAll, eqCells, callV_T, callV_F, passN, passV, passCell, srcCells, sliceBounds, hiB, loB, thenQ_nA, thenQ_xA, thenQ_rA, runK_nA, runK_xA, runK_rA, wrap_i64, wrap_u64, wrap_u32, wrap_u8, wrap_u16, callV_O, okIds, passObjs, passBody, backObjs, backBody, adopts, List.idxOf?, List.findIdx?, List.findIdx?.go, AV.atom, normA, lkE, fixObjs, fixBody, fixV, fixCell, vR, e7, hH, nlOr, nlObj, hRU, hUl, hut, z1, z2, hw]
        · have h0' : ¬ i = 0 := by omega
          simp [beqI, bneI, mm_min2, mm_max2, mm_min3, mm_max3, startE, lkE, lkX, lkE_rest, sx, substE, opVA, objs0, List.replicate, XA_seq, XA_region, XOA_go, goE_someA, opV, ev, putA, layAll, XOA_nil, XA_skip_seq, XA_skip_nil, XOA_gd, goG_tA, goG_uA, binV, bi_add, bi_sub, bi_mul, bi_quo, bi_rem, bi_eql, bi_neq, bi_lss, bi_leq, bi_gtr, bi_geq, bi_shl, bi_shr, bi_and, bi_or, bi_xor, unV, XA_ret_nil, XA_ret_cons, endFA_r, endFA_n, endTA_r, endTA_n, endRA_r, endRA_n, fltR, resultsA, resAs, resA, XA_block, XA_cond, pickX_t, pickX_f, pickX_b, XA_skip_blk, XA_skip_lp, XA_exit_seq, XA_exit_lp, XA_exit_blk, XA_exit_nil, load1, Ev.loadCells, objCells, bodyCells, setCells, AV.flat, AV.flat1, backR, backV, backCell, mapO, AV.cells, AV.atom, AV.tree, fillV, repeatL, treeCell, freezeAll, eqCells, callV_T, callV_F, passN, passV, passCell, srcCells, sliceBounds, hiB, loB, thenQ_nA, thenQ_xA, thenQ_rA, runK_nA, runK_xA, runK_rA, wrap_i64, wrap_u64, wrap_u32, wrap_u8, wrap_u16, callV_O, okIds, passObjs, passBody, backObjs, backBody, adopts, List.idxOf?, List.findIdx?, List.findIdx?.go, AV.atom, normA, lkE, fixObjs, fixBody, fixV, fixCell, vR, hi', e7, hH, nlOr, nlObj, hRU, hUl, hut, h0', g1, g2, hfl, hw]
    · intro _
      rw [hZ, ← hV]
      simp only [vR]
      have hfl := flatF_len F
      have hft : List.take (n * 3) (flatF F) = flatF F := List.take_of_length_le (by rw [hfl, hlf]; exact Nat.le_refl _)
      rw [hlf] at hfl
      by_cases h0 : n = 0
      · subst h0
        have hF0 : F = [] := List.length_eq_zero_iff.1 hlf
        subst hF0
        cases bad6 with
        | true => simp [beqI, bneI, mm_min2, mm_max2, mm_min3, mm_max3, startE, lkE, lkX, lkE_rest, sx, substE, opVA, objs0, List.replicate, XA_seq, XA_region, XOA_go, goE_someA, opV, ev, putA, layAll, XOA_nil, XA_skip_seq, XA_skip_nil, XOA_gd, goG_tA, goG_uA, binV, bi_add, bi_sub, bi_mul, bi_quo, bi_rem, bi_eql, bi_neq, bi_lss, bi_leq, bi_gtr, bi_geq, bi_shl, bi_shr, bi_and, bi_or, bi_xor, unV, XA_ret_nil, XA_ret_cons, endFA_r, endFA_n, endTA_r, endTA_n, endRA_r, endRA_n, fltR, resultsA, resAs, resA, XA_block, XA_cond, pickX_t, pickX_f, pickX_b, XA_skip_blk, XA_skip_lp, XA_exit_seq, XA_exit_lp, XA_exit_blk, XA_exit_nil, load1, Ev.loadCells, objCells, bodyCells, setCells, AV.flat, AV.flat1, backR, backV, backCell, mapO, AV.cells, AV.atom, AV.tree, fillV, repeatL, treeCell, freezeAll, eqCells, callV_T, callV_F, passN, passV, passCell, srcCells, sliceBounds, hiB, loB, thenQ_nA, thenQ_xA, thenQ_rA, runK_nA, runK_xA, runK_rA, wrap_i64, wrap_u64, wrap_u32, wrap_u8, wrap_u16, callV_O, okIds, passObjs, passBody, backObjs, backBody, adopts, List.idxOf?, List.findIdx?, List.findIdx?.go, AV.atom, normA, lkE, fixObjs, fixBody, fixV, fixCell, nlOr, nlObj, e2, e3, e4, e5, resQ, zeroQ, qyC, flatF_nil]
        | false =>
          cases b6 with
          | nil => simp [beqI, bneI, mm_min2, mm_max2, mm_min3, mm_max3, startE, lkE, lkX, lkE_rest, sx, substE, opVA, objs0, List.replicate, XA_seq, XA_region, XOA_go, goE_someA, opV, ev, putA, layAll, XOA_nil, XA_skip_seq, XA_skip_nil, XOA_gd, goG_tA, goG_uA, binV, bi_add, bi_sub, bi_mul, bi_quo, bi_rem, bi_eql, bi_neq, bi_lss, bi_leq, bi_gtr, bi_geq, bi_shl, bi_shr, bi_and, bi_or, bi_xor, unV, XA_ret_nil, XA_ret_cons, endFA_r, endFA_n, endTA_r, endTA_n, endRA_r, endRA_n, fltR, resultsA, resAs, resA, XA_block, XA_cond, pickX_t, pickX_f, pickX_b, XA_skip_blk, XA_skip_lp, XA_exit_seq, XA_exit_lp, XA_exit_blk, XA_exit_nil, load1, Ev.loadCells, objCells, bodyCells, setCells, AV.flat, AV.flat1, backR, backV, backCell, mapO, AV.cells, AV.atom, AV.tree, fillV, repeatL, treeCell, freezeAll, eqCells, callV_T, callV_F, passN, passV, passCell, srcCells, sliceBounds, hiB, loB, thenQ_nA, thenQ_xA, thenQ_rA, runK_nA, runK_xA, runK_rA, wrap_i64, wrap_u64, wrap_u32, wrap_u8, wrap_u16, callV_O, okIds, passObjs, passBody, backObjs, backBody, adopts, List.idxOf?, List.findIdx?, List.findIdx?.go, AV.atom, normA, lkE, fixObjs, fixBody, fixV, fixCell, nlOr, nlObj, e2, e3, e4, e5, resQ, zeroQ, qyC, flatF_nil]
          | cons y b6 =>
            have hp : (0 : Int) < (b6.length : Int) + 1 := by omega
            simp [beqI, bneI, mm_min2, mm_max2, mm_min3, mm_max3, startE, lkE, lkX, lkE_rest, sx, substE, opVA, objs0, List.replicate, XA_seq, XA_region, XOA_go, goE_someA, opV, ev, putA, layAll, XOA_nil, XA_skip_seq, XA_skip_nil, XOA_gd, goG_tA, goG_uA, binV, bi_add, bi_sub, bi_mul, bi_quo, bi_rem, bi_eql, bi_neq, bi_lss, bi_leq, bi_gtr, bi_geq, bi_shl, bi_shr, bi_and, bi_or, bi_xor, unV, XA_ret_nil, XA_ret_cons, endFA_r, endFA_n, endTA_r, endTA_n, endRA_r, endRA_n, fltR, resultsA, resAs, resA, XA_block, XA_cond, pickX_t, pickX_f, pickX_b, XA_skip_blk, XA_skip_lp, XA_exit_seq, XA_exit_lp, XA_exit_blk, XA_exit_nil, load1, Ev.loadCells, objCells, bodyCells, setCells, AV.flat, AV.flat1, backR, backV, backCell, mapO, AV.cells, AV.atom, AV.tree, fillV, repeatL, treeCell, freezeAll, eqCells, callV_T, callV_F, passN, passV, passCell, srcCells, sliceBounds, hiB, loB, thenQ_nA, thenQ_xA, thenQ_rA, runK_nA, runK_xA, runK_rA, wrap_i64, wrap_u64, wrap_u32, wrap_u8, wrap_u16, callV_O, okIds, passObjs, passBody, backObjs, backBody, adopts, List.idxOf?, List.findIdx?, List.findIdx?.go, AV.atom, normA, lkE, fixObjs, fixBody, fixV, fixCell, nlOr, nlObj, e2, e3, e4, e5, resQ, zeroQ, qyC, flatF_nil, hp]
      · cases bad6 with
        | true => simp [beqI, bneI, mm_min2, mm_max2, mm_min3, mm_max3, startE, lkE, lkX, lkE_rest, sx, substE, opVA, objs0, List.replicate, XA_seq, XA_region, XOA_go, goE_someA, opV, ev, putA, layAll, XOA_nil, XA_skip_seq, XA_skip_nil, XOA_gd, goG_tA, goG_uA, binV, bi_add, bi_sub, bi_mul, bi_quo, bi_rem, bi_eql, bi_neq, bi_lss, bi_leq, bi_gtr, bi_geq, bi_shl, bi_shr, bi_and, bi_or, bi_xor, unV, XA_ret_nil, XA_ret_cons, endFA_r, endFA_n, endTA_r, endTA_n, endRA_r, endRA_n, fltR, resultsA, resAs, resA, XA_block, XA_cond, pickX_t, pickX_f, pickX_b, XA_skip_blk, XA_skip_lp, XA_exit_seq, XA_exit_lp, XA_exit_blk, XA_exit_nil, load1, Ev.loadCells, objCells, bodyCells, setCells, AV.flat, AV.flat1, backR, backV, backCell, mapO, AV.cells, AV.atom, AV.tree, fillV, repeatL, treeCell, freezeAll, eqCells, callV_T, callV_F, passN, passV, passCell, srcCells, sliceBounds, hiB, loB, thenQ_nA, thenQ_xA, thenQ_rA, runK_nA, runK_xA, runK_rA, wrap_i64, wrap_u64, wrap_u32, wrap_u8, wrap_u16, callV_O, okIds, passObjs, passBody, backObjs, backBody, adopts, List.idxOf?, List.findIdx?, List.findIdx?.go, AV.atom, normA, lkE, fixObjs, fixBody, fixV, fixCell, nlOr, nlObj, e2, e3, e4, e5, resQ, zeroQ, qyC, flatF_nil, h0]
        | false =>
          cases b6 with
          | nil => simp [beqI, bneI, mm_min2, mm_max2, mm_min3, mm_max3, startE, lkE, lkX, lkE_rest, sx, substE, opVA, objs0, List.replicate, XA_seq, XA_region, XOA_go, goE_someA, opV, ev, putA, layAll, XOA_nil, XA_skip_seq, XA_skip_nil, XOA_gd, goG_tA, goG_uA, binV, bi_add, bi_sub, bi_mul, bi_quo, bi_rem, bi_eql, bi_neq, bi_lss, bi_leq, bi_gtr, bi_geq, bi_shl, bi_shr, bi_and, bi_or, bi_xor, unV, XA_ret_nil, XA_ret_cons, endFA_r, endFA_n, endTA_r, endTA_n, endRA_r, endRA_n, fltR, resultsA, resAs, resA, XA_block, XA_cond, pickX_t, pickX_f, pickX_b, XA_skip_blk, XA_skip_lp, XA_exit_seq, XA_exit_lp, XA_exit_blk, XA_exit_nil, load1, Ev.loadCells, objCells, bodyCells, setCells, AV.flat, AV.flat1, backR, backV, backCell, mapO, AV.cells, AV.atom, AV.tree, fillV, repeatL, treeCell, freezeAll, eqCells, callV_T, callV_F, passN, passV, passCell, srcCells, sliceBounds, hiB, loB, thenQ_nA, thenQ_xA, thenQ_rA, runK_nA, runK_xA, runK_rA, wrap_i64, wrap_u64, wrap_u32, wrap_u8, wrap_u16, callV_O, okIds, passObjs, passBody, backObjs, backBody, adopts, List.idxOf?, List.findIdx?, List.findIdx?.go, AV.atom, normA, lkE, fixObjs, fixBody, fixV, fixCell, nlOr, nlObj, e2, e3, e4, e5, resQ, zeroQ, qyC, h0, hfl, hlf, hft]
          | cons y b6 =>
            have hp : (0 : Int) < (b6.length : Int) + 1 := by omega
            simp [beqI, bneI, mm_min2, mm_max2, mm_min3, mm_max3, startE, lkE, lkX, lkE_rest, sx, substE, opVA, objs0, List.replicate, XA_seq, XA_region, XOA_go, goE_someA, opV, ev, putA, layAll, XOA_nil, XA_skip_seq, XA_skip_nil, XOA_gd, goG_tA, goG_uA, binV, bi_add, bi_sub, bi_mul, bi_quo, bi_rem, bi_eql, bi_neq, bi_lss, bi_leq, bi_gtr, bi_geq, bi_shl, bi_shr, bi_and, bi_or, bi_xor, unV, XA_ret_nil, XA_ret_cons, endFA_r, endFA_n, endTA_r, endTA_n, endRA_r, endRA_n, fltR, resultsA, resAs, resA, XA_block, XA_cond, pickX_t, pickX_f, pickX_b, XA_skip_blk, XA_skip_lp, XA_exit_seq, XA_exit_lp, XA_exit_blk, XA_exit_nil, load1, Ev.loadCells, objCells, bodyCells, setCells, AV.flat, AV.flat1, backR, backV, backCell, mapO, AV.cells, AV.atom, AV.tree, fillV, repeatL, treeCell, freezeAll, eqCells, callV_T, callV_F, passN, passV, passCell, srcCells, sliceBounds, hiB, loB, thenQ_nA, thenQ_xA, thenQ_rA, runK_nA, runK_xA, runK_rA, wrap_i64, wrap_u64, wrap_u32, wrap_u8, wrap_u16, callV_O, okIds, passObjs, passBody, backObjs, backBody, adopts, List.idxOf?, List.findIdx?, List.findIdx?.go, AV.atom, normA, lkE, fixObjs, fixBody, fixV, fixCell, nlOr, nlObj, e2, e3, e4, e5, resQ, zeroQ, qyC, flatF_nil, h0, hp]
  · have c1 : (b.length : Int) < 4 := by omega
    have hg : readQ cnS stS b = none := by unfold readQ; rw [if_neg (fun h => hsh h.1)]
    rw [hg]
    simp [beqI, bneI, mm_min2, mm_max2, mm_min3, mm_max3, startE, lkE, lkX, lkE_rest, sx, substE, opVA, objs0, List.replicate, XA_seq, XA_region, XOA_go, goE_someA, opV, ev, putA, layAll, XOA_nil, XA_skip_seq, XA_skip_nil, XOA_gd, goG_tA, goG_uA, binV, bi_add, bi_sub, bi_mul, bi_quo, bi_rem, bi_eql, bi_neq, bi_lss, bi_leq, bi_gtr, bi_geq, bi_shl, bi_shr, bi_and, bi_or, bi_xor, unV, XA_ret_nil, XA_ret_cons, endFA_r, endFA_n, endTA_r, endTA_n, endRA_r, endRA_n, fltR, resultsA, resAs, resA, XA_block, XA_cond, pickX_t, pickX_f, pickX_b, XA_skip_blk, XA_skip_lp, XA_exit_seq, XA_exit_lp, XA_exit_blk, XA_exit_nil, load1, Ev.loadCells, objCells, bodyCells, setCells, AV.flat, AV.flat1, backR, backV, backCell, mapO, AV.cells, AV.atom, AV.tree, fillV, repeatL, treeCell, freezeAll, eqCells, callV_T, callV_F, passN, passV, passCell, srcCells, sliceBounds, hiB, loB, thenQ_nA, thenQ_xA, thenQ_rA, runK_nA, runK_xA, runK_rA, wrap_i64, wrap_u64, wrap_u32, wrap_u8, wrap_u16, rB, c1, resQ, zeroQ, qyC, flatF_nil]
end Go.Proofs.Ytambpbcdnhekbaa
