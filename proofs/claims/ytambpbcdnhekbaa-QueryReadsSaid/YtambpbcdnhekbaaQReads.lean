/- The query of any bytes, and of such that are right but for one: both readers tell the same. -/
import Derived.Test.YtambpbcdnhekbaaQU
import Derived.Test.YtambpbcdnhekbaaQO
import Derived.Test.YtambpbcdnhekbaaQBack
set_option linter.unusedSimpArgs false
set_option linter.unusedVariables false
set_option maxHeartbeats 16000000
set_option maxRecDepth 100000
namespace Go.Proofs.Ytambpbcdnhekbaa
open Go.Ev
theorem read_same {b : List Int} (hb : okB b) : readQ numQ stR b = readQ cnS stS b := by
  cases e : readQ cnS stS b with
  | none =>
    cases e2 : readQ numQ stR b with
    | none => rfl
    | some p =>
      rw [(read_iff cnS_P (st := stS) rfl hb p).2 ((read_iff cnR_P (st := stR) rfl hb p).1 e2)] at e
      cases e
  | some p => exact (read_iff cnR_P (st := stR) rfl hb p).2 ((read_iff cnS_P (st := stS) rfl hb p).1 e)
theorem rng_in {x : Int} (h : rng x) : inI x := by
  unfold rng LIM at h
  exact ⟨by omega, by omega⟩
theorem read_ok {b : List Int} (hb : okB b) : okQ ((readQ cnS stS b).getD zeroQ) := by
  cases e : readQ cnS stS b with
  | none => exact zeroQ_ok
  | some q =>
    obtain ⟨h1, h2⟩ := (read_iff cnS_P (st := stS) rfl hb q).1 e
    have hn : ∀ x ∈ q.n, byte x := fun x hx => hb x (by rw [h2]; simp [hx])
    simp only [Option.getD_some]
    obtain ⟨a, b', c, e', F, t, me, fn, li⟩ := q
    have hF : rng F.length := h1 _ (by simp [numsQ])
    have hf : ∀ f ∈ F, ∀ x ∈ numsF f, rng x := fun f hf x hx => h1 x (by simp only [numsQ, List.mem_cons, List.mem_append]; exact .inr (.inl (List.mem_flatMap.2 ⟨f, hf, hx⟩)))
    refine ⟨hn a (by simp [Qy.n]), hn b' (by simp [Qy.n]), hn c (by simp [Qy.n]), hn e' (by simp [Qy.n]), ⟨?_, fun f hm => ?_⟩, rng_in (h1 t (by simp [numsQ])), rng_in (h1 me (by simp [numsQ])), rng_in (h1 fn (by simp [numsQ])), rng_in (h1 li (by simp [numsQ]))⟩
    · unfold rng LIM at hF; simp only; omega
    · have hl := hf f hm f.ms.length (by simp [numsF])
      unfold rng LIM at hl
      exact ⟨rng_in (hf f hm f.d (by simp [numsF])), rng_in (hf f hm f.l (by simp [numsF])), by omega, fun x hx => rng_in (hf f hm x (by simp [numsF, hx]))⟩
theorem reads_ev (b : List Int) (hs : okS (b, false)) : ∃ (y : Qy) (k : Bool), cvT tab 17 [rB b] = some (.tup [.agg (qyC y), .bool k]) ∧
    cvT tab 21 [rB b] = some (.agg [.int .u8 y.a, .int .u8 y.b, .int .u8 y.c, .int .u8 y.e, .ro y.F.length (flatF y.F), .int .i64 y.t, .int .i64 y.me, .int .i64 y.fn, .int .i64 y.li, .bool k]) ∧
    cvF tab 20 [.agg (qyC y), .bool k, .agg [.int .u8 y.a, .int .u8 y.b, .int .u8 y.c, .int .u8 y.e, .ro y.F.length (flatF y.F), .int .i64 y.t, .int .i64 y.me, .int .i64 y.fn, .int .i64 y.li, .bool k]] = some (.bool true) := by
  have e1 := qRead_ev b hs
  have e2 := rRead_ev b hs
  rw [read_same hs.1] at e2
  exact ⟨_, _, e1, e2, lsame_ev _ (read_ok hs.1)⟩
theorem xor8_in (x y : Int) : byte (bXor .u8 x y) := by
  unfold bXor byte
  generalize ((BitVec.ofInt IntKind.u8.bits x ^^^ BitVec.ofInt IntKind.u8.bits y).toNat : Int) = z
  simp only [IntKind.wrap, IntKind.signed, IntKind.bits]
  simp
  omega
def gA2 : GT := .arr 2 (.int .u8)
theorem rd_bytes {cs : List AV} (h : RD (.slice (.int .u8)) cs) : ∃ l : List Int, cs = [rB l] ∧ l.length ≤ 9223372036854775807 ∧ okB l := by
  obtain ⟨l, h1, h2, h3⟩ := rd_slice (fun cs h => rd_u8 h) h
  exact ⟨l, h1, h2, h3⟩
theorem rdarg_bytes {a : AV} (h : RDarg (.slice (.int .u8)) a) : ∃ l : List Int, a = rB l ∧ l.length ≤ 9223372036854775807 ∧ okB l := by
  simp only [RDarg, isAggG] at h
  obtain ⟨l, h1, h2⟩ := rd_bytes h
  simp at h1
  exact ⟨l, h1, h2⟩
theorem queryReads_ev (raw : List Int) (q : Qy) (t0 t1 : Int) (hr : okB raw) (hq : okQ q) (h0 : byte t0) (h1 : byte t1) :
    cvF tab 6 [rB raw, .agg (qyC q), .agg [.int .u8 t0, .int .u8 t1]] = some (.bool true) := by
  refine cvFA_R (mf := Mf.f6) rfl rfl (by kernel_rfl) ?_
  simp only [Mf.f6]
  by_cases cr : raw.length ≤ 600
  · have cr' : ¬ 600 < (raw.length : Int) := by omega
    have e1 := lightQ_ev q hq
    have e2 := rbytes_ev q
    have hbo := bytesQ_ok hq
    have hbl := @bytesQ_len q
    cases gl : lightQ q with
    | false =>
      rw [gl] at e1
      clear e2 hbo hbl hq gl
      obtain ⟨a, b, c, e, F, t, me, fn, li⟩ := q
      simp only [qyC] at e1 ⊢
      simp [beqI, bneI, mm_min2, mm_max2, mm_min3, mm_max3, startE, lkE, lkX, lkE_rest, sx, substE, opVA, objs0, List.replicate, XA_seq, XA_region, XOA_go, goE_someA, opV, ev, putA, layAll, XOA_nil, XA_skip_seq, XA_skip_nil, XOA_gd, goG_tA, goG_uA, binV, bi_add, bi_sub, bi_mul, bi_quo, bi_rem, bi_eql, bi_neq, bi_lss, bi_leq, bi_gtr, bi_geq, bi_shl, bi_shr, bi_and, bi_or, bi_xor, unV, XA_ret_nil, XA_ret_cons, endFA_r, endFA_n, endTA_r, endTA_n, endRA_r, endRA_n, fltR, resultsA, resAs, resA, XA_block, XA_cond, pickX_t, pickX_f, pickX_b, XA_skip_blk, XA_skip_lp, XA_exit_seq, XA_exit_lp, XA_exit_blk, XA_exit_nil, load1, Ev.loadCells, objCells, bodyCells, setCells, AV.flat, AV.flat1, backR, backV, backCell, mapO, AV.cells, AV.atom, AV.tree, fillV, repeatL, treeCell, freezeAll, eqCells, callV_T, callV_F, passN, passV, passCell, srcCells, sliceBounds, hiB, loB, thenQ_nA, thenQ_xA, thenQ_rA, runK_nA, runK_xA, runK_rA, wrap_i64, wrap_u64, wrap_u32, wrap_u8, wrap_u16, rB, e1, cr', wakes_ev]
    | true =>
      rw [gl] at e1
      have e2 := e2 gl
      have hbl : (bytesQ q).length ≤ 10000 := by
        by_cases h : okT q = true
        · exact (hbl gl (okT_iff.1 h)).2
        · unfold bytesQ; rw [if_neg h]; simp
      unfold textA at e2
      generalize okT q = ok at *
      generalize bytesQ q = B0 at *
      clear hq gl
      obtain ⟨a, b, c, e, F, t, me, fn, li⟩ := q
      simp only [qyC] at e1 e2 ⊢
      obtain ⟨y1, k1, f1, f2, f3⟩ := reads_ev raw ⟨hr, by simp only; omega⟩
      have h0' := h0
      have h1' := h1
      unfold byte at h0' h1'
      have v0 : IntKind.i64.wrap t0 = t0 := wrap_i64 (by omega) (by omega)
      have v1 : IntKind.i64.wrap t1 = t1 := wrap_i64 (by omega) (by omega)
      obtain ⟨R, hR⟩ : ∃ R, rB raw = R := ⟨_, rfl⟩
      have hR' : R = .ro raw.length (raw.map (.int .u8)) := hR.symm
      rw [hR] at f1 f2 ⊢
      obtain ⟨B, hB⟩ : ∃ B, B0 ++ [0] = B := ⟨_, rfl⟩
      have hBl : B.length = B0.length + 1 := by rw [← hB, List.length_append]; rfl
      have hBo : okB B := by
        intro x hx
        rw [← hB] at hx
        rcases List.mem_append.1 hx with h | h
        · exact hbo x h
        · simp at h; rw [h]; exact ⟨by omega, by omega⟩
      have hMB : B0.map (AV.int .u8) ++ [.int .u8 0] = B.map (AV.int .u8) := by rw [← hB, List.map_append]; rfl
      obtain ⟨N, hN⟩ : ∃ N, B0.length = N := ⟨_, rfl⟩
      have hBN : B.length = N + 1 := by omega
      have cb1 : (0 : Int) < (N : Int) + 1 := by omega
      have cb2 : ¬ (N : Int) + 1 = 0 := by omega
      obtain ⟨i, hi⟩ := nat_ofQ (show 0 ≤ t0.tmod ((N : Int) + 1) from Int.tmod_nonneg _ h0'.1)
      obtain ⟨j, hj⟩ := nat_ofQ (show 0 ≤ t1.tmod ((N : Int) + 1) from Int.tmod_nonneg _ h1'.1)
      have hil : i < N + 1 := by
        have := Int.tmod_lt_of_pos t0 cb1
        omega
      have hjl : j < N + 1 := by
        have := Int.tmod_lt_of_pos t1 cb1
        omega
      have hiBl : i < B.length := by omega
      have ix : (B.map (AV.int .u8))[i]? = some (.int .u8 B[i]) := by simp [hiBl]
      obtain ⟨x, hx⟩ : ∃ x, bXor .u8 B[i] t1 = x := ⟨_, rfl⟩
      have hxb : byte x := by rw [← hx]; exact xor8_in _ _
      obtain ⟨C, hC⟩ : ∃ C, B.set i x = C := ⟨_, rfl⟩
      have hCo : okB C := by
        intro y hy
        rw [← hC] at hy
        rcases List.mem_or_eq_of_mem_set hy with h | rfl
        · exact hBo y h
        · exact hxb
      have hCl : C.length = N + 1 := by rw [← hC, List.length_set, hBN]
      obtain ⟨y2, k2, g1, g2, g3⟩ := reads_ev C ⟨hCo, by simp only; omega⟩
      obtain ⟨y3, k3, i1, i2, i3⟩ := reads_ev (C.take N) ⟨fun y hy => hCo y (List.mem_of_mem_take hy), by simp only [List.length_take]; omega⟩
      obtain ⟨y4, k4, j1, j2, j3⟩ := reads_ev (C.take j) ⟨fun y hy => hCo y (List.mem_of_mem_take hy), by simp only [List.length_take]; omega⟩
      have l3 : (C.take N).length = N := by rw [List.length_take]; omega
      have l4 : (C.take j).length = j := by rw [List.length_take]; omega
      simp only [rB, l3, l4, hCl, hN, List.map_take] at g1 g2 i1 i2 j1 j2 e2
      have hset : List.take i (B.map (AV.int .u8)) ++ .int .u8 x :: List.drop (i + 1) (B.map (.int .u8)) = C.map (.int .u8) := by
        rw [← hC, List.map_set, List.set_eq_take_append_cons_drop, if_pos (by simpa using hiBl)]
      have hMl0 : (B0.map (AV.int .u8)).length = N := by rw [List.length_map, hN]
      have hMl : (B.map (AV.int .u8)).length = N + 1 := by rw [List.length_map, hBN]
      have hCl2 : (C.map (AV.int .u8)).length = N + 1 := by rw [List.length_map, hCl]
      have q8 : (B0.map (AV.int .u8)).all AV.tree = true := by simp [AV.tree]
      have q9 : (C.map (AV.int .u8)).all AV.tree = true := by simp [AV.tree]
      have q9a : ((C.map (AV.int .u8)).take N).all AV.tree = true := by
        refine List.all_eq_true.2 fun y hy => List.all_eq_true.1 q9 y (List.mem_of_mem_take hy)
      have q9b : ((C.map (AV.int .u8)).take j).all AV.tree = true := by
        refine List.all_eq_true.2 fun y hy => List.all_eq_true.1 q9 y (List.mem_of_mem_take hy)
      clear hset
      have hset : List.take i (B.map (AV.int .u8)) ++ .int .u8 x :: List.drop (i + 1) (B.map (.int .u8)) = C.map (.int .u8) := by
        rw [← hC, List.map_set, List.set_eq_take_append_cons_drop, if_pos (by simpa using hiBl)]
      generalize hBi : B[i] = bi at *
      generalize C.map (AV.int .u8) = CM at *
      generalize B.map (AV.int .u8) = M at *
      generalize B0.map (AV.int .u8) = M0 at *
      have q1 : N + 1 ≤ 140737488355328 := by omega
      have q2 : N + 1 < 4611686018427387904 := by omega
      have q1a : N ≤ 140737488355328 := by omega
      have q2a : N < 4611686018427387904 := by omega
      have q4 : List.take (N + 1) CM = CM := List.take_of_length_le (by omega)
      have q5 : List.take (N + 1) M = M := List.take_of_length_le (by omega)
      have q6 : List.take N M0 = M0 := List.take_of_length_le (by omega)
      have q7 : (i : Int) < (N : Int) + 1 := by omega
      have q10 : (N : Int) ≤ (N : Int) + 1 := by omega
      have q11 : (j : Int) ≤ (N : Int) + 1 := by omega
      have q12 : j ≤ N + 1 := by omega
      have w1 : IntKind.i64.wrap ((N : Int) + 1 - 1) = (N : Int) := by rw [wrap_i64 (by omega) (by omega)]; omega
      have w2 : IntKind.i64.wrap (N : Int) = (N : Int) := wrap_i64 (by omega) (by omega)
      have hi3 : i + 1 ≤ N + 1 := by omega
      have ix2 : ∀ h : i < M.length, M[i] = .int .u8 bi := fun h => by rw [List.getElem?_eq_getElem h] at ix; exact Option.some.inj ix
      obtain ⟨a1, b1, c1, e1', F1, t1', m1, f1', l1⟩ := y1
      obtain ⟨a2, b2, c2, e2', F2, t2', m2, f2', l2⟩ := y2
      obtain ⟨a3, b3, c3, e3', F3, t3', m3, f3', l3⟩ := y3
      obtain ⟨a4, b4, c4, e4', F4, t4', m4, f4', l4⟩ := y4
      simp only [qyC] at f1 f2 f3 g1 g2 g3 i1 i2 i3 j1 j2 j3
      have q13 : N ≤ N + 1 := by omega
      clear hbl hbo hBo hCo hr h0 h1 hxb
      by_cases hN0 : N = 0
      · have hj0 : j = 0 := by omega
        have h0N : (0 = N) = True := eq_true hN0.symm
        have h0j : (0 = j) = True := eq_true hj0.symm
        have t0 : List.take 0 CM = [] := rfl
        rw [hN0, t0] at i1 i2
        rw [hj0, t0] at j1 j2
        simp [beqI, bneI, mm_min2, mm_max2, mm_min3, mm_max3, startE, lkE, lkX, lkE_rest, sx, substE, opVA, objs0, List.replicate, XA_seq, XA_region, XOA_go, goE_someA, opV, ev, putA, layAll, XOA_nil, XA_skip_seq, XA_skip_nil, XOA_gd, goG_tA, goG_uA, binV, bi_add, bi_sub, bi_mul, bi_quo, bi_rem, bi_eql, bi_neq, bi_lss, bi_leq, bi_gtr, bi_geq, bi_shl, bi_shr, bi_and, bi_or, bi_xor, unV, XA_ret_nil, XA_ret_cons, endFA_r, endFA_n, endTA_r, endTA_n, endRA_r, endRA_n, fltR, resultsA, resAs, resA, XA_block, XA_cond, pickX_t, pickX_f, pickX_b, XA_skip_blk, XA_skip_lp, XA_exit_seq, XA_exit_lp, XA_exit_blk, XA_exit_nil, load1, Ev.loadCells, objCells, bodyCells, setCells, AV.flat, AV.flat1, backR, backV, backCell, mapO, AV.cells, AV.atom, AV.tree, fillV, repeatL, treeCell, freezeAll, eqCells, callV_T, callV_F, passN, passV, passCell, srcCells, sliceBounds, hiB, loB, thenQ_nA, thenQ_xA, thenQ_rA, runK_nA, runK_xA, runK_rA, wrap_i64, wrap_u64, wrap_u32, wrap_u8, wrap_u16, hR', e1, cr', e2, v0, v1, hi, hj, cb1, cb2, hil, ix, ix2, hx, hMl0, hMl, hCl2, hMB, q1, q2, q1a, q2a, q4, q5, q6, q7, q8, q9, q9a, q9b, q10, q11, q12, q13, w1, w2, hi3, hset, h0N, h0j]
        rw [← hR']
        refine XA_for (fun k => ⟨[(56, .ro 4 [R, .ro (N + 1) CM, .ro 0 [], .ro 0 []]), (57, .int .i64 4), (58, .int .i64 k)], [⟨0, .none⟩, ⟨0, .none⟩, ⟨0, .none⟩, ⟨0, .none⟩]⟩)
          (fun k => True) 4 0 (by omega) (by simp [AV.atom, normA, lkE, fixObjs, fixBody, fixV, fixCell, hR']) trivial ?_ ?_
        · intro k _ hk _
          have hk4 : k = 0 ∨ k = 1 ∨ k = 2 ∨ k = 3 := by omega
          rw [hR'] at f1 f2
          rcases hk4 with rfl | rfl | rfl | rfl
          · simp [beqI, bneI, mm_min2, mm_max2, mm_min3, mm_max3, startE, lkE, lkX, lkE_rest, sx, substE, opVA, objs0, List.replicate, XA_seq, XA_region, XOA_go, goE_someA, opV, ev, putA, layAll, XOA_nil, XA_skip_seq, XA_skip_nil, XOA_gd, goG_tA, goG_uA, binV, bi_add, bi_sub, bi_mul, bi_quo, bi_rem, bi_eql, bi_neq, bi_lss, bi_leq, bi_gtr, bi_geq, bi_shl, bi_shr, bi_and, bi_or, bi_xor, unV, XA_ret_nil, XA_ret_cons, endFA_r, endFA_n, endTA_r, endTA_n, endRA_r, endRA_n, fltR, resultsA, resAs, resA, XA_block, XA_cond, pickX_t, pickX_f, pickX_b, XA_skip_blk, XA_skip_lp, XA_exit_seq, XA_exit_lp, XA_exit_blk, XA_exit_nil, load1, Ev.loadCells, objCells, bodyCells, setCells, AV.flat, AV.flat1, backR, backV, backCell, mapO, AV.cells, AV.atom, AV.tree, fillV, repeatL, treeCell, freezeAll, eqCells, callV_T, callV_F, passN, passV, passCell, srcCells, sliceBounds, hiB, loB, thenQ_nA, thenQ_xA, thenQ_rA, runK_nA, runK_xA, runK_rA, wrap_i64, wrap_u64, wrap_u32, wrap_u8, wrap_u16, AV.atom, normA, lkE, fixObjs, fixBody, fixV, fixCell, hR', f1, f2, f3]
          · simp [beqI, bneI, mm_min2, mm_max2, mm_min3, mm_max3, startE, lkE, lkX, lkE_rest, sx, substE, opVA, objs0, List.replicate, XA_seq, XA_region, XOA_go, goE_someA, opV, ev, putA, layAll, XOA_nil, XA_skip_seq, XA_skip_nil, XOA_gd, goG_tA, goG_uA, binV, bi_add, bi_sub, bi_mul, bi_quo, bi_rem, bi_eql, bi_neq, bi_lss, bi_leq, bi_gtr, bi_geq, bi_shl, bi_shr, bi_and, bi_or, bi_xor, unV, XA_ret_nil, XA_ret_cons, endFA_r, endFA_n, endTA_r, endTA_n, endRA_r, endRA_n, fltR, resultsA, resAs, resA, XA_block, XA_cond, pickX_t, pickX_f, pickX_b, XA_skip_blk, XA_skip_lp, XA_exit_seq, XA_exit_lp, XA_exit_blk, XA_exit_nil, load1, Ev.loadCells, objCells, bodyCells, setCells, AV.flat, AV.flat1, backR, backV, backCell, mapO, AV.cells, AV.atom, AV.tree, fillV, repeatL, treeCell, freezeAll, eqCells, callV_T, callV_F, passN, passV, passCell, srcCells, sliceBounds, hiB, loB, thenQ_nA, thenQ_xA, thenQ_rA, runK_nA, runK_xA, runK_rA, wrap_i64, wrap_u64, wrap_u32, wrap_u8, wrap_u16, AV.atom, normA, lkE, fixObjs, fixBody, fixV, fixCell, hR', g1, g2, g3]
          · simp [beqI, bneI, mm_min2, mm_max2, mm_min3, mm_max3, startE, lkE, lkX, lkE_rest, sx, substE, opVA, objs0, List.replicate, XA_seq, XA_region, XOA_go, goE_someA, opV, ev, putA, layAll, XOA_nil, XA_skip_seq, XA_skip_nil, XOA_gd, goG_tA, goG_uA, binV, bi_add, bi_sub, bi_mul, bi_quo, bi_rem, bi_eql, bi_neq, bi_lss, bi_leq, bi_gtr, bi_geq, bi_shl, bi_shr, bi_and, bi_or, bi_xor, unV, XA_ret_nil, XA_ret_cons, endFA_r, endFA_n, endTA_r, endTA_n, endRA_r, endRA_n, fltR, resultsA, resAs, resA, XA_block, XA_cond, pickX_t, pickX_f, pickX_b, XA_skip_blk, XA_skip_lp, XA_exit_seq, XA_exit_lp, XA_exit_blk, XA_exit_nil, load1, Ev.loadCells, objCells, bodyCells, setCells, AV.flat, AV.flat1, backR, backV, backCell, mapO, AV.cells, AV.atom, AV.tree, fillV, repeatL, treeCell, freezeAll, eqCells, callV_T, callV_F, passN, passV, passCell, srcCells, sliceBounds, hiB, loB, thenQ_nA, thenQ_xA, thenQ_rA, runK_nA, runK_xA, runK_rA, wrap_i64, wrap_u64, wrap_u32, wrap_u8, wrap_u16, AV.atom, normA, lkE, fixObjs, fixBody, fixV, fixCell, hR', i1, i2, i3]
          · simp [beqI, bneI, mm_min2, mm_max2, mm_min3, mm_max3, startE, lkE, lkX, lkE_rest, sx, substE, opVA, objs0, List.replicate, XA_seq, XA_region, XOA_go, goE_someA, opV, ev, putA, layAll, XOA_nil, XA_skip_seq, XA_skip_nil, XOA_gd, goG_tA, goG_uA, binV, bi_add, bi_sub, bi_mul, bi_quo, bi_rem, bi_eql, bi_neq, bi_lss, bi_leq, bi_gtr, bi_geq, bi_shl, bi_shr, bi_and, bi_or, bi_xor, unV, XA_ret_nil, XA_ret_cons, endFA_r, endFA_n, endTA_r, endTA_n, endRA_r, endRA_n, fltR, resultsA, resAs, resA, XA_block, XA_cond, pickX_t, pickX_f, pickX_b, XA_skip_blk, XA_skip_lp, XA_exit_seq, XA_exit_lp, XA_exit_blk, XA_exit_nil, load1, Ev.loadCells, objCells, bodyCells, setCells, AV.flat, AV.flat1, backR, backV, backCell, mapO, AV.cells, AV.atom, AV.tree, fillV, repeatL, treeCell, freezeAll, eqCells, callV_T, callV_F, passN, passV, passCell, srcCells, sliceBounds, hiB, loB, thenQ_nA, thenQ_xA, thenQ_rA, runK_nA, runK_xA, runK_rA, wrap_i64, wrap_u64, wrap_u32, wrap_u8, wrap_u16, AV.atom, normA, lkE, fixObjs, fixBody, fixV, fixCell, hR', j1, j2, j3]
        · intro _
          simp [beqI, bneI, mm_min2, mm_max2, mm_min3, mm_max3, startE, lkE, lkX, lkE_rest, sx, substE, opVA, objs0, List.replicate, XA_seq, XA_region, XOA_go, goE_someA, opV, ev, putA, layAll, XOA_nil, XA_skip_seq, XA_skip_nil, XOA_gd, goG_tA, goG_uA, binV, bi_add, bi_sub, bi_mul, bi_quo, bi_rem, bi_eql, bi_neq, bi_lss, bi_leq, bi_gtr, bi_geq, bi_shl, bi_shr, bi_and, bi_or, bi_xor, unV, XA_ret_nil, XA_ret_cons, endFA_r, endFA_n, endTA_r, endTA_n, endRA_r, endRA_n, fltR, resultsA, resAs, resA, XA_block, XA_cond, pickX_t, pickX_f, pickX_b, XA_skip_blk, XA_skip_lp, XA_exit_seq, XA_exit_lp, XA_exit_blk, XA_exit_nil, load1, Ev.loadCells, objCells, bodyCells, setCells, AV.flat, AV.flat1, backR, backV, backCell, mapO, AV.cells, AV.atom, AV.tree, fillV, repeatL, treeCell, freezeAll, eqCells, callV_T, callV_F, passN, passV, passCell, srcCells, sliceBounds, hiB, loB, thenQ_nA, thenQ_xA, thenQ_rA, runK_nA, runK_xA, runK_rA, wrap_i64, wrap_u64, wrap_u32, wrap_u8, wrap_u16, AV.atom, normA, lkE, fixObjs, fixBody, fixV, fixCell, hR', wakes_ev]
      · have h0N : (0 = N) = False := eq_false (fun h => hN0 h.symm)
        by_cases hj0 : j = 0
        · have h0j : (0 = j) = True := eq_true hj0.symm
          have t0 : List.take 0 CM = [] := rfl
          rw [hj0, t0] at j1 j2
          simp [beqI, bneI, mm_min2, mm_max2, mm_min3, mm_max3, startE, lkE, lkX, lkE_rest, sx, substE, opVA, objs0, List.replicate, XA_seq, XA_region, XOA_go, goE_someA, opV, ev, putA, layAll, XOA_nil, XA_skip_seq, XA_skip_nil, XOA_gd, goG_tA, goG_uA, binV, bi_add, bi_sub, bi_mul, bi_quo, bi_rem, bi_eql, bi_neq, bi_lss, bi_leq, bi_gtr, bi_geq, bi_shl, bi_shr, bi_and, bi_or, bi_xor, unV, XA_ret_nil, XA_ret_cons, endFA_r, endFA_n, endTA_r, endTA_n, endRA_r, endRA_n, fltR, resultsA, resAs, resA, XA_block, XA_cond, pickX_t, pickX_f, pickX_b, XA_skip_blk, XA_skip_lp, XA_exit_seq, XA_exit_lp, XA_exit_blk, XA_exit_nil, load1, Ev.loadCells, objCells, bodyCells, setCells, AV.flat, AV.flat1, backR, backV, backCell, mapO, AV.cells, AV.atom, AV.tree, fillV, repeatL, treeCell, freezeAll, eqCells, callV_T, callV_F, passN, passV, passCell, srcCells, sliceBounds, hiB, loB, thenQ_nA, thenQ_xA, thenQ_rA, runK_nA, runK_xA, runK_rA, wrap_i64, wrap_u64, wrap_u32, wrap_u8, wrap_u16, hR', e1, cr', e2, v0, v1, hi, hj, cb1, cb2, hil, ix, ix2, hx, hMl0, hMl, hCl2, hMB, q1, q2, q1a, q2a, q4, q5, q6, q7, q8, q9, q9a, q9b, q10, q11, q12, q13, w1, w2, hi3, hset, h0N, h0j]
          rw [← hR']
          refine XA_for (fun k => ⟨[(56, .ro 4 [R, .ro (N + 1) CM, .ro N (CM.take N), .ro 0 []]), (57, .int .i64 4), (58, .int .i64 k)], [⟨0, .none⟩, ⟨0, .none⟩, ⟨0, .none⟩, ⟨0, .none⟩]⟩)
            (fun k => True) 4 0 (by omega) (by simp [AV.atom, normA, lkE, fixObjs, fixBody, fixV, fixCell, hR']) trivial ?_ ?_
          · intro k _ hk _
            have hk4 : k = 0 ∨ k = 1 ∨ k = 2 ∨ k = 3 := by omega
            rw [hR'] at f1 f2
            rcases hk4 with rfl | rfl | rfl | rfl
            · simp [beqI, bneI, mm_min2, mm_max2, mm_min3, mm_max3, startE, lkE, lkX, lkE_rest, sx, substE, opVA, objs0, List.replicate, XA_seq, XA_region, XOA_go, goE_someA, opV, ev, putA, layAll, XOA_nil, XA_skip_seq, XA_skip_nil, XOA_gd, goG_tA, goG_uA, binV, bi_add, bi_sub, bi_mul, bi_quo, bi_rem, bi_eql, bi_neq, bi_lss, bi_leq, bi_gtr, bi_geq, bi_shl, bi_shr, bi_and, bi_or, bi_xor, unV, XA_ret_nil, XA_ret_cons, endFA_r, endFA_n, endTA_r, endTA_n, endRA_r, endRA_n, fltR, resultsA, resAs, resA, XA_block, XA_cond, pickX_t, pickX_f, pickX_b, XA_skip_blk, XA_skip_lp, XA_exit_seq, XA_exit_lp, XA_exit_blk, XA_exit_nil, load1, Ev.loadCells, objCells, bodyCells, setCells, AV.flat, AV.flat1, backR, backV, backCell, mapO, AV.cells, AV.atom, AV.tree, fillV, repeatL, treeCell, freezeAll, eqCells, callV_T, callV_F, passN, passV, passCell, srcCells, sliceBounds, hiB, loB, thenQ_nA, thenQ_xA, thenQ_rA, runK_nA, runK_xA, runK_rA, wrap_i64, wrap_u64, wrap_u32, wrap_u8, wrap_u16, AV.atom, normA, lkE, fixObjs, fixBody, fixV, fixCell, hR', f1, f2, f3]
            · simp [beqI, bneI, mm_min2, mm_max2, mm_min3, mm_max3, startE, lkE, lkX, lkE_rest, sx, substE, opVA, objs0, List.replicate, XA_seq, XA_region, XOA_go, goE_someA, opV, ev, putA, layAll, XOA_nil, XA_skip_seq, XA_skip_nil, XOA_gd, goG_tA, goG_uA, binV, bi_add, bi_sub, bi_mul, bi_quo, bi_rem, bi_eql, bi_neq, bi_lss, bi_leq, bi_gtr, bi_geq, bi_shl, bi_shr, bi_and, bi_or, bi_xor, unV, XA_ret_nil, XA_ret_cons, endFA_r, endFA_n, endTA_r, endTA_n, endRA_r, endRA_n, fltR, resultsA, resAs, resA, XA_block, XA_cond, pickX_t, pickX_f, pickX_b, XA_skip_blk, XA_skip_lp, XA_exit_seq, XA_exit_lp, XA_exit_blk, XA_exit_nil, load1, Ev.loadCells, objCells, bodyCells, setCells, AV.flat, AV.flat1, backR, backV, backCell, mapO, AV.cells, AV.atom, AV.tree, fillV, repeatL, treeCell, freezeAll, eqCells, callV_T, callV_F, passN, passV, passCell, srcCells, sliceBounds, hiB, loB, thenQ_nA, thenQ_xA, thenQ_rA, runK_nA, runK_xA, runK_rA, wrap_i64, wrap_u64, wrap_u32, wrap_u8, wrap_u16, AV.atom, normA, lkE, fixObjs, fixBody, fixV, fixCell, hR', g1, g2, g3]
            · simp [beqI, bneI, mm_min2, mm_max2, mm_min3, mm_max3, startE, lkE, lkX, lkE_rest, sx, substE, opVA, objs0, List.replicate, XA_seq, XA_region, XOA_go, goE_someA, opV, ev, putA, layAll, XOA_nil, XA_skip_seq, XA_skip_nil, XOA_gd, goG_tA, goG_uA, binV, bi_add, bi_sub, bi_mul, bi_quo, bi_rem, bi_eql, bi_neq, bi_lss, bi_leq, bi_gtr, bi_geq, bi_shl, bi_shr, bi_and, bi_or, bi_xor, unV, XA_ret_nil, XA_ret_cons, endFA_r, endFA_n, endTA_r, endTA_n, endRA_r, endRA_n, fltR, resultsA, resAs, resA, XA_block, XA_cond, pickX_t, pickX_f, pickX_b, XA_skip_blk, XA_skip_lp, XA_exit_seq, XA_exit_lp, XA_exit_blk, XA_exit_nil, load1, Ev.loadCells, objCells, bodyCells, setCells, AV.flat, AV.flat1, backR, backV, backCell, mapO, AV.cells, AV.atom, AV.tree, fillV, repeatL, treeCell, freezeAll, eqCells, callV_T, callV_F, passN, passV, passCell, srcCells, sliceBounds, hiB, loB, thenQ_nA, thenQ_xA, thenQ_rA, runK_nA, runK_xA, runK_rA, wrap_i64, wrap_u64, wrap_u32, wrap_u8, wrap_u16, AV.atom, normA, lkE, fixObjs, fixBody, fixV, fixCell, hR', i1, i2, i3]
            · simp [beqI, bneI, mm_min2, mm_max2, mm_min3, mm_max3, startE, lkE, lkX, lkE_rest, sx, substE, opVA, objs0, List.replicate, XA_seq, XA_region, XOA_go, goE_someA, opV, ev, putA, layAll, XOA_nil, XA_skip_seq, XA_skip_nil, XOA_gd, goG_tA, goG_uA, binV, bi_add, bi_sub, bi_mul, bi_quo, bi_rem, bi_eql, bi_neq, bi_lss, bi_leq, bi_gtr, bi_geq, bi_shl, bi_shr, bi_and, bi_or, bi_xor, unV, XA_ret_nil, XA_ret_cons, endFA_r, endFA_n, endTA_r, endTA_n, endRA_r, endRA_n, fltR, resultsA, resAs, resA, XA_block, XA_cond, pickX_t, pickX_f, pickX_b, XA_skip_blk, XA_skip_lp, XA_exit_seq, XA_exit_lp, XA_exit_blk, XA_exit_nil, load1, Ev.loadCells, objCells, bodyCells, setCells, AV.flat, AV.flat1, backR, backV, backCell, mapO, AV.cells, AV.atom, AV.tree, fillV, repeatL, treeCell, freezeAll, eqCells, callV_T, callV_F, passN, passV, passCell, srcCells, sliceBounds, hiB, loB, thenQ_nA, thenQ_xA, thenQ_rA, runK_nA, runK_xA, runK_rA, wrap_i64, wrap_u64, wrap_u32, wrap_u8, wrap_u16, AV.atom, normA, lkE, fixObjs, fixBody, fixV, fixCell, hR', j1, j2, j3]
          · intro _
            simp [beqI, bneI, mm_min2, mm_max2, mm_min3, mm_max3, startE, lkE, lkX, lkE_rest, sx, substE, opVA, objs0, List.replicate, XA_seq, XA_region, XOA_go, goE_someA, opV, ev, putA, layAll, XOA_nil, XA_skip_seq, XA_skip_nil, XOA_gd, goG_tA, goG_uA, binV, bi_add, bi_sub, bi_mul, bi_quo, bi_rem, bi_eql, bi_neq, bi_lss, bi_leq, bi_gtr, bi_geq, bi_shl, bi_shr, bi_and, bi_or, bi_xor, unV, XA_ret_nil, XA_ret_cons, endFA_r, endFA_n, endTA_r, endTA_n, endRA_r, endRA_n, fltR, resultsA, resAs, resA, XA_block, XA_cond, pickX_t, pickX_f, pickX_b, XA_skip_blk, XA_skip_lp, XA_exit_seq, XA_exit_lp, XA_exit_blk, XA_exit_nil, load1, Ev.loadCells, objCells, bodyCells, setCells, AV.flat, AV.flat1, backR, backV, backCell, mapO, AV.cells, AV.atom, AV.tree, fillV, repeatL, treeCell, freezeAll, eqCells, callV_T, callV_F, passN, passV, passCell, srcCells, sliceBounds, hiB, loB, thenQ_nA, thenQ_xA, thenQ_rA, runK_nA, runK_xA, runK_rA, wrap_i64, wrap_u64, wrap_u32, wrap_u8, wrap_u16, AV.atom, normA, lkE, fixObjs, fixBody, fixV, fixCell, hR', wakes_ev]
        · have h0j : (0 = j) = False := eq_false (fun h => hj0 h.symm)
          simp [beqI, bneI, mm_min2, mm_max2, mm_min3, mm_max3, startE, lkE, lkX, lkE_rest, sx, substE, opVA, objs0, List.replicate, XA_seq, XA_region, XOA_go, goE_someA, opV, ev, putA, layAll, XOA_nil, XA_skip_seq, XA_skip_nil, XOA_gd, goG_tA, goG_uA, binV, bi_add, bi_sub, bi_mul, bi_quo, bi_rem, bi_eql, bi_neq, bi_lss, bi_leq, bi_gtr, bi_geq, bi_shl, bi_shr, bi_and, bi_or, bi_xor, unV, XA_ret_nil, XA_ret_cons, endFA_r, endFA_n, endTA_r, endTA_n, endRA_r, endRA_n, fltR, resultsA, resAs, resA, XA_block, XA_cond, pickX_t, pickX_f, pickX_b, XA_skip_blk, XA_skip_lp, XA_exit_seq, XA_exit_lp, XA_exit_blk, XA_exit_nil, load1, Ev.loadCells, objCells, bodyCells, setCells, AV.flat, AV.flat1, backR, backV, backCell, mapO, AV.cells, AV.atom, AV.tree, fillV, repeatL, treeCell, freezeAll, eqCells, callV_T, callV_F, passN, passV, passCell, srcCells, sliceBounds, hiB, loB, thenQ_nA, thenQ_xA, thenQ_rA, runK_nA, runK_xA, runK_rA, wrap_i64, wrap_u64, wrap_u32, wrap_u8, wrap_u16, hR', e1, cr', e2, v0, v1, hi, hj, cb1, cb2, hil, ix, ix2, hx, hMl0, hMl, hCl2, hMB, q1, q2, q1a, q2a, q4, q5, q6, q7, q8, q9, q9a, q9b, q10, q11, q12, q13, w1, w2, hi3, hset, h0N, h0j]
          rw [← hR']
          refine XA_for (fun k => ⟨[(56, .ro 4 [R, .ro (N + 1) CM, .ro N (CM.take N), .ro j (CM.take j)]), (57, .int .i64 4), (58, .int .i64 k)], [⟨0, .none⟩, ⟨0, .none⟩, ⟨0, .none⟩, ⟨0, .none⟩]⟩)
            (fun k => True) 4 0 (by omega) (by simp [AV.atom, normA, lkE, fixObjs, fixBody, fixV, fixCell, hR']) trivial ?_ ?_
          · intro k _ hk _
            have hk4 : k = 0 ∨ k = 1 ∨ k = 2 ∨ k = 3 := by omega
            rw [hR'] at f1 f2
            rcases hk4 with rfl | rfl | rfl | rfl
            · simp [beqI, bneI, mm_min2, mm_max2, mm_min3, mm_max3, startE, lkE, lkX, lkE_rest, sx, substE, opVA, objs0, List.replicate, XA_seq, XA_region, XOA_go, goE_someA, opV, ev, putA, layAll, XOA_nil, XA_skip_seq, XA_skip_nil, XOA_gd, goG_tA, goG_uA, binV, bi_add, bi_sub, bi_mul, bi_quo, bi_rem, bi_eql, bi_neq, bi_lss, bi_leq, bi_gtr, bi_geq, bi_shl, bi_shr, bi_and, bi_or, bi_xor, unV, XA_ret_nil, XA_ret_cons, endFA_r, endFA_n, endTA_r, endTA_n, endRA_r, endRA_n, fltR, resultsA, resAs, resA, XA_block, XA_cond, pickX_t, pickX_f, pickX_b, XA_skip_blk, XA_skip_lp, XA_exit_seq, XA_exit_lp, XA_exit_blk, XA_exit_nil, load1, Ev.loadCells, objCells, bodyCells, setCells, AV.flat, AV.flat1, backR, backV, backCell, mapO, AV.cells, AV.atom, AV.tree, fillV, repeatL, treeCell, freezeAll, eqCells, callV_T, callV_F, passN, passV, passCell, srcCells, sliceBounds, hiB, loB, thenQ_nA, thenQ_xA, thenQ_rA, runK_nA, runK_xA, runK_rA, wrap_i64, wrap_u64, wrap_u32, wrap_u8, wrap_u16, AV.atom, normA, lkE, fixObjs, fixBody, fixV, fixCell, hR', f1, f2, f3]
            · simp [beqI, bneI, mm_min2, mm_max2, mm_min3, mm_max3, startE, lkE, lkX, lkE_rest, sx, substE, opVA, objs0, List.replicate, XA_seq, XA_region, XOA_go, goE_someA, opV, ev, putA, layAll, XOA_nil, XA_skip_seq, XA_skip_nil, XOA_gd, goG_tA, goG_uA, binV, bi_add, bi_sub, bi_mul, bi_quo, bi_rem, bi_eql, bi_neq, bi_lss, bi_leq, bi_gtr, bi_geq, bi_shl, bi_shr, bi_and, bi_or, bi_xor, unV, XA_ret_nil, XA_ret_cons, endFA_r, endFA_n, endTA_r, endTA_n, endRA_r, endRA_n, fltR, resultsA, resAs, resA, XA_block, XA_cond, pickX_t, pickX_f, pickX_b, XA_skip_blk, XA_skip_lp, XA_exit_seq, XA_exit_lp, XA_exit_blk, XA_exit_nil, load1, Ev.loadCells, objCells, bodyCells, setCells, AV.flat, AV.flat1, backR, backV, backCell, mapO, AV.cells, AV.atom, AV.tree, fillV, repeatL, treeCell, freezeAll, eqCells, callV_T, callV_F, passN, passV, passCell, srcCells, sliceBounds, hiB, loB, thenQ_nA, thenQ_xA, thenQ_rA, runK_nA, runK_xA, runK_rA, wrap_i64, wrap_u64, wrap_u32, wrap_u8, wrap_u16, AV.atom, normA, lkE, fixObjs, fixBody, fixV, fixCell, hR', g1, g2, g3]
            · simp [beqI, bneI, mm_min2, mm_max2, mm_min3, mm_max3, startE, lkE, lkX, lkE_rest, sx, substE, opVA, objs0, List.replicate, XA_seq, XA_region, XOA_go, goE_someA, opV, ev, putA, layAll, XOA_nil, XA_skip_seq, XA_skip_nil, XOA_gd, goG_tA, goG_uA, binV, bi_add, bi_sub, bi_mul, bi_quo, bi_rem, bi_eql, bi_neq, bi_lss, bi_leq, bi_gtr, bi_geq, bi_shl, bi_shr, bi_and, bi_or, bi_xor, unV, XA_ret_nil, XA_ret_cons, endFA_r, endFA_n, endTA_r, endTA_n, endRA_r, endRA_n, fltR, resultsA, resAs, resA, XA_block, XA_cond, pickX_t, pickX_f, pickX_b, XA_skip_blk, XA_skip_lp, XA_exit_seq, XA_exit_lp, XA_exit_blk, XA_exit_nil, load1, Ev.loadCells, objCells, bodyCells, setCells, AV.flat, AV.flat1, backR, backV, backCell, mapO, AV.cells, AV.atom, AV.tree, fillV, repeatL, treeCell, freezeAll, eqCells, callV_T, callV_F, passN, passV, passCell, srcCells, sliceBounds, hiB, loB, thenQ_nA, thenQ_xA, thenQ_rA, runK_nA, runK_xA, runK_rA, wrap_i64, wrap_u64, wrap_u32, wrap_u8, wrap_u16, AV.atom, normA, lkE, fixObjs, fixBody, fixV, fixCell, hR', i1, i2, i3]
            · simp [beqI, bneI, mm_min2, mm_max2, mm_min3, mm_max3, startE, lkE, lkX, lkE_rest, sx, substE, opVA, objs0, List.replicate, XA_seq, XA_region, XOA_go, goE_someA, opV, ev, putA, layAll, XOA_nil, XA_skip_seq, XA_skip_nil, XOA_gd, goG_tA, goG_uA, binV, bi_add, bi_sub, bi_mul, bi_quo, bi_rem, bi_eql, bi_neq, bi_lss, bi_leq, bi_gtr, bi_geq, bi_shl, bi_shr, bi_and, bi_or, bi_xor, unV, XA_ret_nil, XA_ret_cons, endFA_r, endFA_n, endTA_r, endTA_n, endRA_r, endRA_n, fltR, resultsA, resAs, resA, XA_block, XA_cond, pickX_t, pickX_f, pickX_b, XA_skip_blk, XA_skip_lp, XA_exit_seq, XA_exit_lp, XA_exit_blk, XA_exit_nil, load1, Ev.loadCells, objCells, bodyCells, setCells, AV.flat, AV.flat1, backR, backV, backCell, mapO, AV.cells, AV.atom, AV.tree, fillV, repeatL, treeCell, freezeAll, eqCells, callV_T, callV_F, passN, passV, passCell, srcCells, sliceBounds, hiB, loB, thenQ_nA, thenQ_xA, thenQ_rA, runK_nA, runK_xA, runK_rA, wrap_i64, wrap_u64, wrap_u32, wrap_u8, wrap_u16, AV.atom, normA, lkE, fixObjs, fixBody, fixV, fixCell, hR', j1, j2, j3]
          · intro _
            simp [beqI, bneI, mm_min2, mm_max2, mm_min3, mm_max3, startE, lkE, lkX, lkE_rest, sx, substE, opVA, objs0, List.replicate, XA_seq, XA_region, XOA_go, goE_someA, opV, ev, putA, layAll, XOA_nil, XA_skip_seq, XA_skip_nil, XOA_gd, goG_tA, goG_uA, binV, bi_add, bi_sub, bi_mul, bi_quo, bi_rem, bi_eql, bi_neq, bi_lss, bi_leq, bi_gtr, bi_geq, bi_shl, bi_shr, bi_and, bi_or, bi_xor, unV, XA_ret_nil, XA_ret_cons, endFA_r, endFA_n, endTA_r, endTA_n, endRA_r, endRA_n, fltR, resultsA, resAs, resA, XA_block, XA_cond, pickX_t, pickX_f, pickX_b, XA_skip_blk, XA_skip_lp, XA_exit_seq, XA_exit_lp, XA_exit_blk, XA_exit_nil, load1, Ev.loadCells, objCells, bodyCells, setCells, AV.flat, AV.flat1, backR, backV, backCell, mapO, AV.cells, AV.atom, AV.tree, fillV, repeatL, treeCell, freezeAll, eqCells, callV_T, callV_F, passN, passV, passCell, srcCells, sliceBounds, hiB, loB, thenQ_nA, thenQ_xA, thenQ_rA, runK_nA, runK_xA, runK_rA, wrap_i64, wrap_u64, wrap_u32, wrap_u8, wrap_u16, AV.atom, normA, lkE, fixObjs, fixBody, fixV, fixCell, hR', wakes_ev]
  · have cr' : 600 < (raw.length : Int) := by omega
    clear hq
    obtain ⟨a, b, c, e, F, t, me, fn, li⟩ := q
    simp only [qyC]
    simp [beqI, bneI, mm_min2, mm_max2, mm_min3, mm_max3, startE, lkE, lkX, lkE_rest, sx, substE, opVA, objs0, List.replicate, XA_seq, XA_region, XOA_go, goE_someA, opV, ev, putA, layAll, XOA_nil, XA_skip_seq, XA_skip_nil, XOA_gd, goG_tA, goG_uA, binV, bi_add, bi_sub, bi_mul, bi_quo, bi_rem, bi_eql, bi_neq, bi_lss, bi_leq, bi_gtr, bi_geq, bi_shl, bi_shr, bi_and, bi_or, bi_xor, unV, XA_ret_nil, XA_ret_cons, endFA_r, endFA_n, endTA_r, endTA_n, endRA_r, endRA_n, fltR, resultsA, resAs, resA, XA_block, XA_cond, pickX_t, pickX_f, pickX_b, XA_skip_blk, XA_skip_lp, XA_exit_seq, XA_exit_lp, XA_exit_blk, XA_exit_nil, load1, Ev.loadCells, objCells, bodyCells, setCells, AV.flat, AV.flat1, backR, backV, backCell, mapO, AV.cells, AV.atom, AV.tree, fillV, repeatL, treeCell, freezeAll, eqCells, callV_T, callV_F, passN, passV, passCell, srcCells, sliceBounds, hiB, loB, thenQ_nA, thenQ_xA, thenQ_rA, runK_nA, runK_xA, runK_rA, wrap_i64, wrap_u64, wrap_u32, wrap_u8, wrap_u16, rB, cr', wakes_ev]
theorem queryReads_law (l : List AV) (h : RDargs [.slice (.int .u8), gQy, gA2] l) : ∃ H1, cfT tab 6 l [] = some (.bool true, H1) := by
  obtain ⟨x, r, rfl, hx, y, r, rfl, hy, t, r, rfl, ht, rfl⟩ := h
  obtain ⟨raw, rfl, hl, hr⟩ := rdarg_bytes hx
  obtain ⟨q, rfl, hq⟩ := rdarg_qy hy
  simp only [RDarg, gA2, isAggG, if_true] at ht
  obtain ⟨cs, rfl, L, hL, rfl, hz⟩ := ht
  match L, hL, hz with
  | [l1, l2], _, hz =>
    obtain ⟨a, rfl, ha⟩ := rd_u8 (hz l1 (by simp))
    obtain ⟨b, rfl, hb⟩ := rd_u8 (hz l2 (by simp))
    exact cvF_bool (queryReads_ev raw q a b hr hq ha hb)
theorem queryReads_lifted (os : Os) (started : os.Started) (H : Type) (enc : TypeId × Value → H) :
    ReturnsInHanded {} Try.checked os 6 .any (Rows.queryReadsSpec.pre6 enc Try.prog Try.f6 Rows.queryReadsRow.domain false) (Rows.queryReadsSpec.post enc Try.prog Try.f6 false true false false) := by
  refine returnsInHanded_of_change (C := Try.checked) Try.own started (by kernel_rfl) Try.func6
    (ChangeSpec.witness6 (enc := enc) (C := Try.checked) false ⟨#[], #[.slice none 0 0 , .agg #[.int .u8 0, .int .u8 0, .int .u8 0, .int .u8 0, .slice none 0 0, .int .i64 0, .int .i64 0, .int .i64 0, .int .i64 0] , .agg #[.int .u8 0, .int .u8 0]], []⟩ 8 (by kernel_rfl) (by kernel_rfl) (by kernel_rfl) (by kernel_rfl)) ?_
  intro W base args ds gs before hval hW hcnd _
  have hval' : ∀ (j : Nat) (t : TypeId) (v : Value), Try.f6.params.toList[j]? = some t → args[j]? = some v → Value.okWide Try.prog W .any base t v := fun j t v h1 h2 => hval j t v (by simpa using h1) h2
  obtain ⟨p, q, hA, hV, hpq, _, _⟩ := id hW
  have hg : gtsB Try.prog [.slice (.int .u8), gQy, gA2] Try.f6.params.toList = true := by kernel_rfl
  refine (law_calls' tab_ok hg queryReads_law hval' hA).mono fun e W' ⟨he, hb⟩ => ?_
  subst he
  refine ⟨_, rfl, post_true Try.laidOut (rt := 4) (fun ds h => ?_) rfl (by kernel_rfl) (by kernel_rfl) (by kernel_rfl) hW hb⟩
  match ds, h with
  | [_, _, _], _ => rfl
theorem queryReads_holds : Rows.QueryReadsSaid :=
  OpenClaim.holds_of_wide 6 Try.f6 rfl rfl rfl rfl rfl rfl rfl ⟨rfl, rfl, rfl, rfl, rfl⟩ rfl rfl rfl rfl rfl (by kernel_rfl) Try.func6 (by kernel_rfl)
    (of_decide_eq_true (by kernel_rfl)) (by unfold Func.isWrapper; first | (rw [if_pos (by decide +kernel)]; kernel_rfl) | (rw [if_neg (by decide +kernel)]; exact ⟨rfl, rfl⟩))
    (fun os started H enc _ => queryReads_lifted os started H enc)
end Go.Proofs.Ytambpbcdnhekbaa
