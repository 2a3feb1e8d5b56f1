/- The catalog of any bytes, and of such that are right but for one: both readers tell the same. -/
import Derived.Test.YtfodjphcngidbaaSchU
import Derived.Test.YtfodjphcngidbaaSchBack
set_option linter.unusedSimpArgs false
set_option linter.unusedVariables false
set_option maxHeartbeats 8000000
set_option maxRecDepth 100000
namespace Go.Proofs.Ytfodjphcngidbaa
open Go.Ev
theorem read_same {b : List Int} (hb : okB b) : readG numR stR b = readG numS stS b := by
  cases e : readG numS stS b with
  | none =>
    cases e2 : readG numR stR b with
    | none => rfl
    | some p =>
      obtain ⟨m, D⟩ := p
      rw [(readG_iff numS_P (st := stS) rfl hb m D).2 ((readG_iff numR_P (st := stR) rfl hb m D).1 e2)] at e
      cases e
  | some p =>
    obtain ⟨m, D⟩ := p
    exact (readG_iff numR_P (st := stR) rfl hb m D).2 ((readG_iff numS_P (st := stS) rfl hb m D).1 e)
theorem okC_good {ds : List Dm} {m : Int} (g : goodC ds m = true) : okC ds := by
  refine ⟨by have := goodC_len g; omega, fun d hd => ?_⟩
  have h := small_at g d hd
  exact ⟨⟨by have := h.s; omega, fun x hx => by have := h.sv x hx; unfold inI; omega⟩, by have := h.u; omega, fun l hl => ⟨by have := h.ul l hl; omega, fun x hx => by have := h.uv l hl x hx; unfold inI; omega⟩⟩
theorem reads_ev (b : List Int) (hs : okS (b, false)) : ∃ n cs m ok, cvT tab 20 [rB b] = some (.tup [.agg [.ro n cs, .int .i64 m], .bool ok]) ∧ cvT tab 21 [rB b] = some (.tup [.agg [.ro n cs, .int .i64 m], .bool ok]) ∧
    cvF tab 19 [.agg [.ro n cs, .int .i64 m], .agg [.ro n cs, .int .i64 m]] = some (.bool true) := by
  have e1 := Read_ev b hs
  have e2 := rRead_ev b hs
  rw [read_same hs.1] at e2
  cases e : readG numS stS b with
  | none =>
    rw [e] at e1 e2
    have e3 := rSame_ev [] [] 0 0 ⟨by simp, by simp⟩
    exact ⟨0, [], 0, false, e1, e2, by rw [show sameC [] 0 [] 0 = true from by simp [sameC]] at e3; exact e3⟩
  | some p =>
    obtain ⟨m, D⟩ := p
    rw [e] at e1 e2
    have g := ((readG_iff numS_P (st := stS) rfl hs.1 m D).1 e).1
    have e3 := rSame_ev D D m m (okC_good g)
    exact ⟨D.length, flatD D, m, true, e1, e2, by rw [show sameC D m D m = true from by simp [sameC]] at e3; exact e3⟩
theorem xor8_in (x y : Int) : byte (bXor .u8 x y) := by
  unfold bXor byte
  generalize ((BitVec.ofInt IntKind.u8.bits x ^^^ BitVec.ofInt IntKind.u8.bits y).toNat : Int) = z
  simp only [IntKind.wrap, IntKind.signed, IntKind.bits]
  simp
  omega
def gA2 : GT := .arr 2 (.int .u8)
theorem rd_bytes {cs : List AV} (h : RD (.slice (.int .u8)) cs) : ∃ l : List Int, cs = [rB l] ∧ l.length ≤ 9223372036854775807 ∧ okB l := by
  obtain ⟨l, h1, h2, h3⟩ := rd_slice (fun cs h => rd_u8 h) h
  exact ⟨l, h1, h2, h3⟩
theorem rdarg_bytes {a : AV} (h : RDarg (.slice (.int .u8)) a) : ∃ l : List Int, a = rB l ∧ l.length ≤ 9223372036854775807 ∧ okB l := by
  simp only [RDarg, isAggG] at h
  obtain ⟨l, h1, h2⟩ := rd_bytes h
  simp at h1
  exact ⟨l, h1, h2⟩
theorem schemaReads_ev (raw : List Int) (ds : List Dm) (m t0 t1 : Int) (hr : okB raw) (hC : okC ds) (h0 : byte t0) (h1 : byte t1) :
    cvF tab 6 [rB raw, .agg [.ro ds.length (flatD ds), .int .i64 m], .agg [.int .u8 t0, .int .u8 t1]] = some (.bool true) := by
  refine cvFA_R (mf := Mf.f6) rfl rfl (by kernel_rfl) ?_
  simp only [Mf.f6]
  by_cases cr : raw.length ≤ 1500
  · have cr' : ¬ 1500 < (raw.length : Int) := by omega
    have e1 := lightCat_ev ds m
    cases gl : lightC ds with
    | false =>
      rw [gl] at e1
      simp [beqI, bneI, mm_min2, mm_max2, mm_min3, mm_max3, startE, lkE, lkX, lkE_rest, sx, substE, opVA, objs0, List.replicate, XA_seq, XA_region, XOA_go, goE_someA, opV, ev, putA, layAll, XOA_nil, XA_skip_seq, XA_skip_nil, XOA_gd, goG_tA, goG_uA, binV, bi_add, bi_sub, bi_mul, bi_quo, bi_rem, bi_eql, bi_neq, bi_lss, bi_leq, bi_gtr, bi_geq, bi_shl, bi_shr, bi_and, bi_or, bi_xor, unV, XA_ret_nil, XA_ret_cons, endFA_r, endFA_n, endTA_r, endTA_n, endRA_r, endRA_n, fltR, resultsA, resAs, resA, XA_block, XA_cond, pickX_t, pickX_f, pickX_b, XA_skip_blk, XA_skip_lp, XA_exit_seq, XA_exit_lp, XA_exit_blk, XA_exit_nil, load1, Ev.loadCells, objCells, bodyCells, setCells, AV.flat, AV.flat1, backR, backV, backCell, mapO, AV.cells, AV.atom, AV.tree, fillV, repeatL, treeCell, freezeAll, eqCells, callV_T, callV_F, passV, passCell, srcCells, sliceBounds, hiB, loB, thenQ_nA, thenQ_xA, thenQ_rA, runK_nA, runK_xA, runK_rA, wrap_i64, wrap_u64, wrap_u32, wrap_u8, wrap_u16, rB, e1, cr', wakes_ev]
    | true =>
      rw [gl] at e1
      have e2 := rBytes_ev ds m hC
      have hbl : (bytesC ds m).length ≤ 6000 := by
        unfold bytesC
        split
        · rename_i g; exact (bytesG_len g).2
        · simp
      have hbo := bytesC_ok ds m
      generalize bytesC ds m = B at *
      obtain ⟨n1, cs1, m1, ok1, f1, f2, f3⟩ := reads_ev raw ⟨hr, by simp only; omega⟩
      unfold byte at h0 h1
      have v0 : IntKind.i64.wrap t0 = t0 := wrap_i64 (by omega) (by omega)
      obtain ⟨R, hR⟩ : ∃ R, rB raw = R := ⟨_, rfl⟩
      have hR' : R = .ro raw.length (raw.map (.int .u8)) := hR.symm
      rw [hR] at f1 f2 ⊢
      by_cases cb : B.length = 0
      · have hB0 : B = [] := List.length_eq_zero_iff.1 cb
        subst hB0
        obtain ⟨n2, cs2, m2, ok2, g1, g2, g3⟩ := reads_ev [] ⟨fun x hx => (by cases hx), (by simp)⟩
        simp only [rB, List.length_nil, List.map_nil] at g1 g2 e2
        simp [beqI, bneI, mm_min2, mm_max2, mm_min3, mm_max3, startE, lkE, lkX, lkE_rest, sx, substE, opVA, objs0, List.replicate, XA_seq, XA_region, XOA_go, goE_someA, opV, ev, putA, layAll, XOA_nil, XA_skip_seq, XA_skip_nil, XOA_gd, goG_tA, goG_uA, binV, bi_add, bi_sub, bi_mul, bi_quo, bi_rem, bi_eql, bi_neq, bi_lss, bi_leq, bi_gtr, bi_geq, bi_shl, bi_shr, bi_and, bi_or, bi_xor, unV, XA_ret_nil, XA_ret_cons, endFA_r, endFA_n, endTA_r, endTA_n, endRA_r, endRA_n, fltR, resultsA, resAs, resA, XA_block, XA_cond, pickX_t, pickX_f, pickX_b, XA_skip_blk, XA_skip_lp, XA_exit_seq, XA_exit_lp, XA_exit_blk, XA_exit_nil, load1, Ev.loadCells, objCells, bodyCells, setCells, AV.flat, AV.flat1, backR, backV, backCell, mapO, AV.cells, AV.atom, AV.tree, fillV, repeatL, treeCell, freezeAll, eqCells, callV_T, callV_F, passV, passCell, srcCells, sliceBounds, hiB, loB, thenQ_nA, thenQ_xA, thenQ_rA, runK_nA, runK_xA, runK_rA, wrap_i64, wrap_u64, wrap_u32, wrap_u8, wrap_u16, hR', e1, cr', e2]
        rw [← hR']
        refine XA_for (fun k => ⟨[(46, .ro 2 [R, .ro 0 []]), (47, .int .i64 2), (48, .int .i64 k)], [⟨0, .none⟩, ⟨0, .none⟩, ⟨0, .none⟩, ⟨0, .none⟩, ⟨0, .none⟩]⟩)
          (fun k => True) 2 0 (by omega) (by simp [AV.atom, normA, lkE, fixObjs, fixBody, fixV, fixCell, hR']) trivial ?_ ?_
        · intro k _ hk _
          have hk01 : k = 0 ∨ k = 1 := by omega
          rcases hk01 with rfl | rfl
          · have w := wrap_succ 0 2 (by omega) (by omega)
            simp at w
            rw [hR'] at f1 f2
            simp [beqI, bneI, mm_min2, mm_max2, mm_min3, mm_max3, startE, lkE, lkX, lkE_rest, sx, substE, opVA, objs0, List.replicate, XA_seq, XA_region, XOA_go, goE_someA, opV, ev, putA, layAll, XOA_nil, XA_skip_seq, XA_skip_nil, XOA_gd, goG_tA, goG_uA, binV, bi_add, bi_sub, bi_mul, bi_quo, bi_rem, bi_eql, bi_neq, bi_lss, bi_leq, bi_gtr, bi_geq, bi_shl, bi_shr, bi_and, bi_or, bi_xor, unV, XA_ret_nil, XA_ret_cons, endFA_r, endFA_n, endTA_r, endTA_n, endRA_r, endRA_n, fltR, resultsA, resAs, resA, XA_block, XA_cond, pickX_t, pickX_f, pickX_b, XA_skip_blk, XA_skip_lp, XA_exit_seq, XA_exit_lp, XA_exit_blk, XA_exit_nil, load1, Ev.loadCells, objCells, bodyCells, setCells, AV.flat, AV.flat1, backR, backV, backCell, mapO, AV.cells, AV.atom, AV.tree, fillV, repeatL, treeCell, freezeAll, eqCells, callV_T, callV_F, passV, passCell, srcCells, sliceBounds, hiB, loB, thenQ_nA, thenQ_xA, thenQ_rA, runK_nA, runK_xA, runK_rA, wrap_i64, wrap_u64, wrap_u32, wrap_u8, wrap_u16, AV.atom, normA, lkE, fixObjs, fixBody, fixV, fixCell, hR', f1, f2, f3, w]
          · have w := wrap_succ 1 2 (by omega) (by omega)
            simp at w
            simp [beqI, bneI, mm_min2, mm_max2, mm_min3, mm_max3, startE, lkE, lkX, lkE_rest, sx, substE, opVA, objs0, List.replicate, XA_seq, XA_region, XOA_go, goE_someA, opV, ev, putA, layAll, XOA_nil, XA_skip_seq, XA_skip_nil, XOA_gd, goG_tA, goG_uA, binV, bi_add, bi_sub, bi_mul, bi_quo, bi_rem, bi_eql, bi_neq, bi_lss, bi_leq, bi_gtr, bi_geq, bi_shl, bi_shr, bi_and, bi_or, bi_xor, unV, XA_ret_nil, XA_ret_cons, endFA_r, endFA_n, endTA_r, endTA_n, endRA_r, endRA_n, fltR, resultsA, resAs, resA, XA_block, XA_cond, pickX_t, pickX_f, pickX_b, XA_skip_blk, XA_skip_lp, XA_exit_seq, XA_exit_lp, XA_exit_blk, XA_exit_nil, load1, Ev.loadCells, objCells, bodyCells, setCells, AV.flat, AV.flat1, backR, backV, backCell, mapO, AV.cells, AV.atom, AV.tree, fillV, repeatL, treeCell, freezeAll, eqCells, callV_T, callV_F, passV, passCell, srcCells, sliceBounds, hiB, loB, thenQ_nA, thenQ_xA, thenQ_rA, runK_nA, runK_xA, runK_rA, wrap_i64, wrap_u64, wrap_u32, wrap_u8, wrap_u16, AV.atom, normA, lkE, fixObjs, fixBody, fixV, fixCell, hR', g1, g2, g3, w]
        · intro _
          simp [beqI, bneI, mm_min2, mm_max2, mm_min3, mm_max3, startE, lkE, lkX, lkE_rest, sx, substE, opVA, objs0, List.replicate, XA_seq, XA_region, XOA_go, goE_someA, opV, ev, putA, layAll, XOA_nil, XA_skip_seq, XA_skip_nil, XOA_gd, goG_tA, goG_uA, binV, bi_add, bi_sub, bi_mul, bi_quo, bi_rem, bi_eql, bi_neq, bi_lss, bi_leq, bi_gtr, bi_geq, bi_shl, bi_shr, bi_and, bi_or, bi_xor, unV, XA_ret_nil, XA_ret_cons, endFA_r, endFA_n, endTA_r, endTA_n, endRA_r, endRA_n, fltR, resultsA, resAs, resA, XA_block, XA_cond, pickX_t, pickX_f, pickX_b, XA_skip_blk, XA_skip_lp, XA_exit_seq, XA_exit_lp, XA_exit_blk, XA_exit_nil, load1, Ev.loadCells, objCells, bodyCells, setCells, AV.flat, AV.flat1, backR, backV, backCell, mapO, AV.cells, AV.atom, AV.tree, fillV, repeatL, treeCell, freezeAll, eqCells, callV_T, callV_F, passV, passCell, srcCells, sliceBounds, hiB, loB, thenQ_nA, thenQ_xA, thenQ_rA, runK_nA, runK_xA, runK_rA, wrap_i64, wrap_u64, wrap_u32, wrap_u8, wrap_u16, AV.atom, normA, lkE, fixObjs, fixBody, fixV, fixCell, hR', wakes_ev]
      · have cb1 : (0 : Int) < (B.length : Int) := by omega
        have cb2 : ¬ (B.length : Int) = 0 := by omega
        have cb3 : 0 < B.length := by omega
        have cbn : ¬ B = [] := fun h => cb (by rw [h]; rfl)
        obtain ⟨i, hi⟩ := nat_of (show 0 ≤ t0.tmod (B.length : Int) from Int.tmod_nonneg _ h0.1)
        have hil : i < B.length := by
          have := Int.tmod_lt_of_pos t0 cb1
          omega
        have hil' : (i : Int) < (B.length : Int) := by omega
        have ix : (B.map (AV.int .u8))[i]? = some (.int .u8 B[i]) := by simp [hil]
        obtain ⟨x, hx⟩ : ∃ x, bXor .u8 B[i] t1 = x := ⟨_, rfl⟩
        have hxb : byte x := by rw [← hx]; exact xor8_in _ _
        obtain ⟨n2, cs2, m2, ok2, g1, g2, g3⟩ := reads_ev (B.set i x) ⟨fun y hy => by
            rcases List.mem_or_eq_of_mem_set hy with h | rfl
            · exact hbo y h
            · exact hxb, by simp only [List.length_set]; omega⟩
        simp only [rB, List.length_set] at g1 g2 e2
        have hset : (B.set i x).map (AV.int .u8) = (B.map (.int .u8)).set i (.int .u8 x) := by rw [List.map_set]
        have hset2 : List.take i (B.map (AV.int .u8)) ++ .int .u8 x :: List.drop (i + 1) (B.map (.int .u8)) = (B.map (.int .u8)).set i (.int .u8 x) := by
          rw [List.set_eq_take_append_cons_drop, if_pos (by simpa using hil)]
        rw [hset] at g1 g2
        have hMl : (B.map (AV.int .u8)).length = B.length := List.length_map ..
        have q8 : (B.map (AV.int .u8)).all AV.tree = true := by simp [AV.tree]
        have q9 : ((B.map (AV.int .u8)).set i (.int .u8 x)).all AV.tree = true := by
          rw [← hset]; exact List.all_eq_true.2 fun y hy => by obtain ⟨z, _, rfl⟩ := List.mem_map.1 hy; rfl
        generalize B.map (AV.int .u8) = M at *
        have q1 : 1 + B.length ≤ 140737488355328 := by omega
        have q2 : 1 + B.length < 4611686018427387904 := by omega
        have q3 : (1 : Int) ≤ 1 + (B.length : Int) := by omega
        have q4 : List.take B.length M = M := List.take_of_length_le (by omega)
        have q5 : List.take B.length (M.set i (.int .u8 x)) = M.set i (.int .u8 x) := List.take_of_length_le (by rw [List.length_set]; omega)
        have q6 : 1 + i < 1 + B.length := by omega
        have q7 : 1 + i + 1 ≤ B.length + 1 := by omega
        have q13 : 1 + B.length ≤ B.length + 1 := by omega
        have q10 : (AV.int .u8 0 :: M)[1 + i]? = some (.int .u8 B[i]) := by rw [Nat.add_comm, List.getElem?_cons_succ]; exact ix
        have q11 : List.take (1 + i) (AV.int .u8 0 :: M) = AV.int .u8 0 :: List.take i M := by rw [Nat.add_comm, List.take_succ_cons]
        have q12 : List.drop (1 + i + 1) (AV.int .u8 0 :: M) = List.drop (i + 1) M := by rw [List.drop_succ_cons, Nat.add_comm]
        simp [beqI, bneI, mm_min2, mm_max2, mm_min3, mm_max3, startE, lkE, lkX, lkE_rest, sx, substE, opVA, objs0, List.replicate, XA_seq, XA_region, XOA_go, goE_someA, opV, ev, putA, layAll, XOA_nil, XA_skip_seq, XA_skip_nil, XOA_gd, goG_tA, goG_uA, binV, bi_add, bi_sub, bi_mul, bi_quo, bi_rem, bi_eql, bi_neq, bi_lss, bi_leq, bi_gtr, bi_geq, bi_shl, bi_shr, bi_and, bi_or, bi_xor, unV, XA_ret_nil, XA_ret_cons, endFA_r, endFA_n, endTA_r, endTA_n, endRA_r, endRA_n, fltR, resultsA, resAs, resA, XA_block, XA_cond, pickX_t, pickX_f, pickX_b, XA_skip_blk, XA_skip_lp, XA_exit_seq, XA_exit_lp, XA_exit_blk, XA_exit_nil, load1, Ev.loadCells, objCells, bodyCells, setCells, AV.flat, AV.flat1, backR, backV, backCell, mapO, AV.cells, AV.atom, AV.tree, fillV, repeatL, treeCell, freezeAll, eqCells, callV_T, callV_F, passV, passCell, srcCells, sliceBounds, hiB, loB, thenQ_nA, thenQ_xA, thenQ_rA, runK_nA, runK_xA, runK_rA, wrap_i64, wrap_u64, wrap_u32, wrap_u8, wrap_u16, hR', e1, cr', e2, v0, hi, cb1, cb2, cb3, cbn, hil, hil', ix, hx, hMl, q1, q2, q3, q4, q5, q6, q7, q8, q9, q10, q11, q12, q13, hset2]
        rw [← hR']
        refine XA_for (fun k => ⟨[(46, .ro 2 [R, .ro B.length (M.set i (.int .u8 x))]), (47, .int .i64 2), (48, .int .i64 k)], [⟨0, .none⟩, ⟨0, .none⟩, ⟨0, .none⟩, ⟨0, .none⟩, ⟨0, .none⟩]⟩)
          (fun k => True) 2 0 (by omega) (by simp [AV.atom, normA, lkE, fixObjs, fixBody, fixV, fixCell, hR']) trivial ?_ ?_
        · intro k _ hk _
          have hk01 : k = 0 ∨ k = 1 := by omega
          rcases hk01 with rfl | rfl
          · have w := wrap_succ 0 2 (by omega) (by omega)
            simp at w
            rw [hR'] at f1 f2
            simp [beqI, bneI, mm_min2, mm_max2, mm_min3, mm_max3, startE, lkE, lkX, lkE_rest, sx, substE, opVA, objs0, List.replicate, XA_seq, XA_region, XOA_go, goE_someA, opV, ev, putA, layAll, XOA_nil, XA_skip_seq, XA_skip_nil, XOA_gd, goG_tA, goG_uA, binV, bi_add, bi_sub, bi_mul, bi_quo, bi_rem, bi_eql, bi_neq, bi_lss, bi_leq, bi_gtr, bi_geq, bi_shl, bi_shr, bi_and, bi_or, bi_xor, unV, XA_ret_nil, XA_ret_cons, endFA_r, endFA_n, endTA_r, endTA_n, endRA_r, endRA_n, fltR, resultsA, resAs, resA, XA_block, XA_cond, pickX_t, pickX_f, pickX_b, XA_skip_blk, XA_skip_lp, XA_exit_seq, XA_exit_lp, XA_exit_blk, XA_exit_nil, load1, Ev.loadCells, objCells, bodyCells, setCells, AV.flat, AV.flat1, backR, backV, backCell, mapO, AV.cells, AV.atom, AV.tree, fillV, repeatL, treeCell, freezeAll, eqCells, callV_T, callV_F, passV, passCell, srcCells, sliceBounds, hiB, loB, thenQ_nA, thenQ_xA, thenQ_rA, runK_nA, runK_xA, runK_rA, wrap_i64, wrap_u64, wrap_u32, wrap_u8, wrap_u16, AV.atom, normA, lkE, fixObjs, fixBody, fixV, fixCell, hR', f1, f2, f3, w]
          · have w := wrap_succ 1 2 (by omega) (by omega)
            simp at w
            simp [beqI, bneI, mm_min2, mm_max2, mm_min3, mm_max3, startE, lkE, lkX, lkE_rest, sx, substE, opVA, objs0, List.replicate, XA_seq, XA_region, XOA_go, goE_someA, opV, ev, putA, layAll, XOA_nil, XA_skip_seq, XA_skip_nil, XOA_gd, goG_tA, goG_uA, binV, bi_add, bi_sub, bi_mul, bi_quo, bi_rem, bi_eql, bi_neq, bi_lss, bi_leq, bi_gtr, bi_geq, bi_shl, bi_shr, bi_and, bi_or, bi_xor, unV, XA_ret_nil, XA_ret_cons, endFA_r, endFA_n, endTA_r, endTA_n, endRA_r, endRA_n, fltR, resultsA, resAs, resA, XA_block, XA_cond, pickX_t, pickX_f, pickX_b, XA_skip_blk, XA_skip_lp, XA_exit_seq, XA_exit_lp, XA_exit_blk, XA_exit_nil, load1, Ev.loadCells, objCells, bodyCells, setCells, AV.flat, AV.flat1, backR, backV, backCell, mapO, AV.cells, AV.atom, AV.tree, fillV, repeatL, treeCell, freezeAll, eqCells, callV_T, callV_F, passV, passCell, srcCells, sliceBounds, hiB, loB, thenQ_nA, thenQ_xA, thenQ_rA, runK_nA, runK_xA, runK_rA, wrap_i64, wrap_u64, wrap_u32, wrap_u8, wrap_u16, AV.atom, normA, lkE, fixObjs, fixBody, fixV, fixCell, hR', g1, g2, g3, w]
        · intro _
          simp [beqI, bneI, mm_min2, mm_max2, mm_min3, mm_max3, startE, lkE, lkX, lkE_rest, sx, substE, opVA, objs0, List.replicate, XA_seq, XA_region, XOA_go, goE_someA, opV, ev, putA, layAll, XOA_nil, XA_skip_seq, XA_skip_nil, XOA_gd, goG_tA, goG_uA, binV, bi_add, bi_sub, bi_mul, bi_quo, bi_rem, bi_eql, bi_neq, bi_lss, bi_leq, bi_gtr, bi_geq, bi_shl, bi_shr, bi_and, bi_or, bi_xor, unV, XA_ret_nil, XA_ret_cons, endFA_r, endFA_n, endTA_r, endTA_n, endRA_r, endRA_n, fltR, resultsA, resAs, resA, XA_block, XA_cond, pickX_t, pickX_f, pickX_b, XA_skip_blk, XA_skip_lp, XA_exit_seq, XA_exit_lp, XA_exit_blk, XA_exit_nil, load1, Ev.loadCells, objCells, bodyCells, setCells, AV.flat, AV.flat1, backR, backV, backCell, mapO, AV.cells, AV.atom, AV.tree, fillV, repeatL, treeCell, freezeAll, eqCells, callV_T, callV_F, passV, passCell, srcCells, sliceBounds, hiB, loB, thenQ_nA, thenQ_xA, thenQ_rA, runK_nA, runK_xA, runK_rA, wrap_i64, wrap_u64, wrap_u32, wrap_u8, wrap_u16, AV.atom, normA, lkE, fixObjs, fixBody, fixV, fixCell, hR', wakes_ev]
  · have cr' : 1500 < (raw.length : Int) := by omega
    simp [beqI, bneI, mm_min2, mm_max2, mm_min3, mm_max3, startE, lkE, lkX, lkE_rest, sx, substE, opVA, objs0, List.replicate, XA_seq, XA_region, XOA_go, goE_someA, opV, ev, putA, layAll, XOA_nil, XA_skip_seq, XA_skip_nil, XOA_gd, goG_tA, goG_uA, binV, bi_add, bi_sub, bi_mul, bi_quo, bi_rem, bi_eql, bi_neq, bi_lss, bi_leq, bi_gtr, bi_geq, bi_shl, bi_shr, bi_and, bi_or, bi_xor, unV, XA_ret_nil, XA_ret_cons, endFA_r, endFA_n, endTA_r, endTA_n, endRA_r, endRA_n, fltR, resultsA, resAs, resA, XA_block, XA_cond, pickX_t, pickX_f, pickX_b, XA_skip_blk, XA_skip_lp, XA_exit_seq, XA_exit_lp, XA_exit_blk, XA_exit_nil, load1, Ev.loadCells, objCells, bodyCells, setCells, AV.flat, AV.flat1, backR, backV, backCell, mapO, AV.cells, AV.atom, AV.tree, fillV, repeatL, treeCell, freezeAll, eqCells, callV_T, callV_F, passV, passCell, srcCells, sliceBounds, hiB, loB, thenQ_nA, thenQ_xA, thenQ_rA, runK_nA, runK_xA, runK_rA, wrap_i64, wrap_u64, wrap_u32, wrap_u8, wrap_u16, rB, cr', wakes_ev]
theorem schemaReads_law (l : List AV) (h : RDargs [.slice (.int .u8), gCat, gA2] l) : ∃ H1, cfT tab 6 l [] = some (.bool true, H1) := by
  obtain ⟨x, r, rfl, hx, y, r, rfl, hy, t, r, rfl, ht, rfl⟩ := h
  obtain ⟨raw, rfl, hl, hr⟩ := rdarg_bytes hx
  obtain ⟨ds, m, rfl, hC, hm⟩ := rdarg_cat hy
  simp only [RDarg, gA2, isAggG, if_true] at ht
  obtain ⟨cs, rfl, L, hL, rfl, hx⟩ := ht
  match L, hL, hx with
  | [l1, l2], _, hx =>
    obtain ⟨a, rfl, ha⟩ := rd_u8 (hx l1 (by simp))
    obtain ⟨b, rfl, hb⟩ := rd_u8 (hx l2 (by simp))
    exact cvF_bool (schemaReads_ev raw ds m a b hr hC ha hb)
theorem schemaReads_lifted (os : Os) (started : os.Started) (H : Type) (enc : TypeId × Value → H) :
    ReturnsInHanded {} Try.checked os 6 .any (Rows.schemaReadsSpec.pre6 enc Try.prog Try.f6 Rows.schemaReadsRow.domain false) (Rows.schemaReadsSpec.post enc Try.prog Try.f6 false true false false) := by
  refine returnsInHanded_of_change (C := Try.checked) Try.own started (by kernel_rfl) Try.func6
    (ChangeSpec.witness6 (enc := enc) (C := Try.checked) false ⟨#[], #[.slice none 0 0, .agg #[.slice none 0 0, .int .i64 0], .agg #[.int .u8 0, .int .u8 0]], []⟩ 8 (by kernel_rfl) (by kernel_rfl) (by kernel_rfl) (by kernel_rfl)) ?_
  intro W base args ds gs before hval hW hcnd _
  have hval' : ∀ (j : Nat) (t : TypeId) (v : Value), Try.f6.params.toList[j]? = some t → args[j]? = some v → Value.okWide Try.prog W .any base t v := fun j t v h1 h2 => hval j t v (by simpa using h1) h2
  obtain ⟨p, q, hA, hV, hpq, _, _⟩ := id hW
  have hg : gtsB Try.prog [.slice (.int .u8), gCat, gA2] Try.f6.params.toList = true := by kernel_rfl
  refine (law_calls' tab_ok hg schemaReads_law hval' hA).mono fun e W' ⟨he, hb⟩ => ?_
  subst he
  refine ⟨_, rfl, post_true Try.laidOut (rt := 4) (fun ds h => ?_) rfl (by kernel_rfl) (by kernel_rfl) (by kernel_rfl) hW hb⟩
  match ds, h with
  | [_, _, _], _ => rfl
theorem schemaReads_holds : Rows.SchemaReadsSaid :=
  OpenClaim.holds_of_wide 6 Try.f6 rfl rfl rfl rfl rfl rfl rfl ⟨rfl, rfl, rfl, rfl, rfl⟩ rfl rfl rfl rfl rfl (by kernel_rfl) Try.func6 (by kernel_rfl)
    (of_decide_eq_true (by kernel_rfl)) (by unfold Func.isWrapper; first | (rw [if_pos (by decide +kernel)]; kernel_rfl) | (rw [if_neg (by decide +kernel)]; exact ⟨rfl, rfl⟩))
    (fun os started H enc _ => schemaReads_lifted os started H enc)
end Go.Proofs.Ytfodjphcngidbaa
