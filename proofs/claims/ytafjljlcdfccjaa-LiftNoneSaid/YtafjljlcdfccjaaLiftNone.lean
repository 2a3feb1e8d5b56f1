/- What is finer, or no node's, carries nothing. -/
import Derived.Test.YtafjljlcdfccjaaLiftCom
set_option linter.unusedSimpArgs false
set_option linter.unusedVariables false
set_option maxHeartbeats 4000000
set_option maxRecDepth 100000
namespace Go.Proofs.Ytafjljlcdfccjaa
open Go.Ev
theorem far_bad {ds : List Dm} {m : Int} {v : List Int} (hv : okN v) {i : Nat} (hi : i < 4) (h : 5 ≤ gI v i) : goodN ds m v = false := by
  rw [Bool.eq_false_iff]
  intro gn
  have g := goodN_good gn
  have hg := (goodN_iff g hv).1 gn
  have b0 := wOf_le g 0
  have b1 := wOf_le g 1
  have b2 := wOf_le g 2
  have b3 := wOf_le g 3
  have : i = 0 ∨ i = 1 ∨ i = 2 ∨ i = 3 := by omega
  rcases this with rfl | rfl | rfl | rfl <;> omega
theorem far_right {ds : List Dm} {m : Int} {v a : List Int} (hv : okN v) (ha : okN a) (h : goodN ds m v = false) : rightC ds m v a = false := by
  rw [Bool.eq_false_iff]
  intro hr
  rw [rightC_node hr hv ha] at h
  cases h
theorem below_zero {v : List Int} (hv : okN v) (h : v ≠ [0, 0, 0, 0]) : belowN v zero4 = false := by
  rw [Bool.eq_false_iff]
  intro hb
  obtain ⟨a, b, c, d, rfl, ha, hb', hc, hd⟩ := four hv
  unfold byte at *
  simp [belowN, zero4] at hb
  apply h
  have e0 : a = 0 := by omega
  have e1 : b = 0 := by omega
  have e2 : c = 0 := by omega
  have e3 : d = 0 := by omega
  rw [e0, e1, e2, e3]
/-- What is told of a node that is none. -/
theorem liftNone_core (ds : List Dm) (m : Int) (v far p : List Int) (hC : okC ds) (hv : okN v) (hfar : okN far) (hp : okN p) (hb : goodN ds m far = false) :
    cvF tab 11 [.agg [.ro ds.length (flatD ds), .int .i64 m], .agg (v.map (.int .u8)), .agg (far.map (.int .u8)), .agg (p.map (.int .u8))] = some (.tup [.agg [.int .u8 0, .int .u8 0, .int .u8 0, .int .u8 0], .bool false]) ∧
    cvF tab 11 [.agg [.ro ds.length (flatD ds), .int .i64 m], .agg (far.map (.int .u8)), .agg (far.map (.int .u8)), .agg (p.map (.int .u8))] = some (.tup [.agg [.int .u8 0, .int .u8 0, .int .u8 0, .int .u8 0], .bool false]) ∧
    cvF tab 11 [.agg [.ro 0 [], .int .i64 0], .agg (v.map (.int .u8)), .agg (v.map (.int .u8)), .agg (p.map (.int .u8))] = some (.tup [.agg [.int .u8 0, .int .u8 0, .int .u8 0, .int .u8 0], .bool false]) ∧
    cvT tab 16 [.agg [.ro ds.length (flatD ds), .int .i64 m], .agg (far.map (.int .u8)), .agg (p.map (.int .u8)), .agg (v.map (.int .u8))] = some (.ro 0 []) ∧
    cvT tab 16 [.agg [.ro ds.length (flatD ds), .int .i64 m], .agg (v.map (.int .u8)), .agg (p.map (.int .u8)), .agg (far.map (.int .u8))] = some (.ro 0 []) ∧
    cvF tab 13 [.agg [.ro ds.length (flatD ds), .int .i64 m], .agg (far.map (.int .u8)), .agg (p.map (.int .u8)), .agg [.int .i64 0, .int .i64 0, .ro 1 [.int .i64 0]]] = some (.bool false) := by
  have hr := far_right (a := p) hfar hp hb
  refine ⟨?_, ?_, ?_, ?_, ?_, ?_⟩
  · have e := To_ev ds m v far p hC hv hfar hp
    have k : toOk ds m v far p = false := by simp [toOk, hb]
    rw [k, toP_no k] at e
    exact e
  · have e := To_ev ds m far far p hC hfar hfar hp
    have k : toOk ds m far far p = false := by simp [toOk, hb]
    rw [k, toP_no k] at e
    exact e
  · have e := To_ev [] 0 v v p ⟨by simp, fun d h => by cases h⟩ hv hv hp
    have k : toOk [] 0 v v p = false := by simp [toOk, rightC, goodC]
    rw [k, toP_no k] at e
    exact e
  · have e := Fiber_ev ds m far p v hC hfar hp hv
    have k : fiberC ds m far p v = [] := by simp [fiberC, fibOk, hr]
    rw [k] at e
    exact e
  · have e := Fiber_ev ds m v p far hC hv hp hfar
    have k : fiberC ds m v p far = [] := by simp [fiberC, fibOk, hb]
    rw [k] at e
    exact e
  · have e := Within_ev ds m far p 0 0 [0] hC hfar hp (by simp)
    have k : withinC ds m far p 0 0 [0] = false := by simp [withinC, hr]
    rw [k] at e
    exact e
theorem liftNone_ev (ds : List Dm) (m : Int) (u v w p : List Int) (x : Int) (hC : okC ds) (hu : okN u) (hv : okN v) (hw : okN w) (hp : okN p) (hx : 0 ≤ x ∧ x ≤ 255) :
    cvF tab 7 [wayV ds m u v w p, .int .u8 x] = some (.bool true) := by
  refine cvFA_R (mf := Mf.f7) rfl rfl (by kernel_rfl) ?_
  simp only [Mf.f7]
  have er := rright_ev ds m v p hC hv hp
  have nd := fun (h : rightC ds m v p = true) => rightC_node h hv hp
  have hgi := fun (gn : goodN ds m v = true) => (goodN_iff (goodN_good gn) hv).1 gn
  have hwl := fun (gn : goodN ds m v = true) => wOf_le (goodN_good gn)
  have z1 := fun (h : v ≠ [0, 0, 0, 0]) => below_zero hv h
  have eT := To_ev ds m v zero4 p hC hv ok_zero4 hp
  have eF := Fiber_ev ds m zero4 zero4 v hC ok_zero4 ok_zero4 hv
  have core := fun far hfar hb => liftNone_core ds m v far p hC hv hfar hp hb
  have hy0 : 0 ≤ x.tmod 4 := Int.tmod_nonneg 4 hx.1
  have hy4 : x.tmod 4 < 4 := Int.tmod_lt_of_pos x (by omega)
  have wx : IntKind.i64.wrap x = x := wrap_i64 (by omega) (by omega)
  obtain ⟨u0, u1, u2, u3, rfl, -, -, -, -⟩ := four hu
  obtain ⟨v0, v1, v2, v3, rfl, hv0, hv1, hv2, hv3⟩ := four hv
  obtain ⟨w0, w1, w2, w3, rfl, -, -, -, -⟩ := four hw
  obtain ⟨p0, p1, p2, p3, rfl, -, -, -, -⟩ := four hp
  simp only [List.map] at er core eT eF
  cases gr : rightC ds m [v0, v1, v2, v3] [p0, p1, p2, p3] with
  | false =>
    rw [gr] at er
    simp [beqI, bneI, mm_min2, mm_max2, mm_min3, mm_max3, startE, lkE, lkX, lkE_rest, sx, substE, opVA, objs0, List.replicate, XA_seq, XA_region, XOA_go, goE_someA, opV, ev, putA, layAll, XOA_nil, XA_skip_seq, XA_skip_nil, XOA_gd, goG_tA, goG_uA, binV, binInt, unV, XA_ret_nil, XA_ret_cons, endFA_r, endFA_n, endTA_r, endTA_n, endRA_r, endRA_n, fltR, resultsA, resAs, resA, XA_block, XA_cond, pickX_t, pickX_f, pickX_b, XA_skip_blk, XA_skip_lp, XA_exit_seq, XA_exit_lp, XA_exit_blk, XA_exit_nil, load1, Ev.loadCells, objCells, bodyCells, setCells, AV.flat, AV.flat1, backR, backV, backCell, mapO, AV.cells, AV.atom, AV.tree, fillV, repeatL, treeCell, freezeAll, eqCells, callV_T, callV_F, passV, passCell, srcCells, sliceBounds, hiB, loB, thenQ_nA, thenQ_xA, thenQ_rA, runK_nA, runK_xA, runK_rA, wrap_i64, wrap_u64, wrap_u32, wrap_u8, wrap_u16, wayV, er, wakes_ev]
  | true =>
    rw [gr] at er
    have gn := nd gr
    have hgi := hgi gn
    have hwl := hwl gn
    have b0 := hwl 0
    have b1 := hwl 1
    have b2 := hwl 2
    have b3 := hwl 3
    simp only [gI, List.getD_cons_zero, List.getD_cons_succ] at hgi
    unfold byte at *
    have ub0 : IntKind.u8.wrap (v0 + 5) = v0 + 5 := wrap_u8 (by omega) (by omega)
    have ub1 : IntKind.u8.wrap (v1 + 5) = v1 + 5 := wrap_u8 (by omega) (by omega)
    have ub2 : IntKind.u8.wrap (v2 + 5) = v2 + 5 := wrap_u8 (by omega) (by omega)
    have ub3 : IntKind.u8.wrap (v3 + 5) = v3 + 5 := wrap_u8 (by omega) (by omega)
    have fin : (decide (v0 = 0) && (decide (v1 = 0) && (decide (v2 = 0) && decide (v3 = 0)))) = false →
        cvF tab 11 [.agg [.ro ds.length (flatD ds), .int .i64 m], .agg [.int .u8 v0, .int .u8 v1, .int .u8 v2, .int .u8 v3], .agg [.int .u8 0, .int .u8 0, .int .u8 0, .int .u8 0], .agg [.int .u8 p0, .int .u8 p1, .int .u8 p2, .int .u8 p3]] = some (.tup [.agg [.int .u8 0, .int .u8 0, .int .u8 0, .int .u8 0], .bool false]) ∧
        cvT tab 16 [.agg [.ro ds.length (flatD ds), .int .i64 m], .agg [.int .u8 0, .int .u8 0, .int .u8 0, .int .u8 0], .agg [.int .u8 0, .int .u8 0, .int .u8 0, .int .u8 0], .agg [.int .u8 v0, .int .u8 v1, .int .u8 v2, .int .u8 v3]] = some (.ro 0 []) := by
      intro h
      have hz := z1 (fun e => by
        simp only [List.cons.injEq] at e
        rw [Bool.eq_false_iff] at h
        apply h
        simp [e.1, e.2.1, e.2.2.1, e.2.2.2.1])
      have k1 : toOk ds m [v0, v1, v2, v3] zero4 [p0, p1, p2, p3] = false := by simp [toOk, hz]
      have k2 : fiberC ds m zero4 zero4 [v0, v1, v2, v3] = [] := by simp [fiberC, fibOk, hz]
      rw [k1, toP_no k1] at eT
      rw [k2] at eF
      exact ⟨eT, eF⟩
    have h0123 : x.tmod 4 = 0 ∨ x.tmod 4 = 1 ∨ x.tmod 4 = 2 ∨ x.tmod 4 = 3 := by omega
    rcases h0123 with hxx | hxx | hxx | hxx
    · obtain ⟨c1, c2, c3, c4, c5, c6⟩ := core [v0 + 5, v1, v2, v3] (okN4 ⟨by omega, by omega⟩ ⟨by omega, by omega⟩ ⟨by omega, by omega⟩ ⟨by omega, by omega⟩) (far_bad (i := 0) (okN4 ⟨by omega, by omega⟩ ⟨by omega, by omega⟩ ⟨by omega, by omega⟩ ⟨by omega, by omega⟩) (by omega) (by simp [gI]; omega))
      simp only [List.map] at c1 c2 c4 c5 c6
      cases hz : (decide (v0 = 0) && (decide (v1 = 0) && (decide (v2 = 0) && decide (v3 = 0)))) with
      | true => simp [beqI, bneI, mm_min2, mm_max2, mm_min3, mm_max3, startE, lkE, lkX, lkE_rest, sx, substE, opVA, objs0, List.replicate, XA_seq, XA_region, XOA_go, goE_someA, opV, ev, putA, layAll, XOA_nil, XA_skip_seq, XA_skip_nil, XOA_gd, goG_tA, goG_uA, binV, binInt, unV, XA_ret_nil, XA_ret_cons, endFA_r, endFA_n, endTA_r, endTA_n, endRA_r, endRA_n, fltR, resultsA, resAs, resA, XA_block, XA_cond, pickX_t, pickX_f, pickX_b, XA_skip_blk, XA_skip_lp, XA_exit_seq, XA_exit_lp, XA_exit_blk, XA_exit_nil, load1, Ev.loadCells, objCells, bodyCells, setCells, AV.flat, AV.flat1, backR, backV, backCell, mapO, AV.cells, AV.atom, AV.tree, fillV, repeatL, treeCell, freezeAll, eqCells, callV_T, callV_F, passV, passCell, srcCells, sliceBounds, hiB, loB, thenQ_nA, thenQ_xA, thenQ_rA, runK_nA, runK_xA, runK_rA, wrap_i64, wrap_u64, wrap_u32, wrap_u8, wrap_u16, wayV, er, wx, hxx, ub0, c1, c2, c3, c4, c5, c6, hz, wakes_ev]
      | false =>
        obtain ⟨f1, f2⟩ := fin hz
        simp [beqI, bneI, mm_min2, mm_max2, mm_min3, mm_max3, startE, lkE, lkX, lkE_rest, sx, substE, opVA, objs0, List.replicate, XA_seq, XA_region, XOA_go, goE_someA, opV, ev, putA, layAll, XOA_nil, XA_skip_seq, XA_skip_nil, XOA_gd, goG_tA, goG_uA, binV, binInt, unV, XA_ret_nil, XA_ret_cons, endFA_r, endFA_n, endTA_r, endTA_n, endRA_r, endRA_n, fltR, resultsA, resAs, resA, XA_block, XA_cond, pickX_t, pickX_f, pickX_b, XA_skip_blk, XA_skip_lp, XA_exit_seq, XA_exit_lp, XA_exit_blk, XA_exit_nil, load1, Ev.loadCells, objCells, bodyCells, setCells, AV.flat, AV.flat1, backR, backV, backCell, mapO, AV.cells, AV.atom, AV.tree, fillV, repeatL, treeCell, freezeAll, eqCells, callV_T, callV_F, passV, passCell, srcCells, sliceBounds, hiB, loB, thenQ_nA, thenQ_xA, thenQ_rA, runK_nA, runK_xA, runK_rA, wrap_i64, wrap_u64, wrap_u32, wrap_u8, wrap_u16, wayV, er, wx, hxx, ub0, c1, c2, c3, c4, c5, c6, hz, f1, f2, wakes_ev]
    · obtain ⟨c1, c2, c3, c4, c5, c6⟩ := core [v0, v1 + 5, v2, v3] (okN4 ⟨by omega, by omega⟩ ⟨by omega, by omega⟩ ⟨by omega, by omega⟩ ⟨by omega, by omega⟩) (far_bad (i := 1) (okN4 ⟨by omega, by omega⟩ ⟨by omega, by omega⟩ ⟨by omega, by omega⟩ ⟨by omega, by omega⟩) (by omega) (by simp [gI]; omega))
      simp only [List.map] at c1 c2 c4 c5 c6
      cases hz : (decide (v0 = 0) && (decide (v1 = 0) && (decide (v2 = 0) && decide (v3 = 0)))) with
      | true => simp [beqI, bneI, mm_min2, mm_max2, mm_min3, mm_max3, startE, lkE, lkX, lkE_rest, sx, substE, opVA, objs0, List.replicate, XA_seq, XA_region, XOA_go, goE_someA, opV, ev, putA, layAll, XOA_nil, XA_skip_seq, XA_skip_nil, XOA_gd, goG_tA, goG_uA, binV, binInt, unV, XA_ret_nil, XA_ret_cons, endFA_r, endFA_n, endTA_r, endTA_n, endRA_r, endRA_n, fltR, resultsA, resAs, resA, XA_block, XA_cond, pickX_t, pickX_f, pickX_b, XA_skip_blk, XA_skip_lp, XA_exit_seq, XA_exit_lp, XA_exit_blk, XA_exit_nil, load1, Ev.loadCells, objCells, bodyCells, setCells, AV.flat, AV.flat1, backR, backV, backCell, mapO, AV.cells, AV.atom, AV.tree, fillV, repeatL, treeCell, freezeAll, eqCells, callV_T, callV_F, passV, passCell, srcCells, sliceBounds, hiB, loB, thenQ_nA, thenQ_xA, thenQ_rA, runK_nA, runK_xA, runK_rA, wrap_i64, wrap_u64, wrap_u32, wrap_u8, wrap_u16, wayV, er, wx, hxx, ub1, c1, c2, c3, c4, c5, c6, hz, wakes_ev]
      | false =>
        obtain ⟨f1, f2⟩ := fin hz
        simp [beqI, bneI, mm_min2, mm_max2, mm_min3, mm_max3, startE, lkE, lkX, lkE_rest, sx, substE, opVA, objs0, List.replicate, XA_seq, XA_region, XOA_go, goE_someA, opV, ev, putA, layAll, XOA_nil, XA_skip_seq, XA_skip_nil, XOA_gd, goG_tA, goG_uA, binV, binInt, unV, XA_ret_nil, XA_ret_cons, endFA_r, endFA_n, endTA_r, endTA_n, endRA_r, endRA_n, fltR, resultsA, resAs, resA, XA_block, XA_cond, pickX_t, pickX_f, pickX_b, XA_skip_blk, XA_skip_lp, XA_exit_seq, XA_exit_lp, XA_exit_blk, XA_exit_nil, load1, Ev.loadCells, objCells, bodyCells, setCells, AV.flat, AV.flat1, backR, backV, backCell, mapO, AV.cells, AV.atom, AV.tree, fillV, repeatL, treeCell, freezeAll, eqCells, callV_T, callV_F, passV, passCell, srcCells, sliceBounds, hiB, loB, thenQ_nA, thenQ_xA, thenQ_rA, runK_nA, runK_xA, runK_rA, wrap_i64, wrap_u64, wrap_u32, wrap_u8, wrap_u16, wayV, er, wx, hxx, ub1, c1, c2, c3, c4, c5, c6, hz, f1, f2, wakes_ev]
    · obtain ⟨c1, c2, c3, c4, c5, c6⟩ := core [v0, v1, v2 + 5, v3] (okN4 ⟨by omega, by omega⟩ ⟨by omega, by omega⟩ ⟨by omega, by omega⟩ ⟨by omega, by omega⟩) (far_bad (i := 2) (okN4 ⟨by omega, by omega⟩ ⟨by omega, by omega⟩ ⟨by omega, by omega⟩ ⟨by omega, by omega⟩) (by omega) (by simp [gI]; omega))
      simp only [List.map] at c1 c2 c4 c5 c6
      cases hz : (decide (v0 = 0) && (decide (v1 = 0) && (decide (v2 = 0) && decide (v3 = 0)))) with
      | true => simp [beqI, bneI, mm_min2, mm_max2, mm_min3, mm_max3, startE, lkE, lkX, lkE_rest, sx, substE, opVA, objs0, List.replicate, XA_seq, XA_region, XOA_go, goE_someA, opV, ev, putA, layAll, XOA_nil, XA_skip_seq, XA_skip_nil, XOA_gd, goG_tA, goG_uA, binV, binInt, unV, XA_ret_nil, XA_ret_cons, endFA_r, endFA_n, endTA_r, endTA_n, endRA_r, endRA_n, fltR, resultsA, resAs, resA, XA_block, XA_cond, pickX_t, pickX_f, pickX_b, XA_skip_blk, XA_skip_lp, XA_exit_seq, XA_exit_lp, XA_exit_blk, XA_exit_nil, load1, Ev.loadCells, objCells, bodyCells, setCells, AV.flat, AV.flat1, backR, backV, backCell, mapO, AV.cells, AV.atom, AV.tree, fillV, repeatL, treeCell, freezeAll, eqCells, callV_T, callV_F, passV, passCell, srcCells, sliceBounds, hiB, loB, thenQ_nA, thenQ_xA, thenQ_rA, runK_nA, runK_xA, runK_rA, wrap_i64, wrap_u64, wrap_u32, wrap_u8, wrap_u16, wayV, er, wx, hxx, ub2, c1, c2, c3, c4, c5, c6, hz, wakes_ev]
      | false =>
        obtain ⟨f1, f2⟩ := fin hz
        simp [beqI, bneI, mm_min2, mm_max2, mm_min3, mm_max3, startE, lkE, lkX, lkE_rest, sx, substE, opVA, objs0, List.replicate, XA_seq, XA_region, XOA_go, goE_someA, opV, ev, putA, layAll, XOA_nil, XA_skip_seq, XA_skip_nil, XOA_gd, goG_tA, goG_uA, binV, binInt, unV, XA_ret_nil, XA_ret_cons, endFA_r, endFA_n, endTA_r, endTA_n, endRA_r, endRA_n, fltR, resultsA, resAs, resA, XA_block, XA_cond, pickX_t, pickX_f, pickX_b, XA_skip_blk, XA_skip_lp, XA_exit_seq, XA_exit_lp, XA_exit_blk, XA_exit_nil, load1, Ev.loadCells, objCells, bodyCells, setCells, AV.flat, AV.flat1, backR, backV, backCell, mapO, AV.cells, AV.atom, AV.tree, fillV, repeatL, treeCell, freezeAll, eqCells, callV_T, callV_F, passV, passCell, srcCells, sliceBounds, hiB, loB, thenQ_nA, thenQ_xA, thenQ_rA, runK_nA, runK_xA, runK_rA, wrap_i64, wrap_u64, wrap_u32, wrap_u8, wrap_u16, wayV, er, wx, hxx, ub2, c1, c2, c3, c4, c5, c6, hz, f1, f2, wakes_ev]
    · obtain ⟨c1, c2, c3, c4, c5, c6⟩ := core [v0, v1, v2, v3 + 5] (okN4 ⟨by omega, by omega⟩ ⟨by omega, by omega⟩ ⟨by omega, by omega⟩ ⟨by omega, by omega⟩) (far_bad (i := 3) (okN4 ⟨by omega, by omega⟩ ⟨by omega, by omega⟩ ⟨by omega, by omega⟩ ⟨by omega, by omega⟩) (by omega) (by simp [gI]; omega))
      simp only [List.map] at c1 c2 c4 c5 c6
      cases hz : (decide (v0 = 0) && (decide (v1 = 0) && (decide (v2 = 0) && decide (v3 = 0)))) with
      | true => simp [beqI, bneI, mm_min2, mm_max2, mm_min3, mm_max3, startE, lkE, lkX, lkE_rest, sx, substE, opVA, objs0, List.replicate, XA_seq, XA_region, XOA_go, goE_someA, opV, ev, putA, layAll, XOA_nil, XA_skip_seq, XA_skip_nil, XOA_gd, goG_tA, goG_uA, binV, binInt, unV, XA_ret_nil, XA_ret_cons, endFA_r, endFA_n, endTA_r, endTA_n, endRA_r, endRA_n, fltR, resultsA, resAs, resA, XA_block, XA_cond, pickX_t, pickX_f, pickX_b, XA_skip_blk, XA_skip_lp, XA_exit_seq, XA_exit_lp, XA_exit_blk, XA_exit_nil, load1, Ev.loadCells, objCells, bodyCells, setCells, AV.flat, AV.flat1, backR, backV, backCell, mapO, AV.cells, AV.atom, AV.tree, fillV, repeatL, treeCell, freezeAll, eqCells, callV_T, callV_F, passV, passCell, srcCells, sliceBounds, hiB, loB, thenQ_nA, thenQ_xA, thenQ_rA, runK_nA, runK_xA, runK_rA, wrap_i64, wrap_u64, wrap_u32, wrap_u8, wrap_u16, wayV, er, wx, hxx, ub3, c1, c2, c3, c4, c5, c6, hz, wakes_ev]
      | false =>
        obtain ⟨f1, f2⟩ := fin hz
        simp [beqI, bneI, mm_min2, mm_max2, mm_min3, mm_max3, startE, lkE, lkX, lkE_rest, sx, substE, opVA, objs0, List.replicate, XA_seq, XA_region, XOA_go, goE_someA, opV, ev, putA, layAll, XOA_nil, XA_skip_seq, XA_skip_nil, XOA_gd, goG_tA, goG_uA, binV, binInt, unV, XA_ret_nil, XA_ret_cons, endFA_r, endFA_n, endTA_r, endTA_n, endRA_r, endRA_n, fltR, resultsA, resAs, resA, XA_block, XA_cond, pickX_t, pickX_f, pickX_b, XA_skip_blk, XA_skip_lp, XA_exit_seq, XA_exit_lp, XA_exit_blk, XA_exit_nil, load1, Ev.loadCells, objCells, bodyCells, setCells, AV.flat, AV.flat1, backR, backV, backCell, mapO, AV.cells, AV.atom, AV.tree, fillV, repeatL, treeCell, freezeAll, eqCells, callV_T, callV_F, passV, passCell, srcCells, sliceBounds, hiB, loB, thenQ_nA, thenQ_xA, thenQ_rA, runK_nA, runK_xA, runK_rA, wrap_i64, wrap_u64, wrap_u32, wrap_u8, wrap_u16, wayV, er, wx, hxx, ub3, c1, c2, c3, c4, c5, c6, hz, f1, f2, wakes_ev]
theorem liftNone_law (l : List AV) (h : RDargs [gWay, .int .u8] l) : ∃ H1, cfT tab 7 l [] = some (.bool true, H1) := by
  obtain ⟨x, r, rfl, hx, y, r, rfl, hy, rfl⟩ := h
  obtain ⟨ds, m, u, v, w, a, rfl, hC, hu, hv, hw, ha⟩ := rdarg_way hx
  obtain ⟨y, rfl, hy'⟩ := rdarg_u8 hy
  exact cvF_bool (liftNone_ev ds m u v w a y hC hu hv hw ha hy')
theorem liftNone_lifted (os : Os) (started : os.Started) (H : Type) (enc : TypeId × Value → H) :
    ReturnsInHanded {} Try.checked os 7 .any (Rows.liftNoneSpec.pre6 enc Try.prog Try.f7 Rows.liftNoneRow.domain false) (Rows.liftNoneSpec.post enc Try.prog Try.f7 false true false false) := by
  refine returnsInHanded_of_change (C := Try.checked) Try.own started (by kernel_rfl) Try.func7
    (ChangeSpec.witness6 (enc := enc) (C := Try.checked) false ⟨#[], #[.agg #[.slice none 0 0, .int .i64 0, .int .u8 0, .int .u8 0, .int .u8 0, .int .u8 0, .int .u8 0, .int .u8 0, .int .u8 0, .int .u8 0, .int .u8 0, .int .u8 0, .int .u8 0, .int .u8 0, .int .u8 0, .int .u8 0, .int .u8 0, .int .u8 0], .int .u8 0], []⟩ 8 (by kernel_rfl) (by kernel_rfl) (by kernel_rfl) (by kernel_rfl)) ?_
  intro W base args ds gs before hval hW hcnd _
  have hval' : ∀ (j : Nat) (t : TypeId) (v : Value), Try.f7.params.toList[j]? = some t → args[j]? = some v → Value.okWide Try.prog W .any base t v := fun j t v h1 h2 => hval j t v (by simpa using h1) h2
  obtain ⟨p, q, hA, hV, hpq, _, _⟩ := id hW
  have hg : gtsB Try.prog [gWay, .int .u8] Try.f7.params.toList = true := by kernel_rfl
  refine (law_calls' tab_ok hg liftNone_law hval' hA).mono fun e W' ⟨he, hb⟩ => ?_
  subst he
  refine ⟨_, rfl, post_true Try.laidOut (rt := 4) (fun ds h => ?_) rfl (by kernel_rfl) (by kernel_rfl) (by kernel_rfl) hW hb⟩
  match ds, h with
  | [_, _], _ => rfl
theorem liftNone_holds : Rows.LiftNoneSaid :=
  OpenClaim.holds_of_wide 7 Try.f7 rfl rfl rfl rfl rfl rfl rfl ⟨rfl, rfl, rfl, rfl, rfl⟩ rfl rfl rfl rfl rfl (by kernel_rfl) Try.func7 (by kernel_rfl)
    (of_decide_eq_true (by kernel_rfl)) (by unfold Func.isWrapper; first | (rw [if_pos (by decide +kernel)]; kernel_rfl) | (rw [if_neg (by decide +kernel)]; exact ⟨rfl, rfl⟩))
    (fun os started H enc _ => liftNone_lifted os started H enc)
end Go.Proofs.Ytafjljlcdfccjaa
