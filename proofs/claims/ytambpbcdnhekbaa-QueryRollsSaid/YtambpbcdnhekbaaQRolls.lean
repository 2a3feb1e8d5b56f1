/- Rolled up and drilled down a query is what it was; rolled up level by level the whole is reached. -/
import Derived.Test.YtambpbcdnhekbaaQV
set_option linter.unusedSimpArgs false
set_option linter.unusedVariables false
set_option maxHeartbeats 16000000
set_option maxRecDepth 100000
namespace Go.Proofs.Ytambpbcdnhekbaa
open Go.Ev
theorem queryRolls_ev (ds : List Dm) (m : Int) (q : Qy) (hC : okC ds) (hq : okQ q) :
    cvF tab 7 [.agg (.ro ds.length (flatD ds) :: .int .i64 m :: qyC q)] = some (.bool true) := by
  refine cvFA_R (mf := Mf.f7) rfl rfl (by kernel_rfl) ?_
  simp only [Mf.f7]
  have e1 := light_ask ds m q hq
  have e2 := rqgood_ev ds m q hC hq
  cases gl : (lightC ds && lightQ q) with
  | false =>
    rw [gl] at e1
    clear hq e2 gl
    obtain ⟨a, b, c, e, F, t, me, fn, li⟩ := q
    simp only [qyC] at e1 ⊢
    simp [beqI, bneI, mm_min2, mm_max2, mm_min3, mm_max3, startE, lkE, lkX, lkE_rest, sx, substE, opVA, objs0, List.replicate, XA_seq, XA_region, XOA_go, goE_someA, opV, ev, putA, layAll, XOA_nil, XA_skip_seq, XA_skip_nil, XOA_gd, goG_tA, goG_uA, binV, bi_add, bi_sub, bi_mul, bi_quo, bi_rem, bi_eql, bi_neq, bi_lss, bi_leq, bi_gtr, bi_geq, bi_shl, bi_shr, bi_and, bi_or, bi_xor, unV, XA_ret_nil, XA_ret_cons, endFA_r, endFA_n, endTA_r, endTA_n, endRA_r, endRA_n, fltR, resultsA, resAs, resA, XA_block, XA_cond, pickX_t, pickX_f, pickX_b, XA_skip_blk, XA_skip_lp, XA_exit_seq, XA_exit_lp, XA_exit_blk, XA_exit_nil, load1, Ev.loadCells, objCells, bodyCells, setCells, AV.flat, AV.flat1, backR, backV, backCell, mapO, AV.cells, AV.atom, AV.tree, fillV, repeatL, treeCell, freezeAll, eqCells, callV_T, callV_F, passN, passV, passCell, srcCells, sliceBounds, hiB, loB, thenQ_nA, thenQ_xA, thenQ_rA, runK_nA, runK_xA, runK_rA, wrap_i64, wrap_u64, wrap_u32, wrap_u8, wrap_u16, e1, wakes_ev]
  | true =>
    rw [gl] at e1
    clear gl
    cases g : goodQ ds m q with
    | false =>
      rw [g] at e2
      clear hq g
      obtain ⟨a, b, c, e, F, t, me, fn, li⟩ := q
      simp only [qyC] at e1 e2 ⊢
      simp [beqI, bneI, mm_min2, mm_max2, mm_min3, mm_max3, startE, lkE, lkX, lkE_rest, sx, substE, opVA, objs0, List.replicate, XA_seq, XA_region, XOA_go, goE_someA, opV, ev, putA, layAll, XOA_nil, XA_skip_seq, XA_skip_nil, XOA_gd, goG_tA, goG_uA, binV, bi_add, bi_sub, bi_mul, bi_quo, bi_rem, bi_eql, bi_neq, bi_lss, bi_leq, bi_gtr, bi_geq, bi_shl, bi_shr, bi_and, bi_or, bi_xor, unV, XA_ret_nil, XA_ret_cons, endFA_r, endFA_n, endTA_r, endTA_n, endRA_r, endRA_n, fltR, resultsA, resAs, resA, XA_block, XA_cond, pickX_t, pickX_f, pickX_b, XA_skip_blk, XA_skip_lp, XA_exit_seq, XA_exit_lp, XA_exit_blk, XA_exit_nil, load1, Ev.loadCells, objCells, bodyCells, setCells, AV.flat, AV.flat1, backR, backV, backCell, mapO, AV.cells, AV.atom, AV.tree, fillV, repeatL, treeCell, freezeAll, eqCells, callV_T, callV_F, passN, passV, passCell, srcCells, sliceBounds, hiB, loB, thenQ_nA, thenQ_xA, thenQ_rA, runK_nA, runK_xA, runK_rA, wrap_i64, wrap_u64, wrap_u32, wrap_u8, wrap_u16, e1, e2, wakes_ev]
    | true =>
      rw [g] at e2
      have gp := goodQ_parts g
      have gc := goodN_good gp.1
      have hlen := goodC_len gc
      have hz0 := at_zero ds g hq
      have hend := at_end g hq
      have hwh := rwhole_ev ds m hC
      have hstep := fun (d k : Nat) (hd : d < ds.length) => at_step g hq (d := d) (k := k) hd
      have hnext := fun d => at_next g hq d
      have hroll := fun (d k : Nat) => roll_q ds m (atQ ds q d k) d hC (at_ok g hq d k)
      have hwok := whole_ok gc
      have hatq : ∀ d k, (atQ ds q d k).F = q.F ∧ (atQ ds q d k).t = q.t ∧ (atQ ds q d k).me = q.me ∧ (atQ ds q d k).fn = q.fn ∧ (atQ ds q d k).li = q.li := fun d k => ⟨rfl, rfl, rfl, rfl, rfl⟩
      obtain ⟨A, hA⟩ : ∃ A : Nat → Nat → Qy, A = fun d k => atQ ds q d k := ⟨_, rfl⟩
      have hA' : ∀ d k, atQ ds q d k = A d k := fun d k => by rw [hA]
      simp only [hA'] at hz0 hend hstep hnext hroll hatq
      clear hA hA'
      -- one dimension
      have hone : ∀ i, i < ds.length → ∃ u v x y : Option Qy, cvT tab 23 [.agg [.ro ds.length (flatD ds), .int .i64 m], .agg (qyC q), .int .i64 i] = some (resQ u) ∧
          cvT tab 24 [.agg [.ro ds.length (flatD ds), .int .i64 m], .agg (qyC (u.getD zeroQ)), .int .i64 i] = some (resQ v) ∧
          cvT tab 24 [.agg [.ro ds.length (flatD ds), .int .i64 m], .agg (qyC q), .int .i64 i] = some (resQ x) ∧
          cvT tab 23 [.agg [.ro ds.length (flatD ds), .int .i64 m], .agg (qyC (x.getD zeroQ)), .int .i64 i] = some (resQ y) ∧
          u.isSome = decide (gI q.n i < ((gD ds i).S.length : Int)) ∧ x.isSome = decide (0 < gI q.n i) ∧ (u.isSome = true → v = some q) ∧ (x.isSome = true → y = some q) := by
        intro i hi
        have h4 : i < 4 := by omega
        have hW : wOf ds i = (gD ds i).S.length := by unfold wOf; rw [if_pos hi]
        have hle := n_le g hq h4
        have hb := (hq.n.at h4).1
        have hwl := wOf_le gc i
        rw [← hW]
        have hu : ∀ z, rollQ ds m q i = some z → okQ z := by
          intro z hz
          rw [roll_eq ds m q i hq] at hz
          have := turn_ok (ds := ds) (m := m) (d := i) (y := 1) hq
          rw [hz] at this; exact this
        have hx : ∀ z, drillQ ds m q i = some z → okQ z := by
          intro z hz
          rw [drill_eq ds m q i hq] at hz
          have := turn_ok (ds := ds) (m := m) (d := i) (y := -1) hq
          rw [hz] at this; exact this
        refine ⟨_, _, _, _, roll_q ds m q i hC hq, drill_q ds m _ i hC (getD_ok hu), drill_q ds m q i hC hq, roll_q ds m _ i hC (getD_ok hx), ?_, ?_, ?_, ?_⟩
        · by_cases c : gI q.n i < wOf ds i
          · rw [roll_up g hq hi c, decide_eq_true c]; rfl
          · rw [roll_no g hq hi c, decide_eq_false c]; rfl
        · by_cases c : 0 < gI q.n i
          · rw [drill_down g hq hi c, decide_eq_true c]; rfl
          · rw [drill_no hq c, decide_eq_false c]; rfl
        · intro hs
          by_cases c : gI q.n i < wOf ds i
          · rw [roll_up g hq hi c, Option.getD_some]
            have hg2 := goodQ_setN g hq h4 (x := gI q.n i + 1) (by omega) (by omega)
            have ho2 := setN_ok (k := i) hq (x := gI q.n i + 1) ⟨by omega, by omega⟩
            rw [drill_down hg2 ho2 hi (by rw [setN_at h4]; omega), setN_at h4, show gI q.n i + 1 - 1 = gI q.n i from by omega, setN_set h4]
          · rw [roll_no g hq hi c] at hs; cases hs
        · intro hs
          by_cases c : 0 < gI q.n i
          · rw [drill_down g hq hi c, Option.getD_some]
            have hg2 := goodQ_setN g hq h4 (x := gI q.n i - 1) (by omega) (by omega)
            have ho2 := setN_ok (k := i) hq (x := gI q.n i - 1) ⟨by omega, by omega⟩
            rw [roll_up hg2 ho2 hi (by rw [setN_at h4]; omega), setN_at h4, show gI q.n i - 1 + 1 = gI q.n i from by omega, setN_set h4]
          · rw [drill_no hq c] at hs; cases hs
      have hsm := qsame_ev q q hq hq
      rw [decide_eq_true rfl] at hsm
      have hgn := fun i (h : i < 4) => gI_n q i h
      have hba := hq.a
      have hbb := hq.b
      have hbc := hq.c
      have hbe := hq.e
      clear hq g gp
      obtain ⟨a, b, c, e, F, t, me, fn, li⟩ := q
      simp only at hba hbb hbc hbe hatq
      unfold byte at hba hbb hbc hbe
      have z0 : IntKind.i64.wrap a = a := wrap_i64 (by omega) (by omega)
      have z1 : IntKind.i64.wrap b = b := wrap_i64 (by omega) (by omega)
      have z2 : IntKind.i64.wrap c = c := wrap_i64 (by omega) (by omega)
      have z3 : IntKind.i64.wrap e = e := wrap_i64 (by omega) (by omega)
      simp only [qyC] at e1 e2 hsm ⊢
      simp [beqI, bneI, mm_min2, mm_max2, mm_min3, mm_max3, startE, lkE, lkX, lkE_rest, sx, substE, opVA, objs0, List.replicate, XA_seq, XA_region, XOA_go, goE_someA, opV, ev, putA, layAll, XOA_nil, XA_skip_seq, XA_skip_nil, XOA_gd, goG_tA, goG_uA, binV, bi_add, bi_sub, bi_mul, bi_quo, bi_rem, bi_eql, bi_neq, bi_lss, bi_leq, bi_gtr, bi_geq, bi_shl, bi_shr, bi_and, bi_or, bi_xor, unV, XA_ret_nil, XA_ret_cons, endFA_r, endFA_n, endTA_r, endTA_n, endRA_r, endRA_n, fltR, resultsA, resAs, resA, XA_block, XA_cond, pickX_t, pickX_f, pickX_b, XA_skip_blk, XA_skip_lp, XA_exit_seq, XA_exit_lp, XA_exit_blk, XA_exit_nil, load1, Ev.loadCells, objCells, bodyCells, setCells, AV.flat, AV.flat1, backR, backV, backCell, mapO, AV.cells, AV.atom, AV.tree, fillV, repeatL, treeCell, freezeAll, eqCells, callV_T, callV_F, passN, passV, passCell, srcCells, sliceBounds, hiB, loB, thenQ_nA, thenQ_xA, thenQ_rA, runK_nA, runK_xA, runK_rA, wrap_i64, wrap_u64, wrap_u32, wrap_u8, wrap_u16, e1, e2]
      refine XA_for (fun i => ⟨[(3, .ptr 1 0 0), (4, .ptr 2 0 0), (5, .int .i64 i)], [⟨0, .none⟩, ⟨0, .var [.ro ds.length (flatD ds), .int .i64 m]⟩, ⟨0, .var [.int .u8 a, .int .u8 b, .int .u8 c, .int .u8 e, .ro F.length (flatF F), .int .i64 t, .int .i64 me, .int .i64 fn, .int .i64 li]⟩, ⟨0, .none⟩, ⟨0, .none⟩, ⟨0, .none⟩, ⟨0, .none⟩, ⟨0, .none⟩]⟩)
        (fun i => True) ds.length 0 (Nat.zero_le _) (by simp [AV.atom, normA, lkE, fixObjs, fixBody, fixV, fixCell]) trivial ?_ ?_
      · intro i _ hi _
        have hi' : (i : Int) < ds.length := by omega
        have hdr := dropD ds i hi
        have hws := wrap_succ i ds.length hi (by omega)
        obtain ⟨u, v, x, y, f1, f2, f3, f4, hu, hx, huv, hxy⟩ := hone i hi
        have hgi := hgn i (by omega)
        rw [hgi] at hu hx
        simp only [resQ] at f1 f2 f3 f4
        generalize u.isSome = ub at *
        generalize x.isSome = xb at *
        generalize u.getD zeroQ = uy at *
        generalize x.getD zeroQ = xy at *
        have hv : ∃ vb vy, v.isSome = vb ∧ v.getD zeroQ = vy ∧ (ub = true → vb = true ∧ vy = ⟨a, b, c, e, F, t, me, fn, li⟩) := ⟨_, _, rfl, rfl, fun h => by rw [huv h]; exact ⟨rfl, rfl⟩⟩
        have hy : ∃ vb vy, y.isSome = vb ∧ y.getD zeroQ = vy ∧ (xb = true → vb = true ∧ vy = ⟨a, b, c, e, F, t, me, fn, li⟩) := ⟨_, _, rfl, rfl, fun h => by rw [hxy h]; exact ⟨rfl, rfl⟩⟩
        obtain ⟨vb, vy, hv1, hv2, hv3⟩ := hv
        obtain ⟨yb, yy, hy1, hy2, hy3⟩ := hy
        rw [hv1, hv2] at f2
        rw [hy1, hy2] at f4
        clear hv1 hv2 hy1 hy2 huv hxy hone hstep hnext hroll hatq hz0 hend
        obtain ⟨a1, b1, c1, e1', F1, t1, me1, fn1, li1⟩ := uy
        obtain ⟨a2, b2, c2, e2', F2, t2, me2, fn2, li2⟩ := xy
        have h4 : i = 0 ∨ i = 1 ∨ i = 2 ∨ i = 3 := by omega
        generalize (gD ds i).S = S at *
        have hvx : (ub = false ∧ ∃ a3 b3 c3 e3 F3 t3 me3 fn3 li3, vy = ⟨a3, b3, c3, e3, F3, t3, me3, fn3, li3⟩) ∨ (ub = true ∧ vb = true ∧ vy = ⟨a, b, c, e, F, t, me, fn, li⟩) := by
          cases ub with
          | false => exact .inl ⟨rfl, _, _, _, _, _, _, _, _, _, rfl⟩
          | true => exact .inr ⟨rfl, hv3 rfl⟩
        have hyx : (xb = false ∧ ∃ a3 b3 c3 e3 F3 t3 me3 fn3 li3, yy = ⟨a3, b3, c3, e3, F3, t3, me3, fn3, li3⟩) ∨ (xb = true ∧ yb = true ∧ yy = ⟨a, b, c, e, F, t, me, fn, li⟩) := by
          cases xb with
          | false => exact .inl ⟨rfl, _, _, _, _, _, _, _, _, _, rfl⟩
          | true => exact .inr ⟨rfl, hy3 rfl⟩
        clear hv3 hy3 hgn
        simp only [qyC] at f1 f2 f3 f4
        simp only [rI, rR] at hdr
        rcases h4 with rfl | rfl | rfl | rfl
        · simp at hdr hi' hws hi
          rw [hdr] at f1 f2 f3 f4
          simp only [Int.natCast_zero] at f1 f2 f3 f4
          rcases hvx with ⟨rfl, a3, b3, c3, e3', F3, t3, me3, fn3, li3, rfl⟩ | ⟨rfl, rfl, rfl⟩ <;> rcases hyx with ⟨rfl, a4, b4, c4, e4', F4, t4, me4, fn4, li4, rfl⟩ | ⟨rfl, rfl, rfl⟩ <;> have hu := hu.symm <;> have hx := hx.symm <;> simp only [decide_eq_false_iff_not, decide_eq_true_eq] at hu hx <;>
            simp [beqI, bneI, mm_min2, mm_max2, mm_min3, mm_max3, startE, lkE, lkX, lkE_rest, sx, substE, opVA, objs0, List.replicate, XA_seq, XA_region, XOA_go, goE_someA, opV, ev, putA, layAll, XOA_nil, XA_skip_seq, XA_skip_nil, XOA_gd, goG_tA, goG_uA, binV, bi_add, bi_sub, bi_mul, bi_quo, bi_rem, bi_eql, bi_neq, bi_lss, bi_leq, bi_gtr, bi_geq, bi_shl, bi_shr, bi_and, bi_or, bi_xor, unV, XA_ret_nil, XA_ret_cons, endFA_r, endFA_n, endTA_r, endTA_n, endRA_r, endRA_n, fltR, resultsA, resAs, resA, XA_block, XA_cond, pickX_t, pickX_f, pickX_b, XA_skip_blk, XA_skip_lp, XA_exit_seq, XA_exit_lp, XA_exit_blk, XA_exit_nil, load1, Ev.loadCells, objCells, bodyCells, setCells, AV.flat, AV.flat1, backR, backV, backCell, mapO, AV.cells, AV.atom, AV.tree, fillV, repeatL, treeCell, freezeAll, eqCells, callV_T, callV_F, passN, passV, passCell, srcCells, sliceBounds, hiB, loB, thenQ_nA, thenQ_xA, thenQ_rA, runK_nA, runK_xA, runK_rA, wrap_i64, wrap_u64, wrap_u32, wrap_u8, wrap_u16, AV.atom, normA, lkE, fixObjs, fixBody, fixV, fixCell, hi, hi', hdr, hws, f1, f2, f3, f4, z0, z1, z2, z3, hu, hx, hsm]
        · simp at hdr hi' hws hi f1 f2 f3 f4
          rcases hvx with ⟨rfl, a3, b3, c3, e3', F3, t3, me3, fn3, li3, rfl⟩ | ⟨rfl, rfl, rfl⟩ <;> rcases hyx with ⟨rfl, a4, b4, c4, e4', F4, t4, me4, fn4, li4, rfl⟩ | ⟨rfl, rfl, rfl⟩ <;> have hu := hu.symm <;> have hx := hx.symm <;> simp only [decide_eq_false_iff_not, decide_eq_true_eq] at hu hx <;>
            simp [beqI, bneI, mm_min2, mm_max2, mm_min3, mm_max3, startE, lkE, lkX, lkE_rest, sx, substE, opVA, objs0, List.replicate, XA_seq, XA_region, XOA_go, goE_someA, opV, ev, putA, layAll, XOA_nil, XA_skip_seq, XA_skip_nil, XOA_gd, goG_tA, goG_uA, binV, bi_add, bi_sub, bi_mul, bi_quo, bi_rem, bi_eql, bi_neq, bi_lss, bi_leq, bi_gtr, bi_geq, bi_shl, bi_shr, bi_and, bi_or, bi_xor, unV, XA_ret_nil, XA_ret_cons, endFA_r, endFA_n, endTA_r, endTA_n, endRA_r, endRA_n, fltR, resultsA, resAs, resA, XA_block, XA_cond, pickX_t, pickX_f, pickX_b, XA_skip_blk, XA_skip_lp, XA_exit_seq, XA_exit_lp, XA_exit_blk, XA_exit_nil, load1, Ev.loadCells, objCells, bodyCells, setCells, AV.flat, AV.flat1, backR, backV, backCell, mapO, AV.cells, AV.atom, AV.tree, fillV, repeatL, treeCell, freezeAll, eqCells, callV_T, callV_F, passN, passV, passCell, srcCells, sliceBounds, hiB, loB, thenQ_nA, thenQ_xA, thenQ_rA, runK_nA, runK_xA, runK_rA, wrap_i64, wrap_u64, wrap_u32, wrap_u8, wrap_u16, AV.atom, normA, lkE, fixObjs, fixBody, fixV, fixCell, hi, hi', hdr, hws, f1, f2, f3, f4, z0, z1, z2, z3, hu, hx, hsm]
        · simp at hdr hi' hws hi f1 f2 f3 f4
          rcases hvx with ⟨rfl, a3, b3, c3, e3', F3, t3, me3, fn3, li3, rfl⟩ | ⟨rfl, rfl, rfl⟩ <;> rcases hyx with ⟨rfl, a4, b4, c4, e4', F4, t4, me4, fn4, li4, rfl⟩ | ⟨rfl, rfl, rfl⟩ <;> have hu := hu.symm <;> have hx := hx.symm <;> simp only [decide_eq_false_iff_not, decide_eq_true_eq] at hu hx <;>
            simp [beqI, bneI, mm_min2, mm_max2, mm_min3, mm_max3, startE, lkE, lkX, lkE_rest, sx, substE, opVA, objs0, List.replicate, XA_seq, XA_region, XOA_go, goE_someA, opV, ev, putA, layAll, XOA_nil, XA_skip_seq, XA_skip_nil, XOA_gd, goG_tA, goG_uA, binV, bi_add, bi_sub, bi_mul, bi_quo, bi_rem, bi_eql, bi_neq, bi_lss, bi_leq, bi_gtr, bi_geq, bi_shl, bi_shr, bi_and, bi_or, bi_xor, unV, XA_ret_nil, XA_ret_cons, endFA_r, endFA_n, endTA_r, endTA_n, endRA_r, endRA_n, fltR, resultsA, resAs, resA, XA_block, XA_cond, pickX_t, pickX_f, pickX_b, XA_skip_blk, XA_skip_lp, XA_exit_seq, XA_exit_lp, XA_exit_blk, XA_exit_nil, load1, Ev.loadCells, objCells, bodyCells, setCells, AV.flat, AV.flat1, backR, backV, backCell, mapO, AV.cells, AV.atom, AV.tree, fillV, repeatL, treeCell, freezeAll, eqCells, callV_T, callV_F, passN, passV, passCell, srcCells, sliceBounds, hiB, loB, thenQ_nA, thenQ_xA, thenQ_rA, runK_nA, runK_xA, runK_rA, wrap_i64, wrap_u64, wrap_u32, wrap_u8, wrap_u16, AV.atom, normA, lkE, fixObjs, fixBody, fixV, fixCell, hi, hi', hdr, hws, f1, f2, f3, f4, z0, z1, z2, z3, hu, hx, hsm]
        · simp at hdr hi' hws hi f1 f2 f3 f4
          rcases hvx with ⟨rfl, a3, b3, c3, e3', F3, t3, me3, fn3, li3, rfl⟩ | ⟨rfl, rfl, rfl⟩ <;> rcases hyx with ⟨rfl, a4, b4, c4, e4', F4, t4, me4, fn4, li4, rfl⟩ | ⟨rfl, rfl, rfl⟩ <;> have hu := hu.symm <;> have hx := hx.symm <;> simp only [decide_eq_false_iff_not, decide_eq_true_eq] at hu hx <;>
            simp [beqI, bneI, mm_min2, mm_max2, mm_min3, mm_max3, startE, lkE, lkX, lkE_rest, sx, substE, opVA, objs0, List.replicate, XA_seq, XA_region, XOA_go, goE_someA, opV, ev, putA, layAll, XOA_nil, XA_skip_seq, XA_skip_nil, XOA_gd, goG_tA, goG_uA, binV, bi_add, bi_sub, bi_mul, bi_quo, bi_rem, bi_eql, bi_neq, bi_lss, bi_leq, bi_gtr, bi_geq, bi_shl, bi_shr, bi_and, bi_or, bi_xor, unV, XA_ret_nil, XA_ret_cons, endFA_r, endFA_n, endTA_r, endTA_n, endRA_r, endRA_n, fltR, resultsA, resAs, resA, XA_block, XA_cond, pickX_t, pickX_f, pickX_b, XA_skip_blk, XA_skip_lp, XA_exit_seq, XA_exit_lp, XA_exit_blk, XA_exit_nil, load1, Ev.loadCells, objCells, bodyCells, setCells, AV.flat, AV.flat1, backR, backV, backCell, mapO, AV.cells, AV.atom, AV.tree, fillV, repeatL, treeCell, freezeAll, eqCells, callV_T, callV_F, passN, passV, passCell, srcCells, sliceBounds, hiB, loB, thenQ_nA, thenQ_xA, thenQ_rA, runK_nA, runK_xA, runK_rA, wrap_i64, wrap_u64, wrap_u32, wrap_u8, wrap_u16, AV.atom, normA, lkE, fixObjs, fixBody, fixV, fixCell, hi, hi', hdr, hws, f1, f2, f3, f4, z0, z1, z2, z3, hu, hx, hsm]
      · intro _
        clear hone hsm e1 e2
        simp [beqI, bneI, mm_min2, mm_max2, mm_min3, mm_max3, startE, lkE, lkX, lkE_rest, sx, substE, opVA, objs0, List.replicate, XA_seq, XA_region, XOA_go, goE_someA, opV, ev, putA, layAll, XOA_nil, XA_skip_seq, XA_skip_nil, XOA_gd, goG_tA, goG_uA, binV, bi_add, bi_sub, bi_mul, bi_quo, bi_rem, bi_eql, bi_neq, bi_lss, bi_leq, bi_gtr, bi_geq, bi_shl, bi_shr, bi_and, bi_or, bi_xor, unV, XA_ret_nil, XA_ret_cons, endFA_r, endFA_n, endTA_r, endTA_n, endRA_r, endRA_n, fltR, resultsA, resAs, resA, XA_block, XA_cond, pickX_t, pickX_f, pickX_b, XA_skip_blk, XA_skip_lp, XA_exit_seq, XA_exit_lp, XA_exit_blk, XA_exit_nil, load1, Ev.loadCells, objCells, bodyCells, setCells, AV.flat, AV.flat1, backR, backV, backCell, mapO, AV.cells, AV.atom, AV.tree, fillV, repeatL, treeCell, freezeAll, eqCells, callV_T, callV_F, passN, passV, passCell, srcCells, sliceBounds, hiB, loB, thenQ_nA, thenQ_xA, thenQ_rA, runK_nA, runK_xA, runK_rA, wrap_i64, wrap_u64, wrap_u32, wrap_u8, wrap_u16, AV.atom, normA, lkE, fixObjs, fixBody, fixV, fixCell]
        refine XA_for (fun d => ⟨[(3, .ptr 1 0 0), (4, .ptr 2 0 0), (14, .int .i64 d)], [⟨0, .none⟩, ⟨0, .var [.ro ds.length (flatD ds), .int .i64 m]⟩, ⟨0, .var (qyC (A d 0))⟩, ⟨0, .none⟩, ⟨0, .none⟩, ⟨0, .none⟩, ⟨0, .none⟩, ⟨0, .none⟩]⟩)
          (fun d => True) ds.length 0 (Nat.zero_le _) (by simp [AV.atom, normA, lkE, fixObjs, fixBody, fixV, fixCell, hz0, qyC]) trivial ?_ ?_
        · intro d _ hd _
          have hd' : (d : Int) < ds.length := by omega
          have hws := wrap_succ d ds.length hd (by omega)
          simp [beqI, bneI, mm_min2, mm_max2, mm_min3, mm_max3, startE, lkE, lkX, lkE_rest, sx, substE, opVA, objs0, List.replicate, XA_seq, XA_region, XOA_go, goE_someA, opV, ev, putA, layAll, XOA_nil, XA_skip_seq, XA_skip_nil, XOA_gd, goG_tA, goG_uA, binV, bi_add, bi_sub, bi_mul, bi_quo, bi_rem, bi_eql, bi_neq, bi_lss, bi_leq, bi_gtr, bi_geq, bi_shl, bi_shr, bi_and, bi_or, bi_xor, unV, XA_ret_nil, XA_ret_cons, endFA_r, endFA_n, endTA_r, endTA_n, endRA_r, endRA_n, fltR, resultsA, resAs, resA, XA_block, XA_cond, pickX_t, pickX_f, pickX_b, XA_skip_blk, XA_skip_lp, XA_exit_seq, XA_exit_lp, XA_exit_blk, XA_exit_nil, load1, Ev.loadCells, objCells, bodyCells, setCells, AV.flat, AV.flat1, backR, backV, backCell, mapO, AV.cells, AV.atom, AV.tree, fillV, repeatL, treeCell, freezeAll, eqCells, callV_T, callV_F, passN, passV, passCell, srcCells, sliceBounds, hiB, loB, thenQ_nA, thenQ_xA, thenQ_rA, runK_nA, runK_xA, runK_rA, wrap_i64, wrap_u64, wrap_u32, wrap_u8, wrap_u16, AV.atom, normA, lkE, fixObjs, fixBody, fixV, fixCell, hd', hd, qyC]
          refine XA_for (fun k => ⟨[(3, .ptr 1 0 0), (4, .ptr 2 0 0), (14, .int .i64 d), (15, .int .i64 k)], [⟨0, .none⟩, ⟨0, .var [.ro ds.length (flatD ds), .int .i64 m]⟩, ⟨0, .var (qyC (A d k))⟩, ⟨0, .none⟩, ⟨0, .none⟩, ⟨0, .none⟩, ⟨0, .none⟩, ⟨0, .none⟩]⟩)
            (fun d => True) 5 0 (Nat.zero_le _) (by simp [AV.atom, normA, lkE, fixObjs, fixBody, fixV, fixCell, qyC]) trivial ?_ ?_
          · intro k _ hk _
            have hk' : (k : Int) < 5 := by omega
            have hwk := wrap_succ k 5 hk (by omega)
            have hr := hroll d k
            rcases hstep d k hd with h | ⟨h1, h2⟩
            · rw [h] at hr
              simp [resQ, qyC] at hr
              simp [beqI, bneI, mm_min2, mm_max2, mm_min3, mm_max3, startE, lkE, lkX, lkE_rest, sx, substE, opVA, objs0, List.replicate, XA_seq, XA_region, XOA_go, goE_someA, opV, ev, putA, layAll, XOA_nil, XA_skip_seq, XA_skip_nil, XOA_gd, goG_tA, goG_uA, binV, bi_add, bi_sub, bi_mul, bi_quo, bi_rem, bi_eql, bi_neq, bi_lss, bi_leq, bi_gtr, bi_geq, bi_shl, bi_shr, bi_and, bi_or, bi_xor, unV, XA_ret_nil, XA_ret_cons, endFA_r, endFA_n, endTA_r, endTA_n, endRA_r, endRA_n, fltR, resultsA, resAs, resA, XA_block, XA_cond, pickX_t, pickX_f, pickX_b, XA_skip_blk, XA_skip_lp, XA_exit_seq, XA_exit_lp, XA_exit_blk, XA_exit_nil, load1, Ev.loadCells, objCells, bodyCells, setCells, AV.flat, AV.flat1, backR, backV, backCell, mapO, AV.cells, AV.atom, AV.tree, fillV, repeatL, treeCell, freezeAll, eqCells, callV_T, callV_F, passN, passV, passCell, srcCells, sliceBounds, hiB, loB, thenQ_nA, thenQ_xA, thenQ_rA, runK_nA, runK_xA, runK_rA, wrap_i64, wrap_u64, wrap_u32, wrap_u8, wrap_u16, AV.atom, normA, lkE, fixObjs, fixBody, fixV, fixCell, qyC, hk', hr, hwk]
            · rw [h1] at hr
              simp [resQ, zeroQ, qyC, flatF_nil] at hr
              rw [h2]
              simp [beqI, bneI, mm_min2, mm_max2, mm_min3, mm_max3, startE, lkE, lkX, lkE_rest, sx, substE, opVA, objs0, List.replicate, XA_seq, XA_region, XOA_go, goE_someA, opV, ev, putA, layAll, XOA_nil, XA_skip_seq, XA_skip_nil, XOA_gd, goG_tA, goG_uA, binV, bi_add, bi_sub, bi_mul, bi_quo, bi_rem, bi_eql, bi_neq, bi_lss, bi_leq, bi_gtr, bi_geq, bi_shl, bi_shr, bi_and, bi_or, bi_xor, unV, XA_ret_nil, XA_ret_cons, endFA_r, endFA_n, endTA_r, endTA_n, endRA_r, endRA_n, fltR, resultsA, resAs, resA, XA_block, XA_cond, pickX_t, pickX_f, pickX_b, XA_skip_blk, XA_skip_lp, XA_exit_seq, XA_exit_lp, XA_exit_blk, XA_exit_nil, load1, Ev.loadCells, objCells, bodyCells, setCells, AV.flat, AV.flat1, backR, backV, backCell, mapO, AV.cells, AV.atom, AV.tree, fillV, repeatL, treeCell, freezeAll, eqCells, callV_T, callV_F, passN, passV, passCell, srcCells, sliceBounds, hiB, loB, thenQ_nA, thenQ_xA, thenQ_rA, runK_nA, runK_xA, runK_rA, wrap_i64, wrap_u64, wrap_u32, wrap_u8, wrap_u16, AV.atom, normA, lkE, fixObjs, fixBody, fixV, fixCell, qyC, hk', hr, hwk]
          · intro _
            rw [← hnext d]
            simp [beqI, bneI, mm_min2, mm_max2, mm_min3, mm_max3, startE, lkE, lkX, lkE_rest, sx, substE, opVA, objs0, List.replicate, XA_seq, XA_region, XOA_go, goE_someA, opV, ev, putA, layAll, XOA_nil, XA_skip_seq, XA_skip_nil, XOA_gd, goG_tA, goG_uA, binV, bi_add, bi_sub, bi_mul, bi_quo, bi_rem, bi_eql, bi_neq, bi_lss, bi_leq, bi_gtr, bi_geq, bi_shl, bi_shr, bi_and, bi_or, bi_xor, unV, XA_ret_nil, XA_ret_cons, endFA_r, endFA_n, endTA_r, endTA_n, endRA_r, endRA_n, fltR, resultsA, resAs, resA, XA_block, XA_cond, pickX_t, pickX_f, pickX_b, XA_skip_blk, XA_skip_lp, XA_exit_seq, XA_exit_lp, XA_exit_blk, XA_exit_nil, load1, Ev.loadCells, objCells, bodyCells, setCells, AV.flat, AV.flat1, backR, backV, backCell, mapO, AV.cells, AV.atom, AV.tree, fillV, repeatL, treeCell, freezeAll, eqCells, callV_T, callV_F, passN, passV, passCell, srcCells, sliceBounds, hiB, loB, thenQ_nA, thenQ_xA, thenQ_rA, runK_nA, runK_xA, runK_rA, wrap_i64, wrap_u64, wrap_u32, wrap_u8, wrap_u16, AV.atom, normA, lkE, fixObjs, fixBody, fixV, fixCell, qyC, hws]
        · intro _
          obtain ⟨w0, w1, w2, w3, hw, -, -, -, -⟩ := four hwok
          rw [hw] at hwh hend
          simp only [Qy.n, List.cons.injEq, and_true] at hend
          obtain ⟨n0, n1, n2, n3⟩ := hend
          simp only [List.map] at hwh
          simp [beqI, bneI, mm_min2, mm_max2, mm_min3, mm_max3, startE, lkE, lkX, lkE_rest, sx, substE, opVA, objs0, List.replicate, XA_seq, XA_region, XOA_go, goE_someA, opV, ev, putA, layAll, XOA_nil, XA_skip_seq, XA_skip_nil, XOA_gd, goG_tA, goG_uA, binV, bi_add, bi_sub, bi_mul, bi_quo, bi_rem, bi_eql, bi_neq, bi_lss, bi_leq, bi_gtr, bi_geq, bi_shl, bi_shr, bi_and, bi_or, bi_xor, unV, XA_ret_nil, XA_ret_cons, endFA_r, endFA_n, endTA_r, endTA_n, endRA_r, endRA_n, fltR, resultsA, resAs, resA, XA_block, XA_cond, pickX_t, pickX_f, pickX_b, XA_skip_blk, XA_skip_lp, XA_exit_seq, XA_exit_lp, XA_exit_blk, XA_exit_nil, load1, Ev.loadCells, objCells, bodyCells, setCells, AV.flat, AV.flat1, backR, backV, backCell, mapO, AV.cells, AV.atom, AV.tree, fillV, repeatL, treeCell, freezeAll, eqCells, callV_T, callV_F, passN, passV, passCell, srcCells, sliceBounds, hiB, loB, thenQ_nA, thenQ_xA, thenQ_rA, runK_nA, runK_xA, runK_rA, wrap_i64, wrap_u64, wrap_u32, wrap_u8, wrap_u16, AV.atom, normA, lkE, fixObjs, fixBody, fixV, fixCell, qyC, hwh, n0, n1, n2, n3, wakes_ev]
theorem queryRolls_law (l : List AV) (h : RDargs [gAsk] l) : ∃ H1, cfT tab 7 l [] = some (.bool true, H1) := by
  obtain ⟨x, r, rfl, hx, rfl⟩ := h
  obtain ⟨ds, m, q, rfl, hC, hm, hq⟩ := rdarg_ask hx
  exact cvF_bool (queryRolls_ev ds m q hC hq)
theorem queryRolls_lifted (os : Os) (started : os.Started) (H : Type) (enc : TypeId × Value → H) :
    ReturnsInHanded {} Try.checked os 7 .any (Rows.queryRollsSpec.pre6 enc Try.prog Try.f7 Rows.queryRollsRow.domain false) (Rows.queryRollsSpec.post enc Try.prog Try.f7 false true false false) := by
  refine returnsInHanded_of_change (C := Try.checked) Try.own started (by kernel_rfl) Try.func7
    (ChangeSpec.witness6 (enc := enc) (C := Try.checked) false ⟨#[], #[.agg #[.slice none 0 0, .int .i64 0, .int .u8 0, .int .u8 0, .int .u8 0, .int .u8 0, .slice none 0 0, .int .i64 0, .int .i64 0, .int .i64 0, .int .i64 0]], []⟩ 8 (by kernel_rfl) (by kernel_rfl) (by kernel_rfl) (by kernel_rfl)) ?_
  intro W base args ds gs before hval hW hcnd _
  have hval' : ∀ (j : Nat) (t : TypeId) (v : Value), Try.f7.params.toList[j]? = some t → args[j]? = some v → Value.okWide Try.prog W .any base t v := fun j t v h1 h2 => hval j t v (by simpa using h1) h2
  obtain ⟨p, q, hA, hV, hpq, _, _⟩ := id hW
  have hg : gtsB Try.prog [gAsk] Try.f7.params.toList = true := by kernel_rfl
  refine (law_calls' tab_ok hg queryRolls_law hval' hA).mono fun e W' ⟨he, hb⟩ => ?_
  subst he
  refine ⟨_, rfl, post_true Try.laidOut (rt := 4) (fun ds h => ?_) rfl (by kernel_rfl) (by kernel_rfl) (by kernel_rfl) hW hb⟩
  match ds, h with
  | [_], _ => rfl
theorem queryRolls_holds : Rows.QueryRollsSaid :=
  OpenClaim.holds_of_wide 7 Try.f7 rfl rfl rfl rfl rfl rfl rfl ⟨rfl, rfl, rfl, rfl, rfl⟩ rfl rfl rfl rfl rfl (by kernel_rfl) Try.func7 (by kernel_rfl)
    (of_decide_eq_true (by kernel_rfl)) (by unfold Func.isWrapper; first | (rw [if_pos (by decide +kernel)]; kernel_rfl) | (rw [if_neg (by decide +kernel)]; exact ⟨rfl, rfl⟩))
    (fun os started H enc _ => queryRolls_lifted os started H enc)
end Go.Proofs.Ytambpbcdnhekbaa
