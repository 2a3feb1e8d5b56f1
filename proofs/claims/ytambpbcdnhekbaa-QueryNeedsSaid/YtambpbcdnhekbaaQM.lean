/- Queries diced, turned: the document's. -/
import Derived.Test.YtambpbcdnhekbaaQL
set_option linter.unusedSimpArgs false
set_option linter.unusedVariables false
set_option maxHeartbeats 8000000
set_option maxRecDepth 100000
namespace Go.Proofs.Ytambpbcdnhekbaa
open Go.Ev
def resO (o : Option Qy) : AV := .agg [.int .u8 (o.getD zeroQ).a, .int .u8 (o.getD zeroQ).b, .int .u8 (o.getD zeroQ).c, .int .u8 (o.getD zeroQ).e, .ro (o.getD zeroQ).F.length (flatF (o.getD zeroQ).F), .int .i64 (o.getD zeroQ).t, .int .i64 (o.getD zeroQ).me, .int .i64 (o.getD zeroQ).fn, .int .i64 (o.getD zeroQ).li, .bool o.isSome]
def turnQ (ds : List Dm) (m : Int) (q : Qy) (d y : Int) : Option Qy :=
  if hasQ ds m q d = true ∧ 0 ≤ gI q.n d.toNat + y ∧ gI q.n d.toNat + y ≤ wOf ds d.toNat then some (q.setN d.toNat (gI q.n d.toNat + y)) else none
theorem rturn_q (ds : List Dm) (m : Int) (q : Qy) (d y : Int) (hC : okC ds) (hq : okQ q) (hy : -1 ≤ y ∧ y ≤ 1) :
    cvT tab 38 [.agg [.ro ds.length (flatD ds), .int .i64 m], .agg (qyC q), .int .i64 d, .int .i64 y] = some (resO (turnQ ds m q d y)) := by
  refine cvTA_R (mf := Mf.f38) rfl rfl (by kernel_rfl) ?_
  simp only [Mf.f38]
  have e1 := rqgood_ev ds m q hC hq
  have e4 := qlevels_ev ds m d hC
  have hgp := @goodQ_parts ds m q
  have hhas : hasQ ds m q d = (goodQ ds m q && (decide (0 ≤ d) && decide (d < ds.length))) := rfl
  unfold turnQ
  cases g : goodQ ds m q with
  | false =>
    rw [g] at e1 hhas
    rw [Bool.false_and] at hhas
    rw [if_neg (fun h => by rw [hhas] at h; simp at h)]
    obtain ⟨a, b, c, e, F, t, me, fn, li⟩ := q
    simp only [qyC] at e1 ⊢
    simp [beqI, bneI, mm_min2, mm_max2, mm_min3, mm_max3, startE, lkE, lkX, lkE_rest, sx, substE, opVA, objs0, List.replicate, XA_seq, XA_region, XOA_go, goE_someA, opV, ev, putA, layAll, XOA_nil, XA_skip_seq, XA_skip_nil, XOA_gd, goG_tA, goG_uA, binV, bi_add, bi_sub, bi_mul, bi_quo, bi_rem, bi_eql, bi_neq, bi_lss, bi_leq, bi_gtr, bi_geq, bi_shl, bi_shr, bi_and, bi_or, bi_xor, unV, XA_ret_nil, XA_ret_cons, endFA_r, endFA_n, endTA_r, endTA_n, endRA_r, endRA_n, fltR, resultsA, resAs, resA, XA_block, XA_cond, pickX_t, pickX_f, pickX_b, XA_skip_blk, XA_skip_lp, XA_exit_seq, XA_exit_lp, XA_exit_blk, XA_exit_nil, load1, Ev.loadCells, objCells, bodyCells, setCells, AV.flat, AV.flat1, backR, backV, backCell, mapO, AV.cells, AV.atom, AV.tree, fillV, repeatL, treeCell, freezeAll, eqCells, callV_T, callV_F, passN, passV, passCell, srcCells, sliceBounds, hiB, loB, thenQ_nA, thenQ_xA, thenQ_rA, runK_nA, runK_xA, runK_rA, wrap_i64, wrap_u64, wrap_u32, wrap_u8, wrap_u16, e1, resO, zeroQ, flatF_nil]
  | true =>
    rw [g] at e1 hhas
    rw [Bool.true_and] at hhas
    have gc := goodN_good (hgp g).1
    have hl := goodC_len gc
    by_cases c1 : 0 ≤ d
    · have c1' : ¬ d < 0 := by omega
      by_cases c2 : d < ds.length
      · have c2' : ¬ (ds.length : Int) ≤ d := by omega
        rw [decide_eq_true c1, decide_eq_true c2] at hhas
        rw [levels_ok gc c1 c2] at e4
        have h4 : d.toNat < 4 := by omega
        have hnb := hq.n.at h4
        have hwl := wOf_le gc d.toNat
        have hgn := gI_n q d.toNat h4
        obtain ⟨k, rfl⟩ : ∃ k : Nat, d = k := ⟨d.toNat, by omega⟩
        simp only [Int.toNat_natCast] at *
        rw [hhas]
        generalize hv : gI q.n k = v at *
        clear hv
        unfold byte at hnb
        have hwi : IntKind.i64.wrap v = v := wrap_i64 (by omega) (by omega)
        have hwi2 : IntKind.i64.wrap (v + y) = v + y := wrap_i64 (by omega) (by omega)
        clear hgp hhas hq
        by_cases c3 : 0 ≤ v + y
        · have c3' : ¬ v + y < 0 := by omega
          by_cases c4 : v + y ≤ wOf ds k
          · have c4' : ¬ ((wOf ds k : Int) + 1 ≤ v + y) := by omega
            have hw8 : IntKind.u8.wrap (v + y) = v + y := wrap_u8 c3 (by omega)
            rw [if_pos ⟨rfl, c3, c4⟩]
            generalize (wOf ds k : Int) = W at *
            obtain ⟨a, b, c, e, F, t, me, fn, li⟩ := q
            simp only [qyC] at e1 ⊢
            have h4 : k = 0 ∨ k = 1 ∨ k = 2 ∨ k = 3 := by omega
            rcases h4 with rfl | rfl | rfl | rfl <;> simp only at hgn <;> subst hgn <;> simp at e4 c1 c2 c2' <;> simp [beqI, bneI, mm_min2, mm_max2, mm_min3, mm_max3, startE, lkE, lkX, lkE_rest, sx, substE, opVA, objs0, List.replicate, XA_seq, XA_region, XOA_go, goE_someA, opV, ev, putA, layAll, XOA_nil, XA_skip_seq, XA_skip_nil, XOA_gd, goG_tA, goG_uA, binV, bi_add, bi_sub, bi_mul, bi_quo, bi_rem, bi_eql, bi_neq, bi_lss, bi_leq, bi_gtr, bi_geq, bi_shl, bi_shr, bi_and, bi_or, bi_xor, unV, XA_ret_nil, XA_ret_cons, endFA_r, endFA_n, endTA_r, endTA_n, endRA_r, endRA_n, fltR, resultsA, resAs, resA, XA_block, XA_cond, pickX_t, pickX_f, pickX_b, XA_skip_blk, XA_skip_lp, XA_exit_seq, XA_exit_lp, XA_exit_blk, XA_exit_nil, load1, Ev.loadCells, objCells, bodyCells, setCells, AV.flat, AV.flat1, backR, backV, backCell, mapO, AV.cells, AV.atom, AV.tree, fillV, repeatL, treeCell, freezeAll, eqCells, callV_T, callV_F, passN, passV, passCell, srcCells, sliceBounds, hiB, loB, thenQ_nA, thenQ_xA, thenQ_rA, runK_nA, runK_xA, runK_rA, wrap_i64, wrap_u64, wrap_u32, wrap_u8, wrap_u16, e1, e4, c1', c2', hwi, hwi2, hw8, c3', c4', resO, Qy.setN]
          · have c4' : (wOf ds k : Int) + 1 ≤ v + y := by omega
            rw [if_neg (fun h => c4 h.2.2)]
            generalize (wOf ds k : Int) = W at *
            obtain ⟨a, b, c, e, F, t, me, fn, li⟩ := q
            simp only [qyC] at e1 ⊢
            have h4 : k = 0 ∨ k = 1 ∨ k = 2 ∨ k = 3 := by omega
            rcases h4 with rfl | rfl | rfl | rfl <;> simp only at hgn <;> subst hgn <;> simp at e4 c1 c2 c2' <;> simp [beqI, bneI, mm_min2, mm_max2, mm_min3, mm_max3, startE, lkE, lkX, lkE_rest, sx, substE, opVA, objs0, List.replicate, XA_seq, XA_region, XOA_go, goE_someA, opV, ev, putA, layAll, XOA_nil, XA_skip_seq, XA_skip_nil, XOA_gd, goG_tA, goG_uA, binV, bi_add, bi_sub, bi_mul, bi_quo, bi_rem, bi_eql, bi_neq, bi_lss, bi_leq, bi_gtr, bi_geq, bi_shl, bi_shr, bi_and, bi_or, bi_xor, unV, XA_ret_nil, XA_ret_cons, endFA_r, endFA_n, endTA_r, endTA_n, endRA_r, endRA_n, fltR, resultsA, resAs, resA, XA_block, XA_cond, pickX_t, pickX_f, pickX_b, XA_skip_blk, XA_skip_lp, XA_exit_seq, XA_exit_lp, XA_exit_blk, XA_exit_nil, load1, Ev.loadCells, objCells, bodyCells, setCells, AV.flat, AV.flat1, backR, backV, backCell, mapO, AV.cells, AV.atom, AV.tree, fillV, repeatL, treeCell, freezeAll, eqCells, callV_T, callV_F, passN, passV, passCell, srcCells, sliceBounds, hiB, loB, thenQ_nA, thenQ_xA, thenQ_rA, runK_nA, runK_xA, runK_rA, wrap_i64, wrap_u64, wrap_u32, wrap_u8, wrap_u16, e1, e4, c1', c2', hwi, hwi2, c3', c4', resO, zeroQ, flatF_nil]
        · have c3' : v + y < 0 := by omega
          rw [if_neg (fun h => c3 h.2.1)]
          obtain ⟨a, b, c, e, F, t, me, fn, li⟩ := q
          simp only [qyC] at e1 ⊢
          have h4 : k = 0 ∨ k = 1 ∨ k = 2 ∨ k = 3 := by omega
          rcases h4 with rfl | rfl | rfl | rfl <;> simp only at hgn <;> subst hgn <;> simp at e4 c1 c2 c2' <;> simp [beqI, bneI, mm_min2, mm_max2, mm_min3, mm_max3, startE, lkE, lkX, lkE_rest, sx, substE, opVA, objs0, List.replicate, XA_seq, XA_region, XOA_go, goE_someA, opV, ev, putA, layAll, XOA_nil, XA_skip_seq, XA_skip_nil, XOA_gd, goG_tA, goG_uA, binV, bi_add, bi_sub, bi_mul, bi_quo, bi_rem, bi_eql, bi_neq, bi_lss, bi_leq, bi_gtr, bi_geq, bi_shl, bi_shr, bi_and, bi_or, bi_xor, unV, XA_ret_nil, XA_ret_cons, endFA_r, endFA_n, endTA_r, endTA_n, endRA_r, endRA_n, fltR, resultsA, resAs, resA, XA_block, XA_cond, pickX_t, pickX_f, pickX_b, XA_skip_blk, XA_skip_lp, XA_exit_seq, XA_exit_lp, XA_exit_blk, XA_exit_nil, load1, Ev.loadCells, objCells, bodyCells, setCells, AV.flat, AV.flat1, backR, backV, backCell, mapO, AV.cells, AV.atom, AV.tree, fillV, repeatL, treeCell, freezeAll, eqCells, callV_T, callV_F, passN, passV, passCell, srcCells, sliceBounds, hiB, loB, thenQ_nA, thenQ_xA, thenQ_rA, runK_nA, runK_xA, runK_rA, wrap_i64, wrap_u64, wrap_u32, wrap_u8, wrap_u16, e1, e4, c1', c2', hwi, hwi2, c3', resO, zeroQ, flatF_nil]
      · have c2' : (ds.length : Int) ≤ d := by omega
        rw [decide_eq_false c2, Bool.and_false] at hhas
        rw [if_neg (fun h => by rw [hhas] at h; simp at h)]
        obtain ⟨a, b, c, e, F, t, me, fn, li⟩ := q
        simp only [qyC] at e1 ⊢
        simp [beqI, bneI, mm_min2, mm_max2, mm_min3, mm_max3, startE, lkE, lkX, lkE_rest, sx, substE, opVA, objs0, List.replicate, XA_seq, XA_region, XOA_go, goE_someA, opV, ev, putA, layAll, XOA_nil, XA_skip_seq, XA_skip_nil, XOA_gd, goG_tA, goG_uA, binV, bi_add, bi_sub, bi_mul, bi_quo, bi_rem, bi_eql, bi_neq, bi_lss, bi_leq, bi_gtr, bi_geq, bi_shl, bi_shr, bi_and, bi_or, bi_xor, unV, XA_ret_nil, XA_ret_cons, endFA_r, endFA_n, endTA_r, endTA_n, endRA_r, endRA_n, fltR, resultsA, resAs, resA, XA_block, XA_cond, pickX_t, pickX_f, pickX_b, XA_skip_blk, XA_skip_lp, XA_exit_seq, XA_exit_lp, XA_exit_blk, XA_exit_nil, load1, Ev.loadCells, objCells, bodyCells, setCells, AV.flat, AV.flat1, backR, backV, backCell, mapO, AV.cells, AV.atom, AV.tree, fillV, repeatL, treeCell, freezeAll, eqCells, callV_T, callV_F, passN, passV, passCell, srcCells, sliceBounds, hiB, loB, thenQ_nA, thenQ_xA, thenQ_rA, runK_nA, runK_xA, runK_rA, wrap_i64, wrap_u64, wrap_u32, wrap_u8, wrap_u16, e1, c1', c2', resO, zeroQ, flatF_nil]
    · have c1' : d < 0 := by omega
      rw [decide_eq_false c1, Bool.false_and] at hhas
      rw [if_neg (fun h => by rw [hhas] at h; simp at h)]
      obtain ⟨a, b, c, e, F, t, me, fn, li⟩ := q
      simp only [qyC] at e1 ⊢
      simp [beqI, bneI, mm_min2, mm_max2, mm_min3, mm_max3, startE, lkE, lkX, lkE_rest, sx, substE, opVA, objs0, List.replicate, XA_seq, XA_region, XOA_go, goE_someA, opV, ev, putA, layAll, XOA_nil, XA_skip_seq, XA_skip_nil, XOA_gd, goG_tA, goG_uA, binV, bi_add, bi_sub, bi_mul, bi_quo, bi_rem, bi_eql, bi_neq, bi_lss, bi_leq, bi_gtr, bi_geq, bi_shl, bi_shr, bi_and, bi_or, bi_xor, unV, XA_ret_nil, XA_ret_cons, endFA_r, endFA_n, endTA_r, endTA_n, endRA_r, endRA_n, fltR, resultsA, resAs, resA, XA_block, XA_cond, pickX_t, pickX_f, pickX_b, XA_skip_blk, XA_skip_lp, XA_exit_seq, XA_exit_lp, XA_exit_blk, XA_exit_nil, load1, Ev.loadCells, objCells, bodyCells, setCells, AV.flat, AV.flat1, backR, backV, backCell, mapO, AV.cells, AV.atom, AV.tree, fillV, repeatL, treeCell, freezeAll, eqCells, callV_T, callV_F, passN, passV, passCell, srcCells, sliceBounds, hiB, loB, thenQ_nA, thenQ_xA, thenQ_rA, runK_nA, runK_xA, runK_rA, wrap_i64, wrap_u64, wrap_u32, wrap_u8, wrap_u16, e1, c1', resO, zeroQ, flatF_nil]
end Go.Proofs.Ytambpbcdnhekbaa
