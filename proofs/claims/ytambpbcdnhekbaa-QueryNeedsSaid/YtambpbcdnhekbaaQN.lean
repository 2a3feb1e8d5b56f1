/- Queries diced: the document's. -/
import Derived.Test.YtambpbcdnhekbaaQM
set_option linter.unusedSimpArgs false
set_option linter.unusedVariables false
set_option maxHeartbeats 8000000
set_option maxRecDepth 100000
namespace Go.Proofs.Ytambpbcdnhekbaa
open Go.Ev
def addF (ds : List Dm) (q : Qy) (f : Fx) (w : Bool) : Qy := if w = true then (q.withF (q.F ++ [f])).setN f.d.toNat (wOf ds f.d.toNat) else q.withF (q.F ++ [f])
def rdiceQ (ds : List Dm) (m : Int) (q : Qy) (f : Fx) (w : Bool) : Option Qy := if goodQ ds m q = true ∧ fixG ds f = true then toldQ ds m (addF ds q f w) else none
theorem rdice_q (ds : List Dm) (m : Int) (q : Qy) (f : Fx) (w : Bool) (hC : okC ds) (hq : okQ q) (hf : okF f) :
    cvT tab 37 [.agg [.ro ds.length (flatD ds), .int .i64 m], .agg (qyC q), .agg (fixC f), .bool w] = some (resO (rdiceQ ds m q f w)) := by
  refine cvTA_R (mf := Mf.f37) rfl rfl (by kernel_rfl) ?_
  simp only [Mf.f37]
  have e1 := rqgood_ev ds m q hC hq
  have hgp := @goodQ_parts ds m q
  unfold rdiceQ
  cases g : goodQ ds m q with
  | false =>
    rw [g] at e1
    rw [if_neg (fun h => by simp at h)]
    obtain ⟨a, b, c, e, F, t, me, fn, li⟩ := q
    simp only [qyC, fixC, rI] at e1 ⊢
    simp [beqI, bneI, mm_min2, mm_max2, mm_min3, mm_max3, startE, lkE, lkX, lkE_rest, sx, substE, opVA, objs0, List.replicate, XA_seq, XA_region, XOA_go, goE_someA, opV, ev, putA, layAll, XOA_nil, XA_skip_seq, XA_skip_nil, XOA_gd, goG_tA, goG_uA, binV, bi_add, bi_sub, bi_mul, bi_quo, bi_rem, bi_eql, bi_neq, bi_lss, bi_leq, bi_gtr, bi_geq, bi_shl, bi_shr, bi_and, bi_or, bi_xor, unV, XA_ret_nil, XA_ret_cons, endFA_r, endFA_n, endTA_r, endTA_n, endRA_r, endRA_n, fltR, resultsA, resAs, resA, XA_block, XA_cond, pickX_t, pickX_f, pickX_b, XA_skip_blk, XA_skip_lp, XA_exit_seq, XA_exit_lp, XA_exit_blk, XA_exit_nil, load1, Ev.loadCells, objCells, bodyCells, setCells, AV.flat, AV.flat1, backR, backV, backCell, mapO, AV.cells, AV.atom, AV.tree, fillV, repeatL, treeCell, freezeAll, eqCells, callV_T, callV_F, passN, passV, passCell, srcCells, sliceBounds, hiB, loB, thenQ_nA, thenQ_xA, thenQ_rA, runK_nA, runK_xA, runK_rA, wrap_i64, wrap_u64, wrap_u32, wrap_u8, wrap_u16, e1, resO, zeroQ, flatF_nil]
  | true =>
    rw [g] at e1
    obtain ⟨g1, g2, g3, g4, -⟩ := hgp g
    have gc := goodN_good g1
    have hl := goodC_len gc
    have e2 := rfix_ev ds m f hC gc hf
    cases gf : fixG ds f with
    | false =>
      rw [gf] at e2
      rw [if_neg (fun h => by simp at h)]
      obtain ⟨a, b, c, e, F, t, me, fn, li⟩ := q
      simp only [qyC, fixC, rI] at e1 e2 ⊢
      simp [beqI, bneI, mm_min2, mm_max2, mm_min3, mm_max3, startE, lkE, lkX, lkE_rest, sx, substE, opVA, objs0, List.replicate, XA_seq, XA_region, XOA_go, goE_someA, opV, ev, putA, layAll, XOA_nil, XA_skip_seq, XA_skip_nil, XOA_gd, goG_tA, goG_uA, binV, bi_add, bi_sub, bi_mul, bi_quo, bi_rem, bi_eql, bi_neq, bi_lss, bi_leq, bi_gtr, bi_geq, bi_shl, bi_shr, bi_and, bi_or, bi_xor, unV, XA_ret_nil, XA_ret_cons, endFA_r, endFA_n, endTA_r, endTA_n, endRA_r, endRA_n, fltR, resultsA, resAs, resA, XA_block, XA_cond, pickX_t, pickX_f, pickX_b, XA_skip_blk, XA_skip_lp, XA_exit_seq, XA_exit_lp, XA_exit_blk, XA_exit_nil, load1, Ev.loadCells, objCells, bodyCells, setCells, AV.flat, AV.flat1, backR, backV, backCell, mapO, AV.cells, AV.atom, AV.tree, fillV, repeatL, treeCell, freezeAll, eqCells, callV_T, callV_F, passN, passV, passCell, srcCells, sliceBounds, hiB, loB, thenQ_nA, thenQ_xA, thenQ_rA, runK_nA, runK_xA, runK_rA, wrap_i64, wrap_u64, wrap_u32, wrap_u8, wrap_u16, e1, e2, resO, zeroQ, flatF_nil]
    | true =>
      rw [gf] at e2
      rw [if_pos ⟨rfl, rfl⟩]
      obtain ⟨h1, h2, h3, h4, h5, h6⟩ := fixG_lv gf
      have hml := fixG_ms gc gf
      have e4 := qlevels_ev ds m f.d hC
      rw [levels_ok gc h2 h3] at e4
      have hwl := wOf_le gc f.d.toNat
      have hq2 : okQ (q.withF (q.F ++ [f])) := withF_ok hq (by rw [List.length_append]; simp; omega) (fun x hx => by
        rcases List.mem_append.1 hx with h | h
        · exact hq.F.2 x h
        · simp at h; subst h; exact hf)
      have e5 := rqgood_ev ds m _ hC (setN_ok (k := f.d.toNat) (x := wOf ds f.d.toNat) hq2 ⟨by omega, by omega⟩)
      have e6 := rqgood_ev ds m _ hC hq2
      obtain ⟨d, l, ms⟩ := f
      simp only at h2 h3 e4 e5 hwl hml
      obtain ⟨k, rfl⟩ : ∃ k : Nat, d = k := ⟨d.toNat, by omega⟩
      simp only [Int.toNat_natCast] at *
      have hwr : IntKind.i64.wrap ((wOf ds k : Int) + 1 - 1) = (wOf ds k : Int) := by rw [wrap_i64 (by omega) (by omega)]; omega
      have hwr2 : IntKind.i64.wrap (wOf ds k : Int) = (wOf ds k : Int) := wrap_i64 (by omega) (by omega)
      have hw8 : IntKind.u8.wrap (wOf ds k : Int) = (wOf ds k : Int) := wrap_u8 (by omega) (by omega)
      have hk4 : k < 4 := by omega
      have hfl := flatF_len q.F
      have htr := flatF_tree q.F
      have hap := flatF_append q.F [⟨k, l, ms⟩]
      rw [flatF_one] at hap
      have q1 : q.F.length * 40 ≤ 140737488355328 := by omega
      have q2 : q.F.length < 4611686018427387904 := by omega
      have q3 : (q.F.length + 1) * 40 ≤ 140737488355328 := by omega
      have q4 : q.F.length + 1 < 4611686018427387904 := by omega
      have q7 : (q.F.length + 1) * 3 ≤ q.F.length * 3 + 3 := by omega
      have q8 : List.take ((q.F.length + 1) * 3) (flatF q.F ++ [AV.int .i64 k, .int .i64 l, .ro ms.length (ms.map (.int .i64))]) = flatF q.F ++ [AV.int .i64 k, .int .i64 l, .ro ms.length (ms.map (.int .i64))] := List.take_of_length_le (by simp; omega)
      have q5 : ms.length * 8 ≤ 140737488355328 := by omega
      have q6 : ms.length < 4611686018427387904 := by omega
      clear hgp g3 gf hq2 hq hf
      unfold toldQ addF
      simp only [Int.toNat_natCast]
      generalize (wOf ds k : Int) = W at *
      obtain ⟨a, b, c, e, F, t, me, fn, li⟩ := q
      cases w with
      | false =>
        simp only [Bool.false_eq_true, if_false]
        generalize goodQ ds m (Qy.withF ⟨a, b, c, e, F, t, me, fn, li⟩ (F ++ [⟨k, l, ms⟩])) = G at *
        simp only [qyC, fixC, rI, Qy.withF, List.length_append, List.length_cons, List.length_nil, Nat.zero_add] at e1 e2 e6 hap hfl htr q1 q2 q3 q4 q7 q8 ⊢
        rw [hap] at e6
        cases G <;> simp [beqI, bneI, mm_min2, mm_max2, mm_min3, mm_max3, startE, lkE, lkX, lkE_rest, sx, substE, opVA, objs0, List.replicate, XA_seq, XA_region, XOA_go, goE_someA, opV, ev, putA, layAll, XOA_nil, XA_skip_seq, XA_skip_nil, XOA_gd, goG_tA, goG_uA, binV, bi_add, bi_sub, bi_mul, bi_quo, bi_rem, bi_eql, bi_neq, bi_lss, bi_leq, bi_gtr, bi_geq, bi_shl, bi_shr, bi_and, bi_or, bi_xor, unV, XA_ret_nil, XA_ret_cons, endFA_r, endFA_n, endTA_r, endTA_n, endRA_r, endRA_n, fltR, resultsA, resAs, resA, XA_block, XA_cond, pickX_t, pickX_f, pickX_b, XA_skip_blk, XA_skip_lp, XA_exit_seq, XA_exit_lp, XA_exit_blk, XA_exit_nil, load1, Ev.loadCells, objCells, bodyCells, setCells, AV.flat, AV.flat1, backR, backV, backCell, mapO, AV.cells, AV.atom, AV.tree, fillV, repeatL, treeCell, freezeAll, eqCells, callV_T, callV_F, passN, passV, passCell, srcCells, sliceBounds, hiB, loB, thenQ_nA, thenQ_xA, thenQ_rA, runK_nA, runK_xA, runK_rA, wrap_i64, wrap_u64, wrap_u32, wrap_u8, wrap_u16, e1, e2, e6, resO, zeroQ, flatF_nil, hap, hfl, htr, q1, q2, q3, q4, q5, q6, q7, q8, List.take_of_length_le]
      | true =>
        simp only [if_true]
        generalize goodQ ds m (Qy.setN (Qy.withF ⟨a, b, c, e, F, t, me, fn, li⟩ (F ++ [⟨k, l, ms⟩])) k W) = G at *
        simp only [qyC, fixC, rI, Qy.withF, List.length_append, List.length_cons, List.length_nil, Nat.zero_add] at e1 e2 e5 hap hfl htr q1 q2 q3 q4 q7 q8 ⊢
        have h4 : k = 0 ∨ k = 1 ∨ k = 2 ∨ k = 3 := by omega
        rcases h4 with rfl | rfl | rfl | rfl <;> simp only [Qy.setN, List.length_append, List.length_cons, List.length_nil, Nat.zero_add] at e5 <;> rw [hap] at e5 <;> simp at e5 e4 e2 q8 hap <;>
          cases G <;> simp [beqI, bneI, mm_min2, mm_max2, mm_min3, mm_max3, startE, lkE, lkX, lkE_rest, sx, substE, opVA, objs0, List.replicate, XA_seq, XA_region, XOA_go, goE_someA, opV, ev, putA, layAll, XOA_nil, XA_skip_seq, XA_skip_nil, XOA_gd, goG_tA, goG_uA, binV, bi_add, bi_sub, bi_mul, bi_quo, bi_rem, bi_eql, bi_neq, bi_lss, bi_leq, bi_gtr, bi_geq, bi_shl, bi_shr, bi_and, bi_or, bi_xor, unV, XA_ret_nil, XA_ret_cons, endFA_r, endFA_n, endTA_r, endTA_n, endRA_r, endRA_n, fltR, resultsA, resAs, resA, XA_block, XA_cond, pickX_t, pickX_f, pickX_b, XA_skip_blk, XA_skip_lp, XA_exit_seq, XA_exit_lp, XA_exit_blk, XA_exit_nil, load1, Ev.loadCells, objCells, bodyCells, setCells, AV.flat, AV.flat1, backR, backV, backCell, mapO, AV.cells, AV.atom, AV.tree, fillV, repeatL, treeCell, freezeAll, eqCells, callV_T, callV_F, passN, passV, passCell, srcCells, sliceBounds, hiB, loB, thenQ_nA, thenQ_xA, thenQ_rA, runK_nA, runK_xA, runK_rA, wrap_i64, wrap_u64, wrap_u32, wrap_u8, wrap_u16, e1, e2, e4, e5, hwr, hwr2, hw8, resO, zeroQ, flatF_nil, hap, hfl, htr, q1, q2, q3, q4, q5, q6, q7, q8, List.take_of_length_le, Qy.setN]
end Go.Proofs.Ytambpbcdnhekbaa
