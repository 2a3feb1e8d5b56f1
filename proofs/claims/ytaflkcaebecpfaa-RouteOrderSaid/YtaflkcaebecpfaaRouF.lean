/- Nodes that are kept: the document's order, what answers. -/
import Derived.Test.YtaflkcaebecpfaaRouE
set_option linter.unusedSimpArgs false
set_option linter.unusedVariables false
set_option maxHeartbeats 8000000
set_option maxRecDepth 100000
namespace Go.Proofs.Ytaflkcaebecpfaa
open Go.Ev
theorem ints_same (l : List Nat) (hn : l.length ≤ 1000000) : cvF tab 20 [rNat l, rNat l] = some (.bool true) := by
  refine cvFA_R (mf := Mf.f20) rfl rfl (by kernel_rfl) ?_
  simp only [Mf.f20]
  simp [beqI, bneI, mm_min2, mm_max2, mm_min3, mm_max3, startE, lkE, lkX, lkE_rest, sx, substE, opVA, objs0, List.replicate, XA_seq, XA_region, XOA_go, goE_someA, opV, ev, putA, layAll, XOA_nil, XA_skip_seq, XA_skip_nil, XOA_gd, goG_tA, goG_uA, binV, binInt, unV, XA_ret_nil, XA_ret_cons, endFA_r, endFA_n, endTA_r, endTA_n, endRA_r, endRA_n, fltR, resultsA, resAs, resA, XA_block, XA_cond, pickX_t, pickX_f, pickX_b, XA_skip_blk, XA_skip_lp, XA_exit_seq, XA_exit_lp, XA_exit_blk, XA_exit_nil, load1, Ev.loadCells, objCells, bodyCells, setCells, AV.flat, AV.flat1, backR, backV, backCell, mapO, AV.cells, AV.atom, AV.tree, fillV, repeatL, treeCell, freezeAll, eqCells, callV_T, callV_F, passN, passV, passCell, srcCells, sliceBounds, hiB, loB, thenQ_nA, thenQ_xA, thenQ_rA, runK_nA, runK_xA, runK_rA, wrap_i64, wrap_u64, wrap_u32, wrap_u8, wrap_u16, rNat]
  refine XA_for (fun i => ⟨[(0, rNat l), (1, rNat l), (5, .int .i64 i)], []⟩)
    (fun i => True) l.length 0 (Nat.zero_le _) (by simp [AV.atom, normA, lkE, fixObjs, fixBody, fixV, fixCell, rNat]) trivial ?_ ?_
  · intro i _ hi _
    have hi' : (i : Int) < l.length := by omega
    have hx : (dN l)[i]? = some (.int .i64 (l[i] : Nat)) := by unfold dN; simp [hi]
    have hw := wrap_succ i l.length hi (by omega)
    generalize l[i] = x at *
    simp [beqI, bneI, mm_min2, mm_max2, mm_min3, mm_max3, startE, lkE, lkX, lkE_rest, sx, substE, opVA, objs0, List.replicate, XA_seq, XA_region, XOA_go, goE_someA, opV, ev, putA, layAll, XOA_nil, XA_skip_seq, XA_skip_nil, XOA_gd, goG_tA, goG_uA, binV, binInt, unV, XA_ret_nil, XA_ret_cons, endFA_r, endFA_n, endTA_r, endTA_n, endRA_r, endRA_n, fltR, resultsA, resAs, resA, XA_block, XA_cond, pickX_t, pickX_f, pickX_b, XA_skip_blk, XA_skip_lp, XA_exit_seq, XA_exit_lp, XA_exit_blk, XA_exit_nil, load1, Ev.loadCells, objCells, bodyCells, setCells, AV.flat, AV.flat1, backR, backV, backCell, mapO, AV.cells, AV.atom, AV.tree, fillV, repeatL, treeCell, freezeAll, eqCells, callV_T, callV_F, passN, passV, passCell, srcCells, sliceBounds, hiB, loB, thenQ_nA, thenQ_xA, thenQ_rA, runK_nA, runK_xA, runK_rA, wrap_i64, wrap_u64, wrap_u32, wrap_u8, wrap_u16, AV.atom, normA, lkE, fixObjs, fixBody, fixV, fixCell, rNat, hi', hi, hx, hw]
  · intro _
    simp [beqI, bneI, mm_min2, mm_max2, mm_min3, mm_max3, startE, lkE, lkX, lkE_rest, sx, substE, opVA, objs0, List.replicate, XA_seq, XA_region, XOA_go, goE_someA, opV, ev, putA, layAll, XOA_nil, XA_skip_seq, XA_skip_nil, XOA_gd, goG_tA, goG_uA, binV, binInt, unV, XA_ret_nil, XA_ret_cons, endFA_r, endFA_n, endTA_r, endTA_n, endRA_r, endRA_n, fltR, resultsA, resAs, resA, XA_block, XA_cond, pickX_t, pickX_f, pickX_b, XA_skip_blk, XA_skip_lp, XA_exit_seq, XA_exit_lp, XA_exit_blk, XA_exit_nil, load1, Ev.loadCells, objCells, bodyCells, setCells, AV.flat, AV.flat1, backR, backV, backCell, mapO, AV.cells, AV.atom, AV.tree, fillV, repeatL, treeCell, freezeAll, eqCells, callV_T, callV_F, passN, passV, passCell, srcCells, sliceBounds, hiB, loB, thenQ_nA, thenQ_xA, thenQ_rA, runK_nA, runK_xA, runK_rA, wrap_i64, wrap_u64, wrap_u32, wrap_u8, wrap_u16, AV.atom, normA, lkE, fixObjs, fixBody, fixV, fixCell, rNat]
theorem ford_snoc (f : Nat → Int) (r i : Nat) : (List.range (i + 1)).filter (fun j => decide (f j = (r : Int))) = (List.range i).filter (fun j => decide (f j = (r : Int))) ++ (if f i = (r : Int) then [i] else []) := by
  rw [List.range_succ, List.filter_append]
  by_cases h : f i = (r : Int)
  · rw [if_pos h, List.filter_cons_of_pos (by simp [h])]; rfl
  · rw [if_neg h, List.filter_cons_of_neg (by simp [h])]; rfl
theorem filter_len (p : Nat → Bool) (i : Nat) : ((List.range i).filter p).length ≤ i := by
  have := List.length_filter_le p (List.range i)
  rw [List.length_range] at this
  exact this
theorem ordB_le (f : Nat → Int) (n : Nat) : ∀ k, (ordB f n k).length ≤ k * n
  | 0 => by unfold ordB; simp
  | k + 1 => by
    have h1 := ordB_le f n k
    have h2 := filter_len (fun i => decide (f i = (k : Int))) n
    rw [ordB_succ, List.length_append, Nat.add_mul]
    omega
theorem rorder_ev (ds : List Dm) (m : Int) (l : List (List Int)) (hC : okC ds) (hl : okNs l) : cvT tab 22 [.agg [.ro ds.length (flatD ds), .int .i64 m], rN l] = some (rNat (orderN ds m l)) := by
  refine cvTA_R (mf := Mf.f22) rfl rfl (by kernel_rfl) ?_
  simp only [Mf.f22]
  have e1 := rrogood_ev ds m l hC hl
  simp only [rN] at e1 ⊢
  cases g : goodR ds m l with
  | false =>
    rw [g] at e1
    simp [beqI, bneI, mm_min2, mm_max2, mm_min3, mm_max3, startE, lkE, lkX, lkE_rest, sx, substE, opVA, objs0, List.replicate, XA_seq, XA_region, XOA_go, goE_someA, opV, ev, putA, layAll, XOA_nil, XA_skip_seq, XA_skip_nil, XOA_gd, goG_tA, goG_uA, binV, binInt, unV, XA_ret_nil, XA_ret_cons, endFA_r, endFA_n, endTA_r, endTA_n, endRA_r, endRA_n, fltR, resultsA, resAs, resA, XA_block, XA_cond, pickX_t, pickX_f, pickX_b, XA_skip_blk, XA_skip_lp, XA_exit_seq, XA_exit_lp, XA_exit_blk, XA_exit_nil, load1, Ev.loadCells, objCells, bodyCells, setCells, AV.flat, AV.flat1, backR, backV, backCell, mapO, AV.cells, AV.atom, AV.tree, fillV, repeatL, treeCell, freezeAll, eqCells, callV_T, callV_F, passN, passV, passCell, srcCells, sliceBounds, hiB, loB, thenQ_nA, thenQ_xA, thenQ_rA, runK_nA, runK_xA, runK_rA, wrap_i64, wrap_u64, wrap_u32, wrap_u8, wrap_u16, e1, orderN, g, rNat, dN]
  | true =>
    rw [g] at e1
    obtain ⟨_, h1, h2, _, _, _⟩ := goodR_at g
    simp [beqI, bneI, mm_min2, mm_max2, mm_min3, mm_max3, startE, lkE, lkX, lkE_rest, sx, substE, opVA, objs0, List.replicate, XA_seq, XA_region, XOA_go, goE_someA, opV, ev, putA, layAll, XOA_nil, XA_skip_seq, XA_skip_nil, XOA_gd, goG_tA, goG_uA, binV, binInt, unV, XA_ret_nil, XA_ret_cons, endFA_r, endFA_n, endTA_r, endTA_n, endRA_r, endRA_n, fltR, resultsA, resAs, resA, XA_block, XA_cond, pickX_t, pickX_f, pickX_b, XA_skip_blk, XA_skip_lp, XA_exit_seq, XA_exit_lp, XA_exit_blk, XA_exit_nil, load1, Ev.loadCells, objCells, bodyCells, setCells, AV.flat, AV.flat1, backR, backV, backCell, mapO, AV.cells, AV.atom, AV.tree, fillV, repeatL, treeCell, freezeAll, eqCells, callV_T, callV_F, passN, passV, passCell, srcCells, sliceBounds, hiB, loB, thenQ_nA, thenQ_xA, thenQ_rA, runK_nA, runK_xA, runK_rA, wrap_i64, wrap_u64, wrap_u32, wrap_u8, wrap_u16, e1]
    refine XA_for (fun r => ⟨[(1, .ro l.length (flatN l)), (5, .own 1 0 0 (ordB (rk l) l.length r).length 1), (6, .int .i64 r)], [⟨0, .none⟩, ⟨0, .row true 1 (dN (ordB (rk l) l.length r))⟩]⟩)
      (fun i => True) 21 0 (by omega) (by simp [AV.atom, normA, lkE, fixObjs, fixBody, fixV, fixCell, dN, ordB]) trivial ?_ ?_
    · intro r _ hr _
      have hr' : (r : Int) ≤ 20 := by omega
      have hw := wrap_succ r 21 hr (by omega)
      have hle := ordB_le (rk l) l.length r
      have hrl : r * l.length ≤ 20 * 12 := Nat.mul_le_mul (by omega) h2
      simp [beqI, bneI, mm_min2, mm_max2, mm_min3, mm_max3, startE, lkE, lkX, lkE_rest, sx, substE, opVA, objs0, List.replicate, XA_seq, XA_region, XOA_go, goE_someA, opV, ev, putA, layAll, XOA_nil, XA_skip_seq, XA_skip_nil, XOA_gd, goG_tA, goG_uA, binV, binInt, unV, XA_ret_nil, XA_ret_cons, endFA_r, endFA_n, endTA_r, endTA_n, endRA_r, endRA_n, fltR, resultsA, resAs, resA, XA_block, XA_cond, pickX_t, pickX_f, pickX_b, XA_skip_blk, XA_skip_lp, XA_exit_seq, XA_exit_lp, XA_exit_blk, XA_exit_nil, load1, Ev.loadCells, objCells, bodyCells, setCells, AV.flat, AV.flat1, backR, backV, backCell, mapO, AV.cells, AV.atom, AV.tree, fillV, repeatL, treeCell, freezeAll, eqCells, callV_T, callV_F, passN, passV, passCell, srcCells, sliceBounds, hiB, loB, thenQ_nA, thenQ_xA, thenQ_rA, runK_nA, runK_xA, runK_rA, wrap_i64, wrap_u64, wrap_u32, wrap_u8, wrap_u16, AV.atom, normA, lkE, fixObjs, fixBody, fixV, fixCell, hr']
      refine XA_for (fun i => ⟨[(1, .ro l.length (flatN l)), (5, .own 1 0 0 (ordB (rk l) l.length r ++ (List.range i).filter (fun j => decide (rk l j = (r : Int)))).length 1), (6, .int .i64 r), (7, .int .i64 i)], [⟨0, .none⟩, ⟨0, .row true 1 (dN (ordB (rk l) l.length r ++ (List.range i).filter (fun j => decide (rk l j = (r : Int)))))⟩]⟩)
        (fun i => True) l.length 0 (by omega) (by simp [AV.atom, normA, lkE, fixObjs, fixBody, fixV, fixCell]) trivial ?_ ?_
      · intro i _ hi _
        have hi' : (i : Int) < l.length := by omega
        have hd := dropV hl hi
        have hwi := wrap_succ i l.length hi (by omega)
        have e2 := rrank_ev (gR l i) (hl.at hi)
        have hrk : rk l i = rankN (gR l i) := rfl
        have hfl := filter_len (fun j => decide (rk l j = (r : Int))) i
        have hDl : (dN (ordB (rk l) l.length r ++ (List.range i).filter (fun j => decide (rk l j = (r : Int))))).length = (ordB (rk l) l.length r ++ (List.range i).filter (fun j => decide (rk l j = (r : Int)))).length := dN_len _
        have hDs : (ordB (rk l) l.length r ++ (List.range i).filter (fun j => decide (rk l j = (r : Int)))).length ≤ 1000 := by rw [List.length_append]; omega
        rw [ford_snoc, ← List.append_assoc]
        generalize ordB (rk l) l.length r ++ (List.range i).filter (fun j => decide (rk l j = (r : Int))) = O at *
        rw [hrk]
        generalize rankN (gR l i) = K at *
        obtain ⟨p, q, s, t, hv, _, _, _, _⟩ := four (hl.at hi)
        rw [hv] at hd e2
        simp only [List.map_cons, List.map_nil, List.cons_append, List.nil_append] at hd e2
        by_cases c : K = (r : Int)
        · have q1 : (O.length + 1) * 8 ≤ 140737488355328 := by omega
          have q2 : O.length + 1 < 4611686018427387904 := by omega
          have q3 : dN (O ++ [i]) = dN O ++ [.int .i64 i] := by rw [dN_append]; rfl
          simp [beqI, bneI, mm_min2, mm_max2, mm_min3, mm_max3, startE, lkE, lkX, lkE_rest, sx, substE, opVA, objs0, List.replicate, XA_seq, XA_region, XOA_go, goE_someA, opV, ev, putA, layAll, XOA_nil, XA_skip_seq, XA_skip_nil, XOA_gd, goG_tA, goG_uA, binV, binInt, unV, XA_ret_nil, XA_ret_cons, endFA_r, endFA_n, endTA_r, endTA_n, endRA_r, endRA_n, fltR, resultsA, resAs, resA, XA_block, XA_cond, pickX_t, pickX_f, pickX_b, XA_skip_blk, XA_skip_lp, XA_exit_seq, XA_exit_lp, XA_exit_blk, XA_exit_nil, load1, Ev.loadCells, objCells, bodyCells, setCells, AV.flat, AV.flat1, backR, backV, backCell, mapO, AV.cells, AV.atom, AV.tree, fillV, repeatL, treeCell, freezeAll, eqCells, callV_T, callV_F, passN, passV, passCell, srcCells, sliceBounds, hiB, loB, thenQ_nA, thenQ_xA, thenQ_rA, runK_nA, runK_xA, runK_rA, wrap_i64, wrap_u64, wrap_u32, wrap_u8, wrap_u16, AV.atom, normA, lkE, fixObjs, fixBody, fixV, fixCell, hi', hd, e2, c, hwi, q1, q2, q3, hDl]
        · simp [beqI, bneI, mm_min2, mm_max2, mm_min3, mm_max3, startE, lkE, lkX, lkE_rest, sx, substE, opVA, objs0, List.replicate, XA_seq, XA_region, XOA_go, goE_someA, opV, ev, putA, layAll, XOA_nil, XA_skip_seq, XA_skip_nil, XOA_gd, goG_tA, goG_uA, binV, binInt, unV, XA_ret_nil, XA_ret_cons, endFA_r, endFA_n, endTA_r, endTA_n, endRA_r, endRA_n, fltR, resultsA, resAs, resA, XA_block, XA_cond, pickX_t, pickX_f, pickX_b, XA_skip_blk, XA_skip_lp, XA_exit_seq, XA_exit_lp, XA_exit_blk, XA_exit_nil, load1, Ev.loadCells, objCells, bodyCells, setCells, AV.flat, AV.flat1, backR, backV, backCell, mapO, AV.cells, AV.atom, AV.tree, fillV, repeatL, treeCell, freezeAll, eqCells, callV_T, callV_F, passN, passV, passCell, srcCells, sliceBounds, hiB, loB, thenQ_nA, thenQ_xA, thenQ_rA, runK_nA, runK_xA, runK_rA, wrap_i64, wrap_u64, wrap_u32, wrap_u8, wrap_u16, AV.atom, normA, lkE, fixObjs, fixBody, fixV, fixCell, hi', hd, e2, c, hwi]
      · intro _
        rw [ordB_succ]
        simp [beqI, bneI, mm_min2, mm_max2, mm_min3, mm_max3, startE, lkE, lkX, lkE_rest, sx, substE, opVA, objs0, List.replicate, XA_seq, XA_region, XOA_go, goE_someA, opV, ev, putA, layAll, XOA_nil, XA_skip_seq, XA_skip_nil, XOA_gd, goG_tA, goG_uA, binV, binInt, unV, XA_ret_nil, XA_ret_cons, endFA_r, endFA_n, endTA_r, endTA_n, endRA_r, endRA_n, fltR, resultsA, resAs, resA, XA_block, XA_cond, pickX_t, pickX_f, pickX_b, XA_skip_blk, XA_skip_lp, XA_exit_seq, XA_exit_lp, XA_exit_blk, XA_exit_nil, load1, Ev.loadCells, objCells, bodyCells, setCells, AV.flat, AV.flat1, backR, backV, backCell, mapO, AV.cells, AV.atom, AV.tree, fillV, repeatL, treeCell, freezeAll, eqCells, callV_T, callV_F, passN, passV, passCell, srcCells, sliceBounds, hiB, loB, thenQ_nA, thenQ_xA, thenQ_rA, runK_nA, runK_xA, runK_rA, wrap_i64, wrap_u64, wrap_u32, wrap_u8, wrap_u16, AV.atom, normA, lkE, fixObjs, fixBody, fixV, fixCell, hw]
    · intro _
      have hlt : List.take (ordB (rk l) l.length 21).length (dN (ordB (rk l) l.length 21)) = dN (ordB (rk l) l.length 21) := List.take_of_length_le (by rw [dN_len]; omega)
      have hdl := dN_len (ordB (rk l) l.length 21)
      simp [beqI, bneI, mm_min2, mm_max2, mm_min3, mm_max3, startE, lkE, lkX, lkE_rest, sx, substE, opVA, objs0, List.replicate, XA_seq, XA_region, XOA_go, goE_someA, opV, ev, putA, layAll, XOA_nil, XA_skip_seq, XA_skip_nil, XOA_gd, goG_tA, goG_uA, binV, binInt, unV, XA_ret_nil, XA_ret_cons, endFA_r, endFA_n, endTA_r, endTA_n, endRA_r, endRA_n, fltR, resultsA, resAs, resA, XA_block, XA_cond, pickX_t, pickX_f, pickX_b, XA_skip_blk, XA_skip_lp, XA_exit_seq, XA_exit_lp, XA_exit_blk, XA_exit_nil, load1, Ev.loadCells, objCells, bodyCells, setCells, AV.flat, AV.flat1, backR, backV, backCell, mapO, AV.cells, AV.atom, AV.tree, fillV, repeatL, treeCell, freezeAll, eqCells, callV_T, callV_F, passN, passV, passCell, srcCells, sliceBounds, hiB, loB, thenQ_nA, thenQ_xA, thenQ_rA, runK_nA, runK_xA, runK_rA, wrap_i64, wrap_u64, wrap_u32, wrap_u8, wrap_u16, AV.atom, normA, lkE, fixObjs, fixBody, fixV, fixCell, orderN, g, rNat, hlt, hdl]
theorem rcheap_ev (ds : List Dm) (m : Int) (l : List (List Int)) (but : Int) (need : List Int) (hC : okC ds) (hl : okNs l) (hn : okN need) (hlen : l.length ≤ 1000) :
    cvF tab 37 [.agg [.ro ds.length (flatD ds), .int .i64 m], rN l, .agg (need.map (.int .u8)), .int .i64 but] = some (.int .i64 (bestN ds m l but need)) := by
  refine cvFA_R (mf := Mf.f37) rfl rfl (by kernel_rfl) ?_
  simp only [Mf.f37]
  obtain ⟨a, b, c, d, rfl, _, _, _, _⟩ := four hn
  simp [beqI, bneI, mm_min2, mm_max2, mm_min3, mm_max3, startE, lkE, lkX, lkE_rest, sx, substE, opVA, objs0, List.replicate, XA_seq, XA_region, XOA_go, goE_someA, opV, ev, putA, layAll, XOA_nil, XA_skip_seq, XA_skip_nil, XOA_gd, goG_tA, goG_uA, binV, binInt, unV, XA_ret_nil, XA_ret_cons, endFA_r, endFA_n, endTA_r, endTA_n, endRA_r, endRA_n, fltR, resultsA, resAs, resA, XA_block, XA_cond, pickX_t, pickX_f, pickX_b, XA_skip_blk, XA_skip_lp, XA_exit_seq, XA_exit_lp, XA_exit_blk, XA_exit_nil, load1, Ev.loadCells, objCells, bodyCells, setCells, AV.flat, AV.flat1, backR, backV, backCell, mapO, AV.cells, AV.atom, AV.tree, fillV, repeatL, treeCell, freezeAll, eqCells, callV_T, callV_F, passN, passV, passCell, srcCells, sliceBounds, hiB, loB, thenQ_nA, thenQ_xA, thenQ_rA, runK_nA, runK_xA, runK_rA, wrap_i64, wrap_u64, wrap_u32, wrap_u8, wrap_u16, rN]
  refine XA_for (fun i => ⟨[(1, rN l), (3, .int .i64 but), (4, .ptr 0 0 0), (6, .ptr 1 0 0), (9, .int .i64 (chB (costAt ds m l) (okAt l [a, b, c, d]) but i)), (10, .int .i64 i)], [⟨0, .var [.ro ds.length (flatD ds), .int .i64 m]⟩, ⟨0, .var [.int .u8 a, .int .u8 b, .int .u8 c, .int .u8 d]⟩]⟩)
    (fun i => True) l.length 0 (Nat.zero_le _) (by simp [AV.atom, normA, lkE, fixObjs, fixBody, fixV, fixCell, rN, chB]) trivial ?_ ?_
  · intro i _ hi _
    have hi' : (i : Int) < l.length := by omega
    have hd := dropV hl hi
    have hw := wrap_succ i l.length hi (by omega)
    have hin := chB_in (costAt ds m l) (okAt l [a, b, c, d]) but i
    have e1 := rbelow_ev (gR l i) [a, b, c, d] (hl.at hi) hn
    have e2 := rcost_ev ds m (gR l i) hC (hl.at hi)
    have hsucc : chB (costAt ds m l) (okAt l [a, b, c, d]) but (i + 1) = if (i : Int) = but ∨ okAt l [a, b, c, d] i = false then chB (costAt ds m l) (okAt l [a, b, c, d]) but i else if chB (costAt ds m l) (okAt l [a, b, c, d]) but i = -1 ∨ costAt ds m l i < costAt ds m l (chB (costAt ds m l) (okAt l [a, b, c, d]) but i).toNat then (i : Int) else chB (costAt ds m l) (okAt l [a, b, c, d]) but i := rfl
    rw [hsucc]
    clear hsucc
    have hok : okAt l [a, b, c, d] i = belowN (gR l i) [a, b, c, d] := rfl
    have hcost : costAt ds m l i = costC ds m (gR l i) := rfl
    generalize hCB : chB (costAt ds m l) (okAt l [a, b, c, d]) but i = cb at *
    rw [hok]
    rw [hcost]
    generalize belowN (gR l i) [a, b, c, d] = F at *
    generalize costC ds m (gR l i) = K at *
    by_cases cbu : (i : Int) = but
    · rw [if_pos (.inl cbu)]
      subst cbu
      simp [beqI, bneI, mm_min2, mm_max2, mm_min3, mm_max3, startE, lkE, lkX, lkE_rest, sx, substE, opVA, objs0, List.replicate, XA_seq, XA_region, XOA_go, goE_someA, opV, ev, putA, layAll, XOA_nil, XA_skip_seq, XA_skip_nil, XOA_gd, goG_tA, goG_uA, binV, binInt, unV, XA_ret_nil, XA_ret_cons, endFA_r, endFA_n, endTA_r, endTA_n, endRA_r, endRA_n, fltR, resultsA, resAs, resA, XA_block, XA_cond, pickX_t, pickX_f, pickX_b, XA_skip_blk, XA_skip_lp, XA_exit_seq, XA_exit_lp, XA_exit_blk, XA_exit_nil, load1, Ev.loadCells, objCells, bodyCells, setCells, AV.flat, AV.flat1, backR, backV, backCell, mapO, AV.cells, AV.atom, AV.tree, fillV, repeatL, treeCell, freezeAll, eqCells, callV_T, callV_F, passN, passV, passCell, srcCells, sliceBounds, hiB, loB, thenQ_nA, thenQ_xA, thenQ_rA, runK_nA, runK_xA, runK_rA, wrap_i64, wrap_u64, wrap_u32, wrap_u8, wrap_u16, AV.atom, normA, lkE, fixObjs, fixBody, fixV, fixCell, rN, hi', hw]
    · cases F with
      | false =>
        rw [if_pos (.inr rfl)]
        obtain ⟨p, q, r, s, hv, _, _, _, _⟩ := four (hl.at hi)
        rw [hv] at hd e1
        simp only [List.map_cons, List.map_nil, List.cons_append, List.nil_append] at hd e1
        simp [beqI, bneI, mm_min2, mm_max2, mm_min3, mm_max3, startE, lkE, lkX, lkE_rest, sx, substE, opVA, objs0, List.replicate, XA_seq, XA_region, XOA_go, goE_someA, opV, ev, putA, layAll, XOA_nil, XA_skip_seq, XA_skip_nil, XOA_gd, goG_tA, goG_uA, binV, binInt, unV, XA_ret_nil, XA_ret_cons, endFA_r, endFA_n, endTA_r, endTA_n, endRA_r, endRA_n, fltR, resultsA, resAs, resA, XA_block, XA_cond, pickX_t, pickX_f, pickX_b, XA_skip_blk, XA_skip_lp, XA_exit_seq, XA_exit_lp, XA_exit_blk, XA_exit_nil, load1, Ev.loadCells, objCells, bodyCells, setCells, AV.flat, AV.flat1, backR, backV, backCell, mapO, AV.cells, AV.atom, AV.tree, fillV, repeatL, treeCell, freezeAll, eqCells, callV_T, callV_F, passN, passV, passCell, srcCells, sliceBounds, hiB, loB, thenQ_nA, thenQ_xA, thenQ_rA, runK_nA, runK_xA, runK_rA, wrap_i64, wrap_u64, wrap_u32, wrap_u8, wrap_u16, AV.atom, normA, lkE, fixObjs, fixBody, fixV, fixCell, rN, hi', cbu, hw, hd, e1]
      | true =>
        rw [if_neg (by simp [cbu])]
        by_cases cb1 : cb = -1
        · rw [if_pos (.inl cb1)]
          obtain ⟨p, q, r, s, hv, _, _, _, _⟩ := four (hl.at hi)
          rw [hv] at hd e1
          simp only [List.map_cons, List.map_nil, List.cons_append, List.nil_append] at hd e1
          simp [beqI, bneI, mm_min2, mm_max2, mm_min3, mm_max3, startE, lkE, lkX, lkE_rest, sx, substE, opVA, objs0, List.replicate, XA_seq, XA_region, XOA_go, goE_someA, opV, ev, putA, layAll, XOA_nil, XA_skip_seq, XA_skip_nil, XOA_gd, goG_tA, goG_uA, binV, binInt, unV, XA_ret_nil, XA_ret_cons, endFA_r, endFA_n, endTA_r, endTA_n, endRA_r, endRA_n, fltR, resultsA, resAs, resA, XA_block, XA_cond, pickX_t, pickX_f, pickX_b, XA_skip_blk, XA_skip_lp, XA_exit_seq, XA_exit_lp, XA_exit_blk, XA_exit_nil, load1, Ev.loadCells, objCells, bodyCells, setCells, AV.flat, AV.flat1, backR, backV, backCell, mapO, AV.cells, AV.atom, AV.tree, fillV, repeatL, treeCell, freezeAll, eqCells, callV_T, callV_F, passN, passV, passCell, srcCells, sliceBounds, hiB, loB, thenQ_nA, thenQ_xA, thenQ_rA, runK_nA, runK_xA, runK_rA, wrap_i64, wrap_u64, wrap_u32, wrap_u8, wrap_u16, AV.atom, normA, lkE, fixObjs, fixBody, fixV, fixCell, rN, hi', cbu, hw, hd, e1, cb1]
        · obtain ⟨j, rfl⟩ := nat_of' (show 0 ≤ cb by omega)
          have hj : j < l.length := by omega
          have hj' : (j : Int) < l.length := by omega
          have hj0 : ¬ (j : Int) < 0 := by omega
          have hdj := dropV hl hj
          have e3 := rcost_ev ds m (gR l j) hC (hl.at hj)
          have hcj : costAt ds m l ((j : Int)).toNat = costC ds m (gR l j) := rfl
          rw [hcj]
          generalize costC ds m (gR l j) = K2 at *
          obtain ⟨p, q, r, s, hv, _, _, _, _⟩ := four (hl.at hi)
          obtain ⟨p2, q2, r2, s2, hv2, _, _, _, _⟩ := four (hl.at hj)
          rw [hv] at hd e1 e2
          rw [hv2] at hdj e3
          simp only [List.map_cons, List.map_nil, List.cons_append, List.nil_append] at hd hdj e1 e2 e3
          by_cases ck : K < K2
          · rw [if_pos (.inr ck)]
            simp [beqI, bneI, mm_min2, mm_max2, mm_min3, mm_max3, startE, lkE, lkX, lkE_rest, sx, substE, opVA, objs0, List.replicate, XA_seq, XA_region, XOA_go, goE_someA, opV, ev, putA, layAll, XOA_nil, XA_skip_seq, XA_skip_nil, XOA_gd, goG_tA, goG_uA, binV, binInt, unV, XA_ret_nil, XA_ret_cons, endFA_r, endFA_n, endTA_r, endTA_n, endRA_r, endRA_n, fltR, resultsA, resAs, resA, XA_block, XA_cond, pickX_t, pickX_f, pickX_b, XA_skip_blk, XA_skip_lp, XA_exit_seq, XA_exit_lp, XA_exit_blk, XA_exit_nil, load1, Ev.loadCells, objCells, bodyCells, setCells, AV.flat, AV.flat1, backR, backV, backCell, mapO, AV.cells, AV.atom, AV.tree, fillV, repeatL, treeCell, freezeAll, eqCells, callV_T, callV_F, passN, passV, passCell, srcCells, sliceBounds, hiB, loB, thenQ_nA, thenQ_xA, thenQ_rA, runK_nA, runK_xA, runK_rA, wrap_i64, wrap_u64, wrap_u32, wrap_u8, wrap_u16, AV.atom, normA, lkE, fixObjs, fixBody, fixV, fixCell, rN, hi', hj', hj0, cbu, hw, hd, hdj, e1, e2, e3, ck]
          · rw [if_neg (by simp [cb1, ck])]
            simp [beqI, bneI, mm_min2, mm_max2, mm_min3, mm_max3, startE, lkE, lkX, lkE_rest, sx, substE, opVA, objs0, List.replicate, XA_seq, XA_region, XOA_go, goE_someA, opV, ev, putA, layAll, XOA_nil, XA_skip_seq, XA_skip_nil, XOA_gd, goG_tA, goG_uA, binV, binInt, unV, XA_ret_nil, XA_ret_cons, endFA_r, endFA_n, endTA_r, endTA_n, endRA_r, endRA_n, fltR, resultsA, resAs, resA, XA_block, XA_cond, pickX_t, pickX_f, pickX_b, XA_skip_blk, XA_skip_lp, XA_exit_seq, XA_exit_lp, XA_exit_blk, XA_exit_nil, load1, Ev.loadCells, objCells, bodyCells, setCells, AV.flat, AV.flat1, backR, backV, backCell, mapO, AV.cells, AV.atom, AV.tree, fillV, repeatL, treeCell, freezeAll, eqCells, callV_T, callV_F, passN, passV, passCell, srcCells, sliceBounds, hiB, loB, thenQ_nA, thenQ_xA, thenQ_rA, runK_nA, runK_xA, runK_rA, wrap_i64, wrap_u64, wrap_u32, wrap_u8, wrap_u16, AV.atom, normA, lkE, fixObjs, fixBody, fixV, fixCell, rN, hi', hj', hj0, cbu, hw, hd, hdj, e1, e2, e3, ck]
  · intro _
    simp [beqI, bneI, mm_min2, mm_max2, mm_min3, mm_max3, startE, lkE, lkX, lkE_rest, sx, substE, opVA, objs0, List.replicate, XA_seq, XA_region, XOA_go, goE_someA, opV, ev, putA, layAll, XOA_nil, XA_skip_seq, XA_skip_nil, XOA_gd, goG_tA, goG_uA, binV, binInt, unV, XA_ret_nil, XA_ret_cons, endFA_r, endFA_n, endTA_r, endTA_n, endRA_r, endRA_n, fltR, resultsA, resAs, resA, XA_block, XA_cond, pickX_t, pickX_f, pickX_b, XA_skip_blk, XA_skip_lp, XA_exit_seq, XA_exit_lp, XA_exit_blk, XA_exit_nil, load1, Ev.loadCells, objCells, bodyCells, setCells, AV.flat, AV.flat1, backR, backV, backCell, mapO, AV.cells, AV.atom, AV.tree, fillV, repeatL, treeCell, freezeAll, eqCells, callV_T, callV_F, passN, passV, passCell, srcCells, sliceBounds, hiB, loB, thenQ_nA, thenQ_xA, thenQ_rA, runK_nA, runK_xA, runK_rA, wrap_i64, wrap_u64, wrap_u32, wrap_u8, wrap_u16, AV.atom, normA, lkE, fixObjs, fixBody, fixV, fixCell, bestN, rN]
theorem rsource_ev (ds : List Dm) (m : Int) (l : List (List Int)) (i : Int) (hC : okC ds) (hl : okNs l) :
    cvF tab 23 [.agg [.ro ds.length (flatD ds), .int .i64 m], rN l, .int .i64 i] = some (.int .i64 (if goodR ds m l = true ∧ 0 ≤ i ∧ i < l.length then bestN ds m l i (gR l i.toNat) else -1)) := by
  refine cvFA_R (mf := Mf.f23) rfl rfl (by kernel_rfl) ?_
  simp only [Mf.f23]
  have e1 := rrogood_ev ds m l hC hl
  simp only [rN] at e1 ⊢
  cases g : goodR ds m l with
  | false =>
    rw [g] at e1
    simp [beqI, bneI, mm_min2, mm_max2, mm_min3, mm_max3, startE, lkE, lkX, lkE_rest, sx, substE, opVA, objs0, List.replicate, XA_seq, XA_region, XOA_go, goE_someA, opV, ev, putA, layAll, XOA_nil, XA_skip_seq, XA_skip_nil, XOA_gd, goG_tA, goG_uA, binV, binInt, unV, XA_ret_nil, XA_ret_cons, endFA_r, endFA_n, endTA_r, endTA_n, endRA_r, endRA_n, fltR, resultsA, resAs, resA, XA_block, XA_cond, pickX_t, pickX_f, pickX_b, XA_skip_blk, XA_skip_lp, XA_exit_seq, XA_exit_lp, XA_exit_blk, XA_exit_nil, load1, Ev.loadCells, objCells, bodyCells, setCells, AV.flat, AV.flat1, backR, backV, backCell, mapO, AV.cells, AV.atom, AV.tree, fillV, repeatL, treeCell, freezeAll, eqCells, callV_T, callV_F, passN, passV, passCell, srcCells, sliceBounds, hiB, loB, thenQ_nA, thenQ_xA, thenQ_rA, runK_nA, runK_xA, runK_rA, wrap_i64, wrap_u64, wrap_u32, wrap_u8, wrap_u16, e1]
  | true =>
    rw [g] at e1
    have h12 := (goodR_at g).2.2.1
    by_cases c1 : i < 0
    · have c1' : ¬ 0 ≤ i := by omega
      simp [beqI, bneI, mm_min2, mm_max2, mm_min3, mm_max3, startE, lkE, lkX, lkE_rest, sx, substE, opVA, objs0, List.replicate, XA_seq, XA_region, XOA_go, goE_someA, opV, ev, putA, layAll, XOA_nil, XA_skip_seq, XA_skip_nil, XOA_gd, goG_tA, goG_uA, binV, binInt, unV, XA_ret_nil, XA_ret_cons, endFA_r, endFA_n, endTA_r, endTA_n, endRA_r, endRA_n, fltR, resultsA, resAs, resA, XA_block, XA_cond, pickX_t, pickX_f, pickX_b, XA_skip_blk, XA_skip_lp, XA_exit_seq, XA_exit_lp, XA_exit_blk, XA_exit_nil, load1, Ev.loadCells, objCells, bodyCells, setCells, AV.flat, AV.flat1, backR, backV, backCell, mapO, AV.cells, AV.atom, AV.tree, fillV, repeatL, treeCell, freezeAll, eqCells, callV_T, callV_F, passN, passV, passCell, srcCells, sliceBounds, hiB, loB, thenQ_nA, thenQ_xA, thenQ_rA, runK_nA, runK_xA, runK_rA, wrap_i64, wrap_u64, wrap_u32, wrap_u8, wrap_u16, e1, c1, c1']
    · by_cases c2 : i < l.length
      · obtain ⟨k, rfl⟩ := nat_of' (show 0 ≤ i by omega)
        have hk : k < l.length := by omega
        have hd := dropV hl hk
        have e2 := rcheap_ev ds m l k (gR l k) hC hl (hl.at hk) (by omega)
        have c3 : ¬ (l.length : Int) ≤ (k : Int) := by omega
        have c4 : (0 : Int) ≤ (k : Int) := by omega
        rw [if_pos ⟨rfl, c4, c2⟩]
        simp only [Int.toNat_natCast]
        generalize bestN ds m l k (gR l k) = R at *
        obtain ⟨p, q, r, s, hv, _, _, _, _⟩ := four (hl.at hk)
        rw [hv] at hd e2
        simp only [rN, List.map_cons, List.map_nil, List.cons_append, List.nil_append] at hd e2
        simp [beqI, bneI, mm_min2, mm_max2, mm_min3, mm_max3, startE, lkE, lkX, lkE_rest, sx, substE, opVA, objs0, List.replicate, XA_seq, XA_region, XOA_go, goE_someA, opV, ev, putA, layAll, XOA_nil, XA_skip_seq, XA_skip_nil, XOA_gd, goG_tA, goG_uA, binV, binInt, unV, XA_ret_nil, XA_ret_cons, endFA_r, endFA_n, endTA_r, endTA_n, endRA_r, endRA_n, fltR, resultsA, resAs, resA, XA_block, XA_cond, pickX_t, pickX_f, pickX_b, XA_skip_blk, XA_skip_lp, XA_exit_seq, XA_exit_lp, XA_exit_blk, XA_exit_nil, load1, Ev.loadCells, objCells, bodyCells, setCells, AV.flat, AV.flat1, backR, backV, backCell, mapO, AV.cells, AV.atom, AV.tree, fillV, repeatL, treeCell, freezeAll, eqCells, callV_T, callV_F, passN, passV, passCell, srcCells, sliceBounds, hiB, loB, thenQ_nA, thenQ_xA, thenQ_rA, runK_nA, runK_xA, runK_rA, wrap_i64, wrap_u64, wrap_u32, wrap_u8, wrap_u16, e1, c1, c2, c3, c4, hd, e2]
      · have c3 : (l.length : Int) ≤ i := by omega
        simp [beqI, bneI, mm_min2, mm_max2, mm_min3, mm_max3, startE, lkE, lkX, lkE_rest, sx, substE, opVA, objs0, List.replicate, XA_seq, XA_region, XOA_go, goE_someA, opV, ev, putA, layAll, XOA_nil, XA_skip_seq, XA_skip_nil, XOA_gd, goG_tA, goG_uA, binV, binInt, unV, XA_ret_nil, XA_ret_cons, endFA_r, endFA_n, endTA_r, endTA_n, endRA_r, endRA_n, fltR, resultsA, resAs, resA, XA_block, XA_cond, pickX_t, pickX_f, pickX_b, XA_skip_blk, XA_skip_lp, XA_exit_seq, XA_exit_lp, XA_exit_blk, XA_exit_nil, load1, Ev.loadCells, objCells, bodyCells, setCells, AV.flat, AV.flat1, backR, backV, backCell, mapO, AV.cells, AV.atom, AV.tree, fillV, repeatL, treeCell, freezeAll, eqCells, callV_T, callV_F, passN, passV, passCell, srcCells, sliceBounds, hiB, loB, thenQ_nA, thenQ_xA, thenQ_rA, runK_nA, runK_xA, runK_rA, wrap_i64, wrap_u64, wrap_u32, wrap_u8, wrap_u16, e1, c1, c2, c3]
theorem rpick_ev (ds : List Dm) (m : Int) (l : List (List Int)) (need : List Int) (hC : okC ds) (hl : okNs l) (hn : okN need) :
    cvF tab 24 [.agg [.ro ds.length (flatD ds), .int .i64 m], rN l, .agg (need.map (.int .u8))] = some (.int .i64 (if goodR ds m l = true ∧ goodN ds m need = true then bestN ds m l (-1) need else -1)) := by
  refine cvFA_R (mf := Mf.f24) rfl rfl (by kernel_rfl) ?_
  simp only [Mf.f24]
  have e1 := rrogood_ev ds m l hC hl
  have e3 := rGood_ev ds m need hC hn
  cases g : goodR ds m l with
  | false =>
    rw [g] at e1
    simp only [rN] at e1 ⊢
    obtain ⟨p, q, r, s, rfl, _, _, _, _⟩ := four hn
    simp [beqI, bneI, mm_min2, mm_max2, mm_min3, mm_max3, startE, lkE, lkX, lkE_rest, sx, substE, opVA, objs0, List.replicate, XA_seq, XA_region, XOA_go, goE_someA, opV, ev, putA, layAll, XOA_nil, XA_skip_seq, XA_skip_nil, XOA_gd, goG_tA, goG_uA, binV, binInt, unV, XA_ret_nil, XA_ret_cons, endFA_r, endFA_n, endTA_r, endTA_n, endRA_r, endRA_n, fltR, resultsA, resAs, resA, XA_block, XA_cond, pickX_t, pickX_f, pickX_b, XA_skip_blk, XA_skip_lp, XA_exit_seq, XA_exit_lp, XA_exit_blk, XA_exit_nil, load1, Ev.loadCells, objCells, bodyCells, setCells, AV.flat, AV.flat1, backR, backV, backCell, mapO, AV.cells, AV.atom, AV.tree, fillV, repeatL, treeCell, freezeAll, eqCells, callV_T, callV_F, passN, passV, passCell, srcCells, sliceBounds, hiB, loB, thenQ_nA, thenQ_xA, thenQ_rA, runK_nA, runK_xA, runK_rA, wrap_i64, wrap_u64, wrap_u32, wrap_u8, wrap_u16, e1]
  | true =>
    rw [g] at e1
    have e2 := rcheap_ev ds m l (-1) need hC hl hn (by have := (goodR_at g).2.2.1; omega)
    generalize bestN ds m l (-1) need = R at *
    generalize goodN ds m need = F at *
    obtain ⟨p, q, r, s, rfl, _, _, _, _⟩ := four hn
    simp only [rN, List.map_cons, List.map_nil] at e1 e2 e3 ⊢
    cases F <;> simp [beqI, bneI, mm_min2, mm_max2, mm_min3, mm_max3, startE, lkE, lkX, lkE_rest, sx, substE, opVA, objs0, List.replicate, XA_seq, XA_region, XOA_go, goE_someA, opV, ev, putA, layAll, XOA_nil, XA_skip_seq, XA_skip_nil, XOA_gd, goG_tA, goG_uA, binV, binInt, unV, XA_ret_nil, XA_ret_cons, endFA_r, endFA_n, endTA_r, endTA_n, endRA_r, endRA_n, fltR, resultsA, resAs, resA, XA_block, XA_cond, pickX_t, pickX_f, pickX_b, XA_skip_blk, XA_skip_lp, XA_exit_seq, XA_exit_lp, XA_exit_blk, XA_exit_nil, load1, Ev.loadCells, objCells, bodyCells, setCells, AV.flat, AV.flat1, backR, backV, backCell, mapO, AV.cells, AV.atom, AV.tree, fillV, repeatL, treeCell, freezeAll, eqCells, callV_T, callV_F, passN, passV, passCell, srcCells, sliceBounds, hiB, loB, thenQ_nA, thenQ_xA, thenQ_rA, runK_nA, runK_xA, runK_rA, wrap_i64, wrap_u64, wrap_u32, wrap_u8, wrap_u16, e1, e2, e3]
theorem order_len (ds : List Dm) (m : Int) (l : List (List Int)) (hl : okNs l) : (orderN ds m l).length ≤ 12 := by
  unfold orderN
  split
  · rename_i g
    rw [ordB_len (rk l) 21 l.length (rk_in g hl)]
    exact (goodR_at g).2.2.1
  · simp
theorem told_ev (ds : List Dm) (m : Int) (l : List (List Int)) (i : Int) (need : List Int) (hC : okC ds) (hl : okNs l) (hn : okN need) :
    cvF tab 10 [.agg [.ro ds.length (flatD ds), .int .i64 m], rN l, .int .i64 i, .agg (need.map (.int .u8))] = some (.bool true) := by
  refine cvFA_R (mf := Mf.f10) rfl rfl (by kernel_rfl) ?_
  simp only [Mf.f10]
  have e1 := rogood_ev ds m l hC hl
  have e2 := rrogood_ev ds m l hC hl
  have e3 := order_ev ds m l hC hl
  have e4 := rorder_ev ds m l hC hl
  have e5 := ints_same (orderN ds m l) (by have := order_len ds m l hl; omega)
  have e6 := source_ev ds m l i hC hl
  have e7 := rsource_ev ds m l i hC hl
  have e8 := pick_ev ds m l need hC hl hn
  have e9 := rpick_ev ds m l need hC hl hn
  generalize (if goodR ds m l = true ∧ 0 ≤ i ∧ i < l.length then bestN ds m l i (gR l i.toNat) else -1) = X at *
  generalize (if goodR ds m l = true ∧ goodN ds m need = true then bestN ds m l (-1) need else -1) = Y at *
  generalize goodR ds m l = G at *
  generalize orderN ds m l = O at *
  obtain ⟨p, q, r, s, rfl, _, _, _, _⟩ := four hn
  simp only [rN, rNat, List.map_cons, List.map_nil] at *
  simp [beqI, bneI, mm_min2, mm_max2, mm_min3, mm_max3, startE, lkE, lkX, lkE_rest, sx, substE, opVA, objs0, List.replicate, XA_seq, XA_region, XOA_go, goE_someA, opV, ev, putA, layAll, XOA_nil, XA_skip_seq, XA_skip_nil, XOA_gd, goG_tA, goG_uA, binV, binInt, unV, XA_ret_nil, XA_ret_cons, endFA_r, endFA_n, endTA_r, endTA_n, endRA_r, endRA_n, fltR, resultsA, resAs, resA, XA_block, XA_cond, pickX_t, pickX_f, pickX_b, XA_skip_blk, XA_skip_lp, XA_exit_seq, XA_exit_lp, XA_exit_blk, XA_exit_nil, load1, Ev.loadCells, objCells, bodyCells, setCells, AV.flat, AV.flat1, backR, backV, backCell, mapO, AV.cells, AV.atom, AV.tree, fillV, repeatL, treeCell, freezeAll, eqCells, callV_T, callV_F, passN, passV, passCell, srcCells, sliceBounds, hiB, loB, thenQ_nA, thenQ_xA, thenQ_rA, runK_nA, runK_xA, runK_rA, wrap_i64, wrap_u64, wrap_u32, wrap_u8, wrap_u16, rN, e1, e2, e3, e4, e5, e6, e7, e8, e9]
end Go.Proofs.Ytaflkcaebecpfaa
