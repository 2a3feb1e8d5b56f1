/- What answers, out of which a node is made. -/
import Derived.Test.YtaflkcaebecpfaaRouC
set_option linter.unusedSimpArgs false
set_option linter.unusedVariables false
set_option maxHeartbeats 8000000
set_option maxRecDepth 100000
namespace Go.Proofs.Ytaflkcaebecpfaa
open Go.Ev
/-- The best of the first i. -/
def chB (f : Nat → Int) (ok : Nat → Bool) (but : Int) : Nat → Int
  | 0 => -1
  | i + 1 => if (i : Int) = but ∨ ok i = false then chB f ok but i else if chB f ok but i = -1 ∨ f i < f (chB f ok but i).toNat then (i : Int) else chB f ok but i
theorem chB_in (f : Nat → Int) (ok : Nat → Bool) (but : Int) : ∀ i, -1 ≤ chB f ok but i ∧ chB f ok but i < i
  | 0 => by simp [chB]
  | i + 1 => by
    have := chB_in f ok but i
    simp only [chB]
    split
    · omega
    · split <;> omega
def costAt (ds : List Dm) (m : Int) (l : List (List Int)) (i : Nat) : Int := costC ds m (gR l i)
def okAt (l : List (List Int)) (need : List Int) (i : Nat) : Bool := belowN (gR l i) need
def bestN (ds : List Dm) (m : Int) (l : List (List Int)) (but : Int) (need : List Int) : Int := chB (costAt ds m l) (okAt l need) but l.length
theorem nat_of' {a : Int} (h : 0 ≤ a) : ∃ n : Nat, a = n := ⟨a.toNat, by omega⟩
theorem cheap_ev (ds : List Dm) (m : Int) (l : List (List Int)) (but : Int) (need : List Int) (hC : okC ds) (hl : okNs l) (hn : okN need) (hlen : l.length ≤ 1000) :
    cvF tab 30 [.agg [.ro ds.length (flatD ds), .int .i64 m], rN l, .int .i64 but, .agg (need.map (.int .u8))] = some (.int .i64 (bestN ds m l but need)) := by
  refine cvFA_R (mf := Mf.f30) rfl rfl (by kernel_rfl) ?_
  simp only [Mf.f30]
  obtain ⟨a, b, c, d, rfl, _, _, _, _⟩ := four hn
  simp [beqI, bneI, mm_min2, mm_max2, mm_min3, mm_max3, startE, lkE, lkX, lkE_rest, sx, substE, opVA, objs0, List.replicate, XA_seq, XA_region, XOA_go, goE_someA, opV, ev, putA, layAll, XOA_nil, XA_skip_seq, XA_skip_nil, XOA_gd, goG_tA, goG_uA, binV, binInt, unV, XA_ret_nil, XA_ret_cons, endFA_r, endFA_n, endTA_r, endTA_n, endRA_r, endRA_n, fltR, resultsA, resAs, resA, XA_block, XA_cond, pickX_t, pickX_f, pickX_b, XA_skip_blk, XA_skip_lp, XA_exit_seq, XA_exit_lp, XA_exit_blk, XA_exit_nil, load1, Ev.loadCells, objCells, bodyCells, setCells, AV.flat, AV.flat1, backR, backV, backCell, mapO, AV.cells, AV.atom, AV.tree, fillV, repeatL, treeCell, freezeAll, eqCells, callV_T, callV_F, passN, passV, passCell, srcCells, sliceBounds, hiB, loB, thenQ_nA, thenQ_xA, thenQ_rA, runK_nA, runK_xA, runK_rA, wrap_i64, wrap_u64, wrap_u32, wrap_u8, wrap_u16, rN]
  refine XA_for (fun i => ⟨[(1, rN l), (2, .int .i64 but), (4, .ptr 0 0 0), (7, .ptr 1 0 0), (9, .int .i64 (chB (costAt ds m l) (okAt l [a, b, c, d]) but i)), (12, .int .i64 l.length), (13, .int .i64 i)], [⟨0, .var [.ro ds.length (flatD ds), .int .i64 m]⟩, ⟨0, .var [.int .u8 a, .int .u8 b, .int .u8 c, .int .u8 d]⟩]⟩)
    (fun i => True) l.length 0 (Nat.zero_le _) (by simp [AV.atom, normA, lkE, fixObjs, fixBody, fixV, fixCell, rN, chB]) trivial ?_ ?_
  · intro i _ hi _
    have hi' : (i : Int) < l.length := by omega
    have hd := dropV hl hi
    have hw := wrap_succ i l.length hi (by omega)
    have hin := chB_in (costAt ds m l) (okAt l [a, b, c, d]) but i
    have e1 := below_ev (gR l i) [a, b, c, d] (hl.at hi) hn
    have e2 := cost_ev ds m (gR l i) hC (hl.at hi)
    have hsucc : chB (costAt ds m l) (okAt l [a, b, c, d]) but (i + 1) = if (i : Int) = but ∨ okAt l [a, b, c, d] i = false then chB (costAt ds m l) (okAt l [a, b, c, d]) but i else if chB (costAt ds m l) (okAt l [a, b, c, d]) but i = -1 ∨ costAt ds m l i < costAt ds m l (chB (costAt ds m l) (okAt l [a, b, c, d]) but i).toNat then (i : Int) else chB (costAt ds m l) (okAt l [a, b, c, d]) but i := rfl
    rw [hsucc]
    clear hsucc
    have hok : okAt l [a, b, c, d] i = belowN (gR l i) [a, b, c, d] := rfl
    have hcost : costAt ds m l i = costC ds m (gR l i) := rfl
    generalize hCB : chB (costAt ds m l) (okAt l [a, b, c, d]) but i = cb at *
    rw [hok]
    rw [hcost]
    generalize belowN (gR l i) [a, b, c, d] = F at *
    generalize costC ds m (gR l i) = K at *
    by_cases cbu : (i : Int) = but
    · rw [if_pos (.inl cbu)]
      subst cbu
      simp [beqI, bneI, mm_min2, mm_max2, mm_min3, mm_max3, startE, lkE, lkX, lkE_rest, sx, substE, opVA, objs0, List.replicate, XA_seq, XA_region, XOA_go, goE_someA, opV, ev, putA, layAll, XOA_nil, XA_skip_seq, XA_skip_nil, XOA_gd, goG_tA, goG_uA, binV, binInt, unV, XA_ret_nil, XA_ret_cons, endFA_r, endFA_n, endTA_r, endTA_n, endRA_r, endRA_n, fltR, resultsA, resAs, resA, XA_block, XA_cond, pickX_t, pickX_f, pickX_b, XA_skip_blk, XA_skip_lp, XA_exit_seq, XA_exit_lp, XA_exit_blk, XA_exit_nil, load1, Ev.loadCells, objCells, bodyCells, setCells, AV.flat, AV.flat1, backR, backV, backCell, mapO, AV.cells, AV.atom, AV.tree, fillV, repeatL, treeCell, freezeAll, eqCells, callV_T, callV_F, passN, passV, passCell, srcCells, sliceBounds, hiB, loB, thenQ_nA, thenQ_xA, thenQ_rA, runK_nA, runK_xA, runK_rA, wrap_i64, wrap_u64, wrap_u32, wrap_u8, wrap_u16, AV.atom, normA, lkE, fixObjs, fixBody, fixV, fixCell, rN, hi', hw]
    · cases F with
      | false =>
        rw [if_pos (.inr rfl)]
        obtain ⟨p, q, r, s, hv, _, _, _, _⟩ := four (hl.at hi)
        rw [hv] at hd e1
        simp only [List.map_cons, List.map_nil, List.cons_append, List.nil_append] at hd e1
        simp [beqI, bneI, mm_min2, mm_max2, mm_min3, mm_max3, startE, lkE, lkX, lkE_rest, sx, substE, opVA, objs0, List.replicate, XA_seq, XA_region, XOA_go, goE_someA, opV, ev, putA, layAll, XOA_nil, XA_skip_seq, XA_skip_nil, XOA_gd, goG_tA, goG_uA, binV, binInt, unV, XA_ret_nil, XA_ret_cons, endFA_r, endFA_n, endTA_r, endTA_n, endRA_r, endRA_n, fltR, resultsA, resAs, resA, XA_block, XA_cond, pickX_t, pickX_f, pickX_b, XA_skip_blk, XA_skip_lp, XA_exit_seq, XA_exit_lp, XA_exit_blk, XA_exit_nil, load1, Ev.loadCells, objCells, bodyCells, setCells, AV.flat, AV.flat1, backR, backV, backCell, mapO, AV.cells, AV.atom, AV.tree, fillV, repeatL, treeCell, freezeAll, eqCells, callV_T, callV_F, passN, passV, passCell, srcCells, sliceBounds, hiB, loB, thenQ_nA, thenQ_xA, thenQ_rA, runK_nA, runK_xA, runK_rA, wrap_i64, wrap_u64, wrap_u32, wrap_u8, wrap_u16, AV.atom, normA, lkE, fixObjs, fixBody, fixV, fixCell, rN, hi', cbu, hw, hd, e1]
      | true =>
        rw [if_neg (by simp [cbu])]
        by_cases cb1 : cb = -1
        · rw [if_pos (.inl cb1)]
          obtain ⟨p, q, r, s, hv, _, _, _, _⟩ := four (hl.at hi)
          rw [hv] at hd e1
          simp only [List.map_cons, List.map_nil, List.cons_append, List.nil_append] at hd e1
          simp [beqI, bneI, mm_min2, mm_max2, mm_min3, mm_max3, startE, lkE, lkX, lkE_rest, sx, substE, opVA, objs0, List.replicate, XA_seq, XA_region, XOA_go, goE_someA, opV, ev, putA, layAll, XOA_nil, XA_skip_seq, XA_skip_nil, XOA_gd, goG_tA, goG_uA, binV, binInt, unV, XA_ret_nil, XA_ret_cons, endFA_r, endFA_n, endTA_r, endTA_n, endRA_r, endRA_n, fltR, resultsA, resAs, resA, XA_block, XA_cond, pickX_t, pickX_f, pickX_b, XA_skip_blk, XA_skip_lp, XA_exit_seq, XA_exit_lp, XA_exit_blk, XA_exit_nil, load1, Ev.loadCells, objCells, bodyCells, setCells, AV.flat, AV.flat1, backR, backV, backCell, mapO, AV.cells, AV.atom, AV.tree, fillV, repeatL, treeCell, freezeAll, eqCells, callV_T, callV_F, passN, passV, passCell, srcCells, sliceBounds, hiB, loB, thenQ_nA, thenQ_xA, thenQ_rA, runK_nA, runK_xA, runK_rA, wrap_i64, wrap_u64, wrap_u32, wrap_u8, wrap_u16, AV.atom, normA, lkE, fixObjs, fixBody, fixV, fixCell, rN, hi', cbu, hw, hd, e1, cb1]
        · obtain ⟨j, rfl⟩ := nat_of' (show 0 ≤ cb by omega)
          have hj : j < l.length := by omega
          have hj' : (j : Int) < l.length := by omega
          have hdj := dropV hl hj
          have e3 := cost_ev ds m (gR l j) hC (hl.at hj)
          have hcj : costAt ds m l ((j : Int)).toNat = costC ds m (gR l j) := rfl
          rw [hcj]
          generalize costC ds m (gR l j) = K2 at *
          obtain ⟨p, q, r, s, hv, _, _, _, _⟩ := four (hl.at hi)
          obtain ⟨p2, q2, r2, s2, hv2, _, _, _, _⟩ := four (hl.at hj)
          rw [hv] at hd e1 e2
          rw [hv2] at hdj e3
          simp only [List.map_cons, List.map_nil, List.cons_append, List.nil_append] at hd hdj e1 e2 e3
          by_cases ck : K < K2
          · rw [if_pos (.inr ck)]
            simp [beqI, bneI, mm_min2, mm_max2, mm_min3, mm_max3, startE, lkE, lkX, lkE_rest, sx, substE, opVA, objs0, List.replicate, XA_seq, XA_region, XOA_go, goE_someA, opV, ev, putA, layAll, XOA_nil, XA_skip_seq, XA_skip_nil, XOA_gd, goG_tA, goG_uA, binV, binInt, unV, XA_ret_nil, XA_ret_cons, endFA_r, endFA_n, endTA_r, endTA_n, endRA_r, endRA_n, fltR, resultsA, resAs, resA, XA_block, XA_cond, pickX_t, pickX_f, pickX_b, XA_skip_blk, XA_skip_lp, XA_exit_seq, XA_exit_lp, XA_exit_blk, XA_exit_nil, load1, Ev.loadCells, objCells, bodyCells, setCells, AV.flat, AV.flat1, backR, backV, backCell, mapO, AV.cells, AV.atom, AV.tree, fillV, repeatL, treeCell, freezeAll, eqCells, callV_T, callV_F, passN, passV, passCell, srcCells, sliceBounds, hiB, loB, thenQ_nA, thenQ_xA, thenQ_rA, runK_nA, runK_xA, runK_rA, wrap_i64, wrap_u64, wrap_u32, wrap_u8, wrap_u16, AV.atom, normA, lkE, fixObjs, fixBody, fixV, fixCell, rN, hi', hj', cbu, hw, hd, hdj, e1, e2, e3, cb1, ck]
          · rw [if_neg (by simp [cb1, ck])]
            simp [beqI, bneI, mm_min2, mm_max2, mm_min3, mm_max3, startE, lkE, lkX, lkE_rest, sx, substE, opVA, objs0, List.replicate, XA_seq, XA_region, XOA_go, goE_someA, opV, ev, putA, layAll, XOA_nil, XA_skip_seq, XA_skip_nil, XOA_gd, goG_tA, goG_uA, binV, binInt, unV, XA_ret_nil, XA_ret_cons, endFA_r, endFA_n, endTA_r, endTA_n, endRA_r, endRA_n, fltR, resultsA, resAs, resA, XA_block, XA_cond, pickX_t, pickX_f, pickX_b, XA_skip_blk, XA_skip_lp, XA_exit_seq, XA_exit_lp, XA_exit_blk, XA_exit_nil, load1, Ev.loadCells, objCells, bodyCells, setCells, AV.flat, AV.flat1, backR, backV, backCell, mapO, AV.cells, AV.atom, AV.tree, fillV, repeatL, treeCell, freezeAll, eqCells, callV_T, callV_F, passN, passV, passCell, srcCells, sliceBounds, hiB, loB, thenQ_nA, thenQ_xA, thenQ_rA, runK_nA, runK_xA, runK_rA, wrap_i64, wrap_u64, wrap_u32, wrap_u8, wrap_u16, AV.atom, normA, lkE, fixObjs, fixBody, fixV, fixCell, rN, hi', hj', cbu, hw, hd, hdj, e1, e2, e3, cb1, ck]
  · intro _
    simp [beqI, bneI, mm_min2, mm_max2, mm_min3, mm_max3, startE, lkE, lkX, lkE_rest, sx, substE, opVA, objs0, List.replicate, XA_seq, XA_region, XOA_go, goE_someA, opV, ev, putA, layAll, XOA_nil, XA_skip_seq, XA_skip_nil, XOA_gd, goG_tA, goG_uA, binV, binInt, unV, XA_ret_nil, XA_ret_cons, endFA_r, endFA_n, endTA_r, endTA_n, endRA_r, endRA_n, fltR, resultsA, resAs, resA, XA_block, XA_cond, pickX_t, pickX_f, pickX_b, XA_skip_blk, XA_skip_lp, XA_exit_seq, XA_exit_lp, XA_exit_blk, XA_exit_nil, load1, Ev.loadCells, objCells, bodyCells, setCells, AV.flat, AV.flat1, backR, backV, backCell, mapO, AV.cells, AV.atom, AV.tree, fillV, repeatL, treeCell, freezeAll, eqCells, callV_T, callV_F, passN, passV, passCell, srcCells, sliceBounds, hiB, loB, thenQ_nA, thenQ_xA, thenQ_rA, runK_nA, runK_xA, runK_rA, wrap_i64, wrap_u64, wrap_u32, wrap_u8, wrap_u16, AV.atom, normA, lkE, fixObjs, fixBody, fixV, fixCell, bestN]
theorem source_ev (ds : List Dm) (m : Int) (l : List (List Int)) (i : Int) (hC : okC ds) (hl : okNs l) :
    cvF tab 13 [.agg [.ro ds.length (flatD ds), .int .i64 m], rN l, .int .i64 i] = some (.int .i64 (if goodR ds m l = true ∧ 0 ≤ i ∧ i < l.length then bestN ds m l i (gR l i.toNat) else -1)) := by
  refine cvFA_R (mf := Mf.f13) rfl rfl (by kernel_rfl) ?_
  simp only [Mf.f13]
  have e1 := rogood_ev ds m l hC hl
  simp only [rN] at e1 ⊢
  cases g : goodR ds m l with
  | false =>
    rw [g] at e1
    simp [beqI, bneI, mm_min2, mm_max2, mm_min3, mm_max3, startE, lkE, lkX, lkE_rest, sx, substE, opVA, objs0, List.replicate, XA_seq, XA_region, XOA_go, goE_someA, opV, ev, putA, layAll, XOA_nil, XA_skip_seq, XA_skip_nil, XOA_gd, goG_tA, goG_uA, binV, binInt, unV, XA_ret_nil, XA_ret_cons, endFA_r, endFA_n, endTA_r, endTA_n, endRA_r, endRA_n, fltR, resultsA, resAs, resA, XA_block, XA_cond, pickX_t, pickX_f, pickX_b, XA_skip_blk, XA_skip_lp, XA_exit_seq, XA_exit_lp, XA_exit_blk, XA_exit_nil, load1, Ev.loadCells, objCells, bodyCells, setCells, AV.flat, AV.flat1, backR, backV, backCell, mapO, AV.cells, AV.atom, AV.tree, fillV, repeatL, treeCell, freezeAll, eqCells, callV_T, callV_F, passN, passV, passCell, srcCells, sliceBounds, hiB, loB, thenQ_nA, thenQ_xA, thenQ_rA, runK_nA, runK_xA, runK_rA, wrap_i64, wrap_u64, wrap_u32, wrap_u8, wrap_u16, e1]
  | true =>
    rw [g] at e1
    have h12 := (goodR_at g).2.2.1
    by_cases c1 : i < 0
    · have c1' : ¬ 0 ≤ i := by omega
      simp [beqI, bneI, mm_min2, mm_max2, mm_min3, mm_max3, startE, lkE, lkX, lkE_rest, sx, substE, opVA, objs0, List.replicate, XA_seq, XA_region, XOA_go, goE_someA, opV, ev, putA, layAll, XOA_nil, XA_skip_seq, XA_skip_nil, XOA_gd, goG_tA, goG_uA, binV, binInt, unV, XA_ret_nil, XA_ret_cons, endFA_r, endFA_n, endTA_r, endTA_n, endRA_r, endRA_n, fltR, resultsA, resAs, resA, XA_block, XA_cond, pickX_t, pickX_f, pickX_b, XA_skip_blk, XA_skip_lp, XA_exit_seq, XA_exit_lp, XA_exit_blk, XA_exit_nil, load1, Ev.loadCells, objCells, bodyCells, setCells, AV.flat, AV.flat1, backR, backV, backCell, mapO, AV.cells, AV.atom, AV.tree, fillV, repeatL, treeCell, freezeAll, eqCells, callV_T, callV_F, passN, passV, passCell, srcCells, sliceBounds, hiB, loB, thenQ_nA, thenQ_xA, thenQ_rA, runK_nA, runK_xA, runK_rA, wrap_i64, wrap_u64, wrap_u32, wrap_u8, wrap_u16, e1, c1, c1']
    · by_cases c2 : i < l.length
      · obtain ⟨k, rfl⟩ := nat_of' (show 0 ≤ i by omega)
        have hk : k < l.length := by omega
        have hd := dropV hl hk
        have e2 := cheap_ev ds m l k (gR l k) hC hl (hl.at hk) (by omega)
        have c3 : ¬ (l.length : Int) ≤ (k : Int) := by omega
        have c4 : (0 : Int) ≤ (k : Int) := by omega
        rw [if_pos ⟨rfl, c4, c2⟩]
        simp only [Int.toNat_natCast]
        generalize bestN ds m l k (gR l k) = R at *
        obtain ⟨p, q, r, s, hv, _, _, _, _⟩ := four (hl.at hk)
        rw [hv] at hd e2
        simp only [rN, List.map_cons, List.map_nil, List.cons_append, List.nil_append] at hd e2
        simp [beqI, bneI, mm_min2, mm_max2, mm_min3, mm_max3, startE, lkE, lkX, lkE_rest, sx, substE, opVA, objs0, List.replicate, XA_seq, XA_region, XOA_go, goE_someA, opV, ev, putA, layAll, XOA_nil, XA_skip_seq, XA_skip_nil, XOA_gd, goG_tA, goG_uA, binV, binInt, unV, XA_ret_nil, XA_ret_cons, endFA_r, endFA_n, endTA_r, endTA_n, endRA_r, endRA_n, fltR, resultsA, resAs, resA, XA_block, XA_cond, pickX_t, pickX_f, pickX_b, XA_skip_blk, XA_skip_lp, XA_exit_seq, XA_exit_lp, XA_exit_blk, XA_exit_nil, load1, Ev.loadCells, objCells, bodyCells, setCells, AV.flat, AV.flat1, backR, backV, backCell, mapO, AV.cells, AV.atom, AV.tree, fillV, repeatL, treeCell, freezeAll, eqCells, callV_T, callV_F, passN, passV, passCell, srcCells, sliceBounds, hiB, loB, thenQ_nA, thenQ_xA, thenQ_rA, runK_nA, runK_xA, runK_rA, wrap_i64, wrap_u64, wrap_u32, wrap_u8, wrap_u16, e1, c1, c2, c3, c4, hd, e2]
      · have c3 : (l.length : Int) ≤ i := by omega
        simp [beqI, bneI, mm_min2, mm_max2, mm_min3, mm_max3, startE, lkE, lkX, lkE_rest, sx, substE, opVA, objs0, List.replicate, XA_seq, XA_region, XOA_go, goE_someA, opV, ev, putA, layAll, XOA_nil, XA_skip_seq, XA_skip_nil, XOA_gd, goG_tA, goG_uA, binV, binInt, unV, XA_ret_nil, XA_ret_cons, endFA_r, endFA_n, endTA_r, endTA_n, endRA_r, endRA_n, fltR, resultsA, resAs, resA, XA_block, XA_cond, pickX_t, pickX_f, pickX_b, XA_skip_blk, XA_skip_lp, XA_exit_seq, XA_exit_lp, XA_exit_blk, XA_exit_nil, load1, Ev.loadCells, objCells, bodyCells, setCells, AV.flat, AV.flat1, backR, backV, backCell, mapO, AV.cells, AV.atom, AV.tree, fillV, repeatL, treeCell, freezeAll, eqCells, callV_T, callV_F, passN, passV, passCell, srcCells, sliceBounds, hiB, loB, thenQ_nA, thenQ_xA, thenQ_rA, runK_nA, runK_xA, runK_rA, wrap_i64, wrap_u64, wrap_u32, wrap_u8, wrap_u16, e1, c1, c2, c3]
theorem pick_ev (ds : List Dm) (m : Int) (l : List (List Int)) (need : List Int) (hC : okC ds) (hl : okNs l) (hn : okN need) :
    cvF tab 17 [.agg [.ro ds.length (flatD ds), .int .i64 m], rN l, .agg (need.map (.int .u8))] = some (.int .i64 (if goodR ds m l = true ∧ goodN ds m need = true then bestN ds m l (-1) need else -1)) := by
  refine cvFA_R (mf := Mf.f17) rfl rfl (by kernel_rfl) ?_
  simp only [Mf.f17]
  have e1 := rogood_ev ds m l hC hl
  have e3 := lgood_ev ds m need hC hn
  cases g : goodR ds m l with
  | false =>
    rw [g] at e1
    simp only [rN] at e1 ⊢
    obtain ⟨p, q, r, s, rfl, _, _, _, _⟩ := four hn
    simp [beqI, bneI, mm_min2, mm_max2, mm_min3, mm_max3, startE, lkE, lkX, lkE_rest, sx, substE, opVA, objs0, List.replicate, XA_seq, XA_region, XOA_go, goE_someA, opV, ev, putA, layAll, XOA_nil, XA_skip_seq, XA_skip_nil, XOA_gd, goG_tA, goG_uA, binV, binInt, unV, XA_ret_nil, XA_ret_cons, endFA_r, endFA_n, endTA_r, endTA_n, endRA_r, endRA_n, fltR, resultsA, resAs, resA, XA_block, XA_cond, pickX_t, pickX_f, pickX_b, XA_skip_blk, XA_skip_lp, XA_exit_seq, XA_exit_lp, XA_exit_blk, XA_exit_nil, load1, Ev.loadCells, objCells, bodyCells, setCells, AV.flat, AV.flat1, backR, backV, backCell, mapO, AV.cells, AV.atom, AV.tree, fillV, repeatL, treeCell, freezeAll, eqCells, callV_T, callV_F, passN, passV, passCell, srcCells, sliceBounds, hiB, loB, thenQ_nA, thenQ_xA, thenQ_rA, runK_nA, runK_xA, runK_rA, wrap_i64, wrap_u64, wrap_u32, wrap_u8, wrap_u16, e1]
  | true =>
    rw [g] at e1
    have e2 := cheap_ev ds m l (-1) need hC hl hn (by have := (goodR_at g).2.2.1; omega)
    generalize bestN ds m l (-1) need = R at *
    generalize goodN ds m need = F at *
    obtain ⟨p, q, r, s, rfl, _, _, _, _⟩ := four hn
    simp only [rN, List.map_cons, List.map_nil] at e1 e2 e3 ⊢
    cases F <;> simp [beqI, bneI, mm_min2, mm_max2, mm_min3, mm_max3, startE, lkE, lkX, lkE_rest, sx, substE, opVA, objs0, List.replicate, XA_seq, XA_region, XOA_go, goE_someA, opV, ev, putA, layAll, XOA_nil, XA_skip_seq, XA_skip_nil, XOA_gd, goG_tA, goG_uA, binV, binInt, unV, XA_ret_nil, XA_ret_cons, endFA_r, endFA_n, endTA_r, endTA_n, endRA_r, endRA_n, fltR, resultsA, resAs, resA, XA_block, XA_cond, pickX_t, pickX_f, pickX_b, XA_skip_blk, XA_skip_lp, XA_exit_seq, XA_exit_lp, XA_exit_blk, XA_exit_nil, load1, Ev.loadCells, objCells, bodyCells, setCells, AV.flat, AV.flat1, backR, backV, backCell, mapO, AV.cells, AV.atom, AV.tree, fillV, repeatL, treeCell, freezeAll, eqCells, callV_T, callV_F, passN, passV, passCell, srcCells, sliceBounds, hiB, loB, thenQ_nA, thenQ_xA, thenQ_rA, runK_nA, runK_xA, runK_rA, wrap_i64, wrap_u64, wrap_u32, wrap_u8, wrap_u16, e1, e2, e3]
end Go.Proofs.Ytaflkcaebecpfaa
