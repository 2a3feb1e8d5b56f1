/- Nodes that are kept: the document's. -/
import Derived.Test.YtaflkcaebecpfaaRouD
set_option linter.unusedSimpArgs false
set_option linter.unusedVariables false
set_option maxHeartbeats 8000000
set_option maxRecDepth 100000
namespace Go.Proofs.Ytaflkcaebecpfaa
open Go.Ev
theorem mem_snoc {l : List (List Int)} {i : Nat} (z : List Int) (hi : i < l.length) : z ∈ l.take (i + 1) ↔ z ∈ l.take i ∨ gR l i = z := by
  rw [List.take_succ_eq_append_getElem hi, ← gR_get l i hi]
  simp [eq_comm]
theorem rrogood_ev (ds : List Dm) (m : Int) (l : List (List Int)) (hC : okC ds) (hl : okNs l) : cvF tab 11 [.agg [.ro ds.length (flatD ds), .int .i64 m], rN l] = some (.bool (goodR ds m l)) := by
  refine cvFA_R (mf := Mf.f11) rfl rfl (by kernel_rfl) ?_
  simp only [Mf.f11]
  have e1 := rgood_ev ds m hC
  cases g : goodC ds m with
  | false =>
    rw [g] at e1
    simp [beqI, bneI, mm_min2, mm_max2, mm_min3, mm_max3, startE, lkE, lkX, lkE_rest, sx, substE, opVA, objs0, List.replicate, XA_seq, XA_region, XOA_go, goE_someA, opV, ev, putA, layAll, XOA_nil, XA_skip_seq, XA_skip_nil, XOA_gd, goG_tA, goG_uA, binV, binInt, unV, XA_ret_nil, XA_ret_cons, endFA_r, endFA_n, endTA_r, endTA_n, endRA_r, endRA_n, fltR, resultsA, resAs, resA, XA_block, XA_cond, pickX_t, pickX_f, pickX_b, XA_skip_blk, XA_skip_lp, XA_exit_seq, XA_exit_lp, XA_exit_blk, XA_exit_nil, load1, Ev.loadCells, objCells, bodyCells, setCells, AV.flat, AV.flat1, backR, backV, backCell, mapO, AV.cells, AV.atom, AV.tree, fillV, repeatL, treeCell, freezeAll, eqCells, callV_T, callV_F, passN, passV, passCell, srcCells, sliceBounds, hiB, loB, thenQ_nA, thenQ_xA, thenQ_rA, runK_nA, runK_xA, runK_rA, wrap_i64, wrap_u64, wrap_u32, wrap_u8, wrap_u16, e1, goodR, g]
  | true =>
    rw [g] at e1
    by_cases c1 : l.length < 1
    · have c1' : (l.length : Int) < 1 := by omega
      have hx : goodR ds m l = false := by
        have : ¬ 1 ≤ l.length := by omega
        simp [goodR, this]
      simp [beqI, bneI, mm_min2, mm_max2, mm_min3, mm_max3, startE, lkE, lkX, lkE_rest, sx, substE, opVA, objs0, List.replicate, XA_seq, XA_region, XOA_go, goE_someA, opV, ev, putA, layAll, XOA_nil, XA_skip_seq, XA_skip_nil, XOA_gd, goG_tA, goG_uA, binV, binInt, unV, XA_ret_nil, XA_ret_cons, endFA_r, endFA_n, endTA_r, endTA_n, endRA_r, endRA_n, fltR, resultsA, resAs, resA, XA_block, XA_cond, pickX_t, pickX_f, pickX_b, XA_skip_blk, XA_skip_lp, XA_exit_seq, XA_exit_lp, XA_exit_blk, XA_exit_nil, load1, Ev.loadCells, objCells, bodyCells, setCells, AV.flat, AV.flat1, backR, backV, backCell, mapO, AV.cells, AV.atom, AV.tree, fillV, repeatL, treeCell, freezeAll, eqCells, callV_T, callV_F, passN, passV, passCell, srcCells, sliceBounds, hiB, loB, thenQ_nA, thenQ_xA, thenQ_rA, runK_nA, runK_xA, runK_rA, wrap_i64, wrap_u64, wrap_u32, wrap_u8, wrap_u16, e1, rN, c1', hx]
    · have c1' : ¬ (l.length : Int) < 1 := by omega
      by_cases c2 : 12 < l.length
      · have c2' : (12 : Int) < (l.length : Int) := by omega
        have hx : goodR ds m l = false := by
          have : ¬ l.length ≤ 12 := by omega
          simp [goodR, this]
        simp [beqI, bneI, mm_min2, mm_max2, mm_min3, mm_max3, startE, lkE, lkX, lkE_rest, sx, substE, opVA, objs0, List.replicate, XA_seq, XA_region, XOA_go, goE_someA, opV, ev, putA, layAll, XOA_nil, XA_skip_seq, XA_skip_nil, XOA_gd, goG_tA, goG_uA, binV, binInt, unV, XA_ret_nil, XA_ret_cons, endFA_r, endFA_n, endTA_r, endTA_n, endRA_r, endRA_n, fltR, resultsA, resAs, resA, XA_block, XA_cond, pickX_t, pickX_f, pickX_b, XA_skip_blk, XA_skip_lp, XA_exit_seq, XA_exit_lp, XA_exit_blk, XA_exit_nil, load1, Ev.loadCells, objCells, bodyCells, setCells, AV.flat, AV.flat1, backR, backV, backCell, mapO, AV.cells, AV.atom, AV.tree, fillV, repeatL, treeCell, freezeAll, eqCells, callV_T, callV_F, passN, passV, passCell, srcCells, sliceBounds, hiB, loB, thenQ_nA, thenQ_xA, thenQ_rA, runK_nA, runK_xA, runK_rA, wrap_i64, wrap_u64, wrap_u32, wrap_u8, wrap_u16, e1, rN, c1', c2', hx]
      · have c2' : ¬ (12 : Int) < (l.length : Int) := by omega
        simp [beqI, bneI, mm_min2, mm_max2, mm_min3, mm_max3, startE, lkE, lkX, lkE_rest, sx, substE, opVA, objs0, List.replicate, XA_seq, XA_region, XOA_go, goE_someA, opV, ev, putA, layAll, XOA_nil, XA_skip_seq, XA_skip_nil, XOA_gd, goG_tA, goG_uA, binV, binInt, unV, XA_ret_nil, XA_ret_cons, endFA_r, endFA_n, endTA_r, endTA_n, endRA_r, endRA_n, fltR, resultsA, resAs, resA, XA_block, XA_cond, pickX_t, pickX_f, pickX_b, XA_skip_blk, XA_skip_lp, XA_exit_seq, XA_exit_lp, XA_exit_blk, XA_exit_nil, load1, Ev.loadCells, objCells, bodyCells, setCells, AV.flat, AV.flat1, backR, backV, backCell, mapO, AV.cells, AV.atom, AV.tree, fillV, repeatL, treeCell, freezeAll, eqCells, callV_T, callV_F, passN, passV, passCell, srcCells, sliceBounds, hiB, loB, thenQ_nA, thenQ_xA, thenQ_rA, runK_nA, runK_xA, runK_rA, wrap_i64, wrap_u64, wrap_u32, wrap_u8, wrap_u16, e1, rN, c1', c2']
        refine XA_for (fun i => ⟨[(1, rN l), (2, .ptr 0 0 0), (5, .bool (decide (zero4 ∈ l.take i))), (6, .int .i64 i)], [⟨0, .var [.ro ds.length (flatD ds), .int .i64 m]⟩]⟩)
          (fun i => (l.take i).all (goodN ds m) = true ∧ (l.take i).Nodup) l.length 0 (Nat.zero_le _) (by simp [AV.atom, normA, lkE, fixObjs, fixBody, fixV, fixCell, rN]) (by simp) ?_ ?_
        · intro i _ hi hJ
          have hi' : (i : Int) < l.length := by omega
          have hd := dropV hl hi
          have e2 := rGood_ev ds m (gR l i) hC (hl.at hi)
          have hn := nodup_snoc hi
          have ha := all_snoc (goodN ds m) hi
          have hw := wrap_succ i l.length hi (by omega)
          have hz := mem_snoc zero4 hi
          have hzb : decide (zero4 ∈ l.take (i + 1)) = (decide (zero4 ∈ l.take i) || decide (gR l i = zero4)) := by
            rw [decide_eq_decide.2 hz, Bool.decide_or]
          rw [hzb]
          cases g2 : goodN ds m (gR l i) with
          | false =>
            have hx : goodR ds m l = false := by
              have : l.all (goodN ds m) = false := List.all_eq_false.2 ⟨gR l i, gR_mem hi, by simp [g2]⟩
              simp [goodR, this]
            rw [g2] at e2
            obtain ⟨p, q, r, s, hv, _, _, _, _⟩ := four (hl.at hi)
            rw [hv] at hd e2
            simp only [List.map_cons, List.map_nil, List.cons_append, List.nil_append] at hd e2
            generalize decide (zero4 ∈ l.take i) = Z at *
            cases Z <;> simp [beqI, bneI, mm_min2, mm_max2, mm_min3, mm_max3, startE, lkE, lkX, lkE_rest, sx, substE, opVA, objs0, List.replicate, XA_seq, XA_region, XOA_go, goE_someA, opV, ev, putA, layAll, XOA_nil, XA_skip_seq, XA_skip_nil, XOA_gd, goG_tA, goG_uA, binV, binInt, unV, XA_ret_nil, XA_ret_cons, endFA_r, endFA_n, endTA_r, endTA_n, endRA_r, endRA_n, fltR, resultsA, resAs, resA, XA_block, XA_cond, pickX_t, pickX_f, pickX_b, XA_skip_blk, XA_skip_lp, XA_exit_seq, XA_exit_lp, XA_exit_blk, XA_exit_nil, load1, Ev.loadCells, objCells, bodyCells, setCells, AV.flat, AV.flat1, backR, backV, backCell, mapO, AV.cells, AV.atom, AV.tree, fillV, repeatL, treeCell, freezeAll, eqCells, callV_T, callV_F, passN, passV, passCell, srcCells, sliceBounds, hiB, loB, thenQ_nA, thenQ_xA, thenQ_rA, runK_nA, runK_xA, runK_rA, wrap_i64, wrap_u64, wrap_u32, wrap_u8, wrap_u16, AV.atom, normA, lkE, fixObjs, fixBody, fixV, fixCell, rN, hi', hd, e2, hx]
          | true =>
            rw [g2] at e2
            have hJ2 : ¬ gR l i ∈ l.take i → (l.take (i + 1)).all (goodN ds m) = true ∧ (l.take (i + 1)).Nodup := fun hm => ⟨by rw [ha, hJ.1, g2]; rfl, hn.2 ⟨hJ.2, hm⟩⟩
            have hx : gR l i ∈ l.take i → goodR ds m l = false := fun hm => by
              have : ¬ l.Nodup := fun h => (hn.1 (nodup_take h (i + 1))).2 hm
              simp [goodR, this]
            have hzz : decide (gR l i = zero4) = decide (gR l i = [0, 0, 0, 0]) := rfl
            rw [hzz]
            obtain ⟨V, hV⟩ : ∃ V, gR l i = V := ⟨_, rfl⟩
            obtain ⟨p, q, r, s, hv, _, _, _, _⟩ := four (hl.at hi)
            have he := eqN4 p q r s 0 0 0 0
            rw [hv] at hd e2 hV
            simp only [List.map_cons, List.map_nil, List.cons_append, List.nil_append] at hd e2
            rw [hv]
            rw [← he]
            generalize hgo : goodR ds m l = GG at *
            generalize hPP : ((l.take (i + 1)).all (goodN ds m) = true ∧ (l.take (i + 1)).Nodup) = PP at *
            have hP : ∀ k, k < i → gR l k = [p, q, r, s] → GG = false := fun k hk h => hx (by
              rw [hv, ← h]
              have : k < (l.take i).length := by rw [List.length_take]; omega
              have h2 : (l.take i)[k] = gR l k := by rw [List.getElem_take, gR_get l k (by omega)]
              rw [← h2]; exact List.getElem_mem this)
            have hQ : ¬ [p, q, r, s] ∈ l.take i → PP := fun h => hJ2 (by rw [hv]; exact h)
            generalize hZ : (decide (zero4 ∈ l.take i) || (decide (p = 0) && (decide (q = 0) && (decide (r = 0) && decide (s = 0))))) = Z2 at *
            generalize decide (zero4 ∈ l.take i) = Z at *
            cases Z with
            | true =>
              have hZ2 : Z2 = true := by rw [← hZ]; rfl
              subst hZ2
              simp [beqI, bneI, mm_min2, mm_max2, mm_min3, mm_max3, startE, lkE, lkX, lkE_rest, sx, substE, opVA, objs0, List.replicate, XA_seq, XA_region, XOA_go, goE_someA, opV, ev, putA, layAll, XOA_nil, XA_skip_seq, XA_skip_nil, XOA_gd, goG_tA, goG_uA, binV, binInt, unV, XA_ret_nil, XA_ret_cons, endFA_r, endFA_n, endTA_r, endTA_n, endRA_r, endRA_n, fltR, resultsA, resAs, resA, XA_block, XA_cond, pickX_t, pickX_f, pickX_b, XA_skip_blk, XA_skip_lp, XA_exit_seq, XA_exit_lp, XA_exit_blk, XA_exit_nil, load1, Ev.loadCells, objCells, bodyCells, setCells, AV.flat, AV.flat1, backR, backV, backCell, mapO, AV.cells, AV.atom, AV.tree, fillV, repeatL, treeCell, freezeAll, eqCells, callV_T, callV_F, passN, passV, passCell, srcCells, sliceBounds, hiB, loB, thenQ_nA, thenQ_xA, thenQ_rA, runK_nA, runK_xA, runK_rA, wrap_i64, wrap_u64, wrap_u32, wrap_u8, wrap_u16, AV.atom, normA, lkE, fixObjs, fixBody, fixV, fixCell, rN, hi', hd, e2, Bool.true_and]
              refine XA_for (fun k => ⟨[(1, rN l), (2, .ptr 0 0 0), (5, .bool true), (6, .int .i64 i), (7, .int .i64 k)], [⟨0, .var [.ro ds.length (flatD ds), .int .i64 m]⟩]⟩)
                (fun k => ¬ [p, q, r, s] ∈ l.take k) i 0 (Nat.zero_le _) (by simp [AV.atom, normA, lkE, fixObjs, fixBody, fixV, fixCell, rN]) (by simp) ?_ ?_
              · intro k _ hk hK
                have hk' : (k : Int) < (i : Int) := by omega
                have hkl : k < l.length := by omega
                have hkl' : (k : Int) < l.length := by omega
                have hdk := dropV hl hkl
                have hwk := wrap_succ k i hk (by omega)
                have hms := mem_snoc [p, q, r, s] hkl
                have hbad := hP k hk
                obtain ⟨p2, q2, r2, s2, hv2, _, _, _, _⟩ := four (hl.at hkl)
                have he2 := eqN4 p2 q2 r2 s2 p q r s
                rw [hv2] at hdk hms hbad
                simp only [List.map_cons, List.map_nil, List.cons_append, List.nil_append] at hdk
                by_cases hc : [p2, q2, r2, s2] = [p, q, r, s]
                · rw [decide_eq_true hc] at he2
                  have := hbad hc
                  simp [beqI, bneI, mm_min2, mm_max2, mm_min3, mm_max3, startE, lkE, lkX, lkE_rest, sx, substE, opVA, objs0, List.replicate, XA_seq, XA_region, XOA_go, goE_someA, opV, ev, putA, layAll, XOA_nil, XA_skip_seq, XA_skip_nil, XOA_gd, goG_tA, goG_uA, binV, binInt, unV, XA_ret_nil, XA_ret_cons, endFA_r, endFA_n, endTA_r, endTA_n, endRA_r, endRA_n, fltR, resultsA, resAs, resA, XA_block, XA_cond, pickX_t, pickX_f, pickX_b, XA_skip_blk, XA_skip_lp, XA_exit_seq, XA_exit_lp, XA_exit_blk, XA_exit_nil, load1, Ev.loadCells, objCells, bodyCells, setCells, AV.flat, AV.flat1, backR, backV, backCell, mapO, AV.cells, AV.atom, AV.tree, fillV, repeatL, treeCell, freezeAll, eqCells, callV_T, callV_F, passN, passV, passCell, srcCells, sliceBounds, hiB, loB, thenQ_nA, thenQ_xA, thenQ_rA, runK_nA, runK_xA, runK_rA, wrap_i64, wrap_u64, wrap_u32, wrap_u8, wrap_u16, AV.atom, normA, lkE, fixObjs, fixBody, fixV, fixCell, rN, hk', hi', hkl', hd, hdk, he2, this]
                · rw [decide_eq_false hc] at he2
                  have hJK : ¬ [p, q, r, s] ∈ l.take (k + 1) := fun h => (hms.1 h).elim hK hc
                  generalize ([p, q, r, s] ∈ l.take (k + 1)) = KK at *
                  simp [beqI, bneI, mm_min2, mm_max2, mm_min3, mm_max3, startE, lkE, lkX, lkE_rest, sx, substE, opVA, objs0, List.replicate, XA_seq, XA_region, XOA_go, goE_someA, opV, ev, putA, layAll, XOA_nil, XA_skip_seq, XA_skip_nil, XOA_gd, goG_tA, goG_uA, binV, binInt, unV, XA_ret_nil, XA_ret_cons, endFA_r, endFA_n, endTA_r, endTA_n, endRA_r, endRA_n, fltR, resultsA, resAs, resA, XA_block, XA_cond, pickX_t, pickX_f, pickX_b, XA_skip_blk, XA_skip_lp, XA_exit_seq, XA_exit_lp, XA_exit_blk, XA_exit_nil, load1, Ev.loadCells, objCells, bodyCells, setCells, AV.flat, AV.flat1, backR, backV, backCell, mapO, AV.cells, AV.atom, AV.tree, fillV, repeatL, treeCell, freezeAll, eqCells, callV_T, callV_F, passN, passV, passCell, srcCells, sliceBounds, hiB, loB, thenQ_nA, thenQ_xA, thenQ_rA, runK_nA, runK_xA, runK_rA, wrap_i64, wrap_u64, wrap_u32, wrap_u8, wrap_u16, AV.atom, normA, lkE, fixObjs, fixBody, fixV, fixCell, rN, hk', hi', hkl', hd, hdk, he2, hwk, hJK]
              · intro hK
                have hPP2 := hQ hK
                simp [beqI, bneI, mm_min2, mm_max2, mm_min3, mm_max3, startE, lkE, lkX, lkE_rest, sx, substE, opVA, objs0, List.replicate, XA_seq, XA_region, XOA_go, goE_someA, opV, ev, putA, layAll, XOA_nil, XA_skip_seq, XA_skip_nil, XOA_gd, goG_tA, goG_uA, binV, binInt, unV, XA_ret_nil, XA_ret_cons, endFA_r, endFA_n, endTA_r, endTA_n, endRA_r, endRA_n, fltR, resultsA, resAs, resA, XA_block, XA_cond, pickX_t, pickX_f, pickX_b, XA_skip_blk, XA_skip_lp, XA_exit_seq, XA_exit_lp, XA_exit_blk, XA_exit_nil, load1, Ev.loadCells, objCells, bodyCells, setCells, AV.flat, AV.flat1, backR, backV, backCell, mapO, AV.cells, AV.atom, AV.tree, fillV, repeatL, treeCell, freezeAll, eqCells, callV_T, callV_F, passN, passV, passCell, srcCells, sliceBounds, hiB, loB, thenQ_nA, thenQ_xA, thenQ_rA, runK_nA, runK_xA, runK_rA, wrap_i64, wrap_u64, wrap_u32, wrap_u8, wrap_u16, AV.atom, normA, lkE, fixObjs, fixBody, fixV, fixCell, rN, hw, hPP2]
            | false =>
              rw [Bool.false_or] at hZ
              simp [beqI, bneI, mm_min2, mm_max2, mm_min3, mm_max3, startE, lkE, lkX, lkE_rest, sx, substE, opVA, objs0, List.replicate, XA_seq, XA_region, XOA_go, goE_someA, opV, ev, putA, layAll, XOA_nil, XA_skip_seq, XA_skip_nil, XOA_gd, goG_tA, goG_uA, binV, binInt, unV, XA_ret_nil, XA_ret_cons, endFA_r, endFA_n, endTA_r, endTA_n, endRA_r, endRA_n, fltR, resultsA, resAs, resA, XA_block, XA_cond, pickX_t, pickX_f, pickX_b, XA_skip_blk, XA_skip_lp, XA_exit_seq, XA_exit_lp, XA_exit_blk, XA_exit_nil, load1, Ev.loadCells, objCells, bodyCells, setCells, AV.flat, AV.flat1, backR, backV, backCell, mapO, AV.cells, AV.atom, AV.tree, fillV, repeatL, treeCell, freezeAll, eqCells, callV_T, callV_F, passN, passV, passCell, srcCells, sliceBounds, hiB, loB, thenQ_nA, thenQ_xA, thenQ_rA, runK_nA, runK_xA, runK_rA, wrap_i64, wrap_u64, wrap_u32, wrap_u8, wrap_u16, AV.atom, normA, lkE, fixObjs, fixBody, fixV, fixCell, rN, hi', hd, e2, hZ]
              refine XA_for (fun k => ⟨[(1, rN l), (2, .ptr 0 0 0), (5, .bool Z2), (6, .int .i64 i), (7, .int .i64 k)], [⟨0, .var [.ro ds.length (flatD ds), .int .i64 m]⟩]⟩)
                (fun k => ¬ [p, q, r, s] ∈ l.take k) i 0 (Nat.zero_le _) (by simp [AV.atom, normA, lkE, fixObjs, fixBody, fixV, fixCell, rN]) (by simp) ?_ ?_
              · intro k _ hk hK
                have hk' : (k : Int) < (i : Int) := by omega
                have hkl : k < l.length := by omega
                have hkl' : (k : Int) < l.length := by omega
                have hdk := dropV hl hkl
                have hwk := wrap_succ k i hk (by omega)
                have hms := mem_snoc [p, q, r, s] hkl
                have hbad := hP k hk
                obtain ⟨p2, q2, r2, s2, hv2, _, _, _, _⟩ := four (hl.at hkl)
                have he2 := eqN4 p2 q2 r2 s2 p q r s
                rw [hv2] at hdk hms hbad
                simp only [List.map_cons, List.map_nil, List.cons_append, List.nil_append] at hdk
                by_cases hc : [p2, q2, r2, s2] = [p, q, r, s]
                · rw [decide_eq_true hc] at he2
                  have := hbad hc
                  simp [beqI, bneI, mm_min2, mm_max2, mm_min3, mm_max3, startE, lkE, lkX, lkE_rest, sx, substE, opVA, objs0, List.replicate, XA_seq, XA_region, XOA_go, goE_someA, opV, ev, putA, layAll, XOA_nil, XA_skip_seq, XA_skip_nil, XOA_gd, goG_tA, goG_uA, binV, binInt, unV, XA_ret_nil, XA_ret_cons, endFA_r, endFA_n, endTA_r, endTA_n, endRA_r, endRA_n, fltR, resultsA, resAs, resA, XA_block, XA_cond, pickX_t, pickX_f, pickX_b, XA_skip_blk, XA_skip_lp, XA_exit_seq, XA_exit_lp, XA_exit_blk, XA_exit_nil, load1, Ev.loadCells, objCells, bodyCells, setCells, AV.flat, AV.flat1, backR, backV, backCell, mapO, AV.cells, AV.atom, AV.tree, fillV, repeatL, treeCell, freezeAll, eqCells, callV_T, callV_F, passN, passV, passCell, srcCells, sliceBounds, hiB, loB, thenQ_nA, thenQ_xA, thenQ_rA, runK_nA, runK_xA, runK_rA, wrap_i64, wrap_u64, wrap_u32, wrap_u8, wrap_u16, AV.atom, normA, lkE, fixObjs, fixBody, fixV, fixCell, rN, hk', hi', hkl', hd, hdk, he2, this]
                · rw [decide_eq_false hc] at he2
                  have hJK : ¬ [p, q, r, s] ∈ l.take (k + 1) := fun h => (hms.1 h).elim hK hc
                  generalize ([p, q, r, s] ∈ l.take (k + 1)) = KK at *
                  simp [beqI, bneI, mm_min2, mm_max2, mm_min3, mm_max3, startE, lkE, lkX, lkE_rest, sx, substE, opVA, objs0, List.replicate, XA_seq, XA_region, XOA_go, goE_someA, opV, ev, putA, layAll, XOA_nil, XA_skip_seq, XA_skip_nil, XOA_gd, goG_tA, goG_uA, binV, binInt, unV, XA_ret_nil, XA_ret_cons, endFA_r, endFA_n, endTA_r, endTA_n, endRA_r, endRA_n, fltR, resultsA, resAs, resA, XA_block, XA_cond, pickX_t, pickX_f, pickX_b, XA_skip_blk, XA_skip_lp, XA_exit_seq, XA_exit_lp, XA_exit_blk, XA_exit_nil, load1, Ev.loadCells, objCells, bodyCells, setCells, AV.flat, AV.flat1, backR, backV, backCell, mapO, AV.cells, AV.atom, AV.tree, fillV, repeatL, treeCell, freezeAll, eqCells, callV_T, callV_F, passN, passV, passCell, srcCells, sliceBounds, hiB, loB, thenQ_nA, thenQ_xA, thenQ_rA, runK_nA, runK_xA, runK_rA, wrap_i64, wrap_u64, wrap_u32, wrap_u8, wrap_u16, AV.atom, normA, lkE, fixObjs, fixBody, fixV, fixCell, rN, hk', hi', hkl', hd, hdk, he2, hwk, hJK]
              · intro hK
                have hPP2 := hQ hK
                simp [beqI, bneI, mm_min2, mm_max2, mm_min3, mm_max3, startE, lkE, lkX, lkE_rest, sx, substE, opVA, objs0, List.replicate, XA_seq, XA_region, XOA_go, goE_someA, opV, ev, putA, layAll, XOA_nil, XA_skip_seq, XA_skip_nil, XOA_gd, goG_tA, goG_uA, binV, binInt, unV, XA_ret_nil, XA_ret_cons, endFA_r, endFA_n, endTA_r, endTA_n, endRA_r, endRA_n, fltR, resultsA, resAs, resA, XA_block, XA_cond, pickX_t, pickX_f, pickX_b, XA_skip_blk, XA_skip_lp, XA_exit_seq, XA_exit_lp, XA_exit_blk, XA_exit_nil, load1, Ev.loadCells, objCells, bodyCells, setCells, AV.flat, AV.flat1, backR, backV, backCell, mapO, AV.cells, AV.atom, AV.tree, fillV, repeatL, treeCell, freezeAll, eqCells, callV_T, callV_F, passN, passV, passCell, srcCells, sliceBounds, hiB, loB, thenQ_nA, thenQ_xA, thenQ_rA, runK_nA, runK_xA, runK_rA, wrap_i64, wrap_u64, wrap_u32, wrap_u8, wrap_u16, AV.atom, normA, lkE, fixObjs, fixBody, fixV, fixCell, rN, hw, hPP2]
        · intro hJ
          rw [List.take_length] at hJ
          have hx : goodR ds m l = decide (zero4 ∈ l) := by
            have h1 : 1 ≤ l.length := by omega
            have h2 : l.length ≤ 12 := by omega
            unfold goodR
            rw [hJ.1, decide_eq_true hJ.2, decide_eq_true h1, decide_eq_true h2, g]
            simp
          rw [hx, List.take_length]
          generalize decide (zero4 ∈ l) = F at *
          simp [beqI, bneI, mm_min2, mm_max2, mm_min3, mm_max3, startE, lkE, lkX, lkE_rest, sx, substE, opVA, objs0, List.replicate, XA_seq, XA_region, XOA_go, goE_someA, opV, ev, putA, layAll, XOA_nil, XA_skip_seq, XA_skip_nil, XOA_gd, goG_tA, goG_uA, binV, binInt, unV, XA_ret_nil, XA_ret_cons, endFA_r, endFA_n, endTA_r, endTA_n, endRA_r, endRA_n, fltR, resultsA, resAs, resA, XA_block, XA_cond, pickX_t, pickX_f, pickX_b, XA_skip_blk, XA_skip_lp, XA_exit_seq, XA_exit_lp, XA_exit_blk, XA_exit_nil, load1, Ev.loadCells, objCells, bodyCells, setCells, AV.flat, AV.flat1, backR, backV, backCell, mapO, AV.cells, AV.atom, AV.tree, fillV, repeatL, treeCell, freezeAll, eqCells, callV_T, callV_F, passN, passV, passCell, srcCells, sliceBounds, hiB, loB, thenQ_nA, thenQ_xA, thenQ_rA, runK_nA, runK_xA, runK_rA, wrap_i64, wrap_u64, wrap_u32, wrap_u8, wrap_u16, AV.atom, normA, lkE, fixObjs, fixBody, fixV, fixCell, rN]
end Go.Proofs.Ytaflkcaebecpfaa
