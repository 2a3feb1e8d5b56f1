/- Which places lie in one: the document's answer. -/
import Derived.Test.YtafjljlcdfccjaaLiftB
set_option linter.unusedSimpArgs false
set_option linter.unusedVariables false
set_option maxHeartbeats 4000000
set_option maxRecDepth 100000
namespace Go.Proofs.Ytafjljlcdfccjaa
open Go.Ev
theorem fiber_none {ds : List Dm} {m : Int} {t a f : List Int} {n : Nat} (hn : n < ds.length) (h : 200000 < (outF ds t a f n).length * (memF ds t a f n).length) : fiberC ds m t a f = [] := by
  unfold fiberC
  split
  · split
    · rfl
    · rename_i hs
      by_cases e : outF ds t a f ds.length = []
      · exact e
      · have h1 := outF_mono ds t a f (n + 1) ds.length (by omega) e
        rw [show (outF ds t a f (n + 1)).length = (outF ds t a f n).length * (memF ds t a f n).length from withL_len _ _ _] at h1
        omega
  · rfl
theorem rFiber_ev (ds : List Dm) (m : Int) (t a f : List Int) (hC : okC ds) (ht : okN t) (ha : okN a) (hf : okN f) :
    cvT tab 17 [.agg [.ro ds.length (flatD ds), .int .i64 m], .agg (t.map (.int .u8)), .agg (a.map (.int .u8)), .agg (f.map (.int .u8))] = some (rN (fiberC ds m t a f)) := by
  refine cvTA_R (mf := Mf.f17) rfl rfl (by kernel_rfl) ?_
  simp only [Mf.f17]
  have e1 := rright_ev ds m t a hC ht ha
  have e2 := rGood_ev ds m f hC hf
  have e3 := rbelow_ev f t hf ht
  have pf := passN hf
  have pt := passN ht
  have pa := passN ha
  have tf := take4 hf
  have tt := take4 ht
  have ta := take4 ha
  have lf := hf.1
  have lt := ht.1
  have la := ha.1
  cases c1 : rightC ds m t a with
  | false =>
    have hk : fiberC ds m t a f = [] := by simp [fiberC, fibOk, c1]
    rw [c1] at e1
    simp [beqI, bneI, mm_min2, mm_max2, mm_min3, mm_max3, startE, lkE, lkX, lkE_rest, sx, substE, opVA, objs0, List.replicate, XA_seq, XA_region, XOA_go, goE_someA, opV, ev, putA, layAll, XOA_nil, XA_skip_seq, XA_skip_nil, XOA_gd, goG_tA, goG_uA, binV, binInt, unV, XA_ret_nil, XA_ret_cons, endFA_r, endFA_n, endTA_r, endTA_n, endRA_r, endRA_n, fltR, resultsA, resAs, resA, XA_block, XA_cond, pickX_t, pickX_f, pickX_b, XA_skip_blk, XA_skip_lp, XA_exit_seq, XA_exit_lp, XA_exit_blk, XA_exit_nil, load1, Ev.loadCells, objCells, bodyCells, setCells, AV.flat, AV.flat1, backR, backV, backCell, mapO, AV.cells, AV.atom, AV.tree, fillV, repeatL, treeCell, freezeAll, eqCells, callV_T, callV_F, passV, passCell, srcCells, sliceBounds, hiB, loB, thenQ_nA, thenQ_xA, thenQ_rA, runK_nA, runK_xA, runK_rA, wrap_i64, wrap_u64, wrap_u32, wrap_u8, wrap_u16, e1, lt, la, pt, pa, tt, ta, hk, rN, flatN]
  | true =>
    rw [c1] at e1
    cases c2 : goodN ds m f with
    | false =>
      have hk : fiberC ds m t a f = [] := by simp [fiberC, fibOk, c2]
      rw [c2] at e2
      simp [beqI, bneI, mm_min2, mm_max2, mm_min3, mm_max3, startE, lkE, lkX, lkE_rest, sx, substE, opVA, objs0, List.replicate, XA_seq, XA_region, XOA_go, goE_someA, opV, ev, putA, layAll, XOA_nil, XA_skip_seq, XA_skip_nil, XOA_gd, goG_tA, goG_uA, binV, binInt, unV, XA_ret_nil, XA_ret_cons, endFA_r, endFA_n, endTA_r, endTA_n, endRA_r, endRA_n, fltR, resultsA, resAs, resA, XA_block, XA_cond, pickX_t, pickX_f, pickX_b, XA_skip_blk, XA_skip_lp, XA_exit_seq, XA_exit_lp, XA_exit_blk, XA_exit_nil, load1, Ev.loadCells, objCells, bodyCells, setCells, AV.flat, AV.flat1, backR, backV, backCell, mapO, AV.cells, AV.atom, AV.tree, fillV, repeatL, treeCell, freezeAll, eqCells, callV_T, callV_F, passV, passCell, srcCells, sliceBounds, hiB, loB, thenQ_nA, thenQ_xA, thenQ_rA, runK_nA, runK_xA, runK_rA, wrap_i64, wrap_u64, wrap_u32, wrap_u8, wrap_u16, e1, e2, lf, la, lt, pf, pt, pa, tf, tt, ta, hk, rN, flatN]
    | true =>
      rw [c2] at e2
      cases c3 : belowN f t with
      | false =>
        have hk : fiberC ds m t a f = [] := by simp [fiberC, fibOk, c3]
        rw [c3] at e3
        simp [beqI, bneI, mm_min2, mm_max2, mm_min3, mm_max3, startE, lkE, lkX, lkE_rest, sx, substE, opVA, objs0, List.replicate, XA_seq, XA_region, XOA_go, goE_someA, opV, ev, putA, layAll, XOA_nil, XA_skip_seq, XA_skip_nil, XOA_gd, goG_tA, goG_uA, binV, binInt, unV, XA_ret_nil, XA_ret_cons, endFA_r, endFA_n, endTA_r, endTA_n, endRA_r, endRA_n, fltR, resultsA, resAs, resA, XA_block, XA_cond, pickX_t, pickX_f, pickX_b, XA_skip_blk, XA_skip_lp, XA_exit_seq, XA_exit_lp, XA_exit_blk, XA_exit_nil, load1, Ev.loadCells, objCells, bodyCells, setCells, AV.flat, AV.flat1, backR, backV, backCell, mapO, AV.cells, AV.atom, AV.tree, fillV, repeatL, treeCell, freezeAll, eqCells, callV_T, callV_F, passV, passCell, srcCells, sliceBounds, hiB, loB, thenQ_nA, thenQ_xA, thenQ_rA, runK_nA, runK_xA, runK_rA, wrap_i64, wrap_u64, wrap_u32, wrap_u8, wrap_u16, e1, e2, e3, lf, la, lt, pf, pt, pa, tf, tt, ta, hk, rN, flatN]
      | true =>
        rw [c3] at e3
        have g := rightC_good c1
        have hl := goodC_len g
        have hk : fiberC ds m t a f = if (outF ds t a f ds.length).length > 5000 then [] else outF ds t a f ds.length := by simp [fiberC, fibOk, c1, c2, c3]
        have hnone := fun n => fiber_none (ds := ds) (m := m) (t := t) (a := a) (f := f) (n := n)
        simp [beqI, bneI, mm_min2, mm_max2, mm_min3, mm_max3, startE, lkE, lkX, lkE_rest, sx, substE, opVA, objs0, List.replicate, XA_seq, XA_region, XOA_go, goE_someA, opV, ev, putA, layAll, XOA_nil, XA_skip_seq, XA_skip_nil, XOA_gd, goG_tA, goG_uA, binV, binInt, unV, XA_ret_nil, XA_ret_cons, endFA_r, endFA_n, endTA_r, endTA_n, endRA_r, endRA_n, fltR, resultsA, resAs, resA, XA_block, XA_cond, pickX_t, pickX_f, pickX_b, XA_skip_blk, XA_skip_lp, XA_exit_seq, XA_exit_lp, XA_exit_blk, XA_exit_nil, load1, Ev.loadCells, objCells, bodyCells, setCells, AV.flat, AV.flat1, backR, backV, backCell, mapO, AV.cells, AV.atom, AV.tree, fillV, repeatL, treeCell, freezeAll, eqCells, callV_T, callV_F, passV, passCell, srcCells, sliceBounds, hiB, loB, thenQ_nA, thenQ_xA, thenQ_rA, runK_nA, runK_xA, runK_rA, wrap_i64, wrap_u64, wrap_u32, wrap_u8, wrap_u16, e1, e2, e3, lf, la, lt, pf, pt, pa, tf, tt, ta]
        refine XA_for (fun i => ⟨[(4, .ptr 0 0 0), (5, .ptr 1 0 0), (6, .ptr 2 0 0), (7, .ptr 3 0 0), (9, .ro (outF ds t a f i).length (flatN (outF ds t a f i))), (10, .int .i64 i)], [⟨0, .var [.ro ds.length (flatD ds), .int .i64 m]⟩, ⟨0, .var (t.map (.int .u8))⟩, ⟨0, .var (a.map (.int .u8))⟩, ⟨0, .var (f.map (.int .u8))⟩, ⟨0, .none⟩, ⟨0, .none⟩]⟩)
          (fun i => (outF ds t a f i).length ≤ 200000) ds.length 0 (Nat.zero_le _) (by simp [AV.atom, normA, lkE, fixObjs, fixBody, fixV, fixCell, outF, flatN]) (by simp [outF]) ?_ ?_
        · intro i _ hi hJ
          have hi' : (i : Int) < ds.length := by omega
          have hi4 : i < 4 := by omega
          have hi4' : (i : Int) < 4 := by omega
          obtain ⟨hS, hU⟩ := fits_of (hC.at hi)
          have el := refUnder_ev (gD ds i).S (gD ds i).U (gI t i) (gI a i) (gI f i) hS hU
          rw [show underD (gD ds i).S (gD ds i).U (gI t i) (gI a i) (gI f i) = memF ds t a f i from rfl] at el
          simp only [rI, rR] at el
          have bf := hf.at hi4
          have bt := ht.at hi4
          have ba := ha.at hi4
          unfold byte at bf bt ba
          have w1 : IntKind.i64.wrap (gI f i) = gI f i := wrap_i64 (by omega) (by omega)
          have w2 : IntKind.i64.wrap (gI t i) = gI t i := wrap_i64 (by omega) (by omega)
          have w3 : IntKind.i64.wrap (gI a i) = gI a i := wrap_i64 (by omega) (by omega)
          have hml := memF_len ds t a f i
          have hmb := memF_byte ds t a f i
          have h4 := outF_len4 ds t a f i
          have hnx : outF ds t a f (i + 1) = withL (outF ds t a f i) i (memF ds t a f i) := rfl
          have hmulb : (outF ds t a f i).length * (memF ds t a f i).length ≤ 200000 * 40 := Nat.mul_le_mul hJ hml
          have hno := hnone i hi
          have w4 : IntKind.i64.wrap (((outF ds t a f i).length : Int) * ((memF ds t a f i).length : Int)) = (((outF ds t a f i).length * (memF ds t a f i).length : Nat) : Int) := by
            rw [← Int.natCast_mul]
            exact wrap_i64 (by omega) (by omega)
          rw [hnx]
          generalize memF ds t a f i = ms at *
          generalize outF ds t a f i = out at *
          by_cases c5 : 200000 < out.length * ms.length
          · have c5' : (200000 : Int) < ((out.length * ms.length : Nat) : Int) := by omega
            rw [hno c5]
            simp only [Int.natCast_mul] at c5' w4
            simp [beqI, bneI, mm_min2, mm_max2, mm_min3, mm_max3, startE, lkE, lkX, lkE_rest, sx, substE, opVA, objs0, List.replicate, XA_seq, XA_region, XOA_go, goE_someA, opV, ev, putA, layAll, XOA_nil, XA_skip_seq, XA_skip_nil, XOA_gd, goG_tA, goG_uA, binV, binInt, unV, XA_ret_nil, XA_ret_cons, endFA_r, endFA_n, endTA_r, endTA_n, endRA_r, endRA_n, fltR, resultsA, resAs, resA, XA_block, XA_cond, pickX_t, pickX_f, pickX_b, XA_skip_blk, XA_skip_lp, XA_exit_seq, XA_exit_lp, XA_exit_blk, XA_exit_nil, load1, Ev.loadCells, objCells, bodyCells, setCells, AV.flat, AV.flat1, backR, backV, backCell, mapO, AV.cells, AV.atom, AV.tree, fillV, repeatL, treeCell, freezeAll, eqCells, callV_T, callV_F, passV, passCell, srcCells, sliceBounds, hiB, loB, thenQ_nA, thenQ_xA, thenQ_rA, runK_nA, runK_xA, runK_rA, wrap_i64, wrap_u64, wrap_u32, wrap_u8, wrap_u16, AV.atom, normA, lkE, fixObjs, fixBody, fixV, fixCell, hi', hi4', dropD ds i hi, rI, rR, getN hf hi4, getN ht hi4, getN ha hi4, w1, w2, w3, w4, el, c5', rN, flatN]
          · have c5' : ¬ (200000 : Int) < ((out.length * ms.length : Nat) : Int) := by omega
            have hfin4 := withL_len4 h4 i ms
            have hfinl := withL_len out i ms
            have hJ2 : (withL out i ms).length ≤ 200000 := by rw [hfinl]; omega
            simp only [Int.natCast_mul] at c5' w4
            have hwsi := wrap_succ i ds.length hi (by omega)
            rw [eq_true hJ2]
            generalize hfin : withL out i ms = fin at *
            simp [beqI, bneI, mm_min2, mm_max2, mm_min3, mm_max3, startE, lkE, lkX, lkE_rest, sx, substE, opVA, objs0, List.replicate, XA_seq, XA_region, XOA_go, goE_someA, opV, ev, putA, layAll, XOA_nil, XA_skip_seq, XA_skip_nil, XOA_gd, goG_tA, goG_uA, binV, binInt, unV, XA_ret_nil, XA_ret_cons, endFA_r, endFA_n, endTA_r, endTA_n, endRA_r, endRA_n, fltR, resultsA, resAs, resA, XA_block, XA_cond, pickX_t, pickX_f, pickX_b, XA_skip_blk, XA_skip_lp, XA_exit_seq, XA_exit_lp, XA_exit_blk, XA_exit_nil, load1, Ev.loadCells, objCells, bodyCells, setCells, AV.flat, AV.flat1, backR, backV, backCell, mapO, AV.cells, AV.atom, AV.tree, fillV, repeatL, treeCell, freezeAll, eqCells, callV_T, callV_F, passV, passCell, srcCells, sliceBounds, hiB, loB, thenQ_nA, thenQ_xA, thenQ_rA, runK_nA, runK_xA, runK_rA, wrap_i64, wrap_u64, wrap_u32, wrap_u8, wrap_u16, AV.atom, normA, lkE, fixObjs, fixBody, fixV, fixCell, hi', hi4', dropD ds i hi, rI, rR, getN hf hi4, getN ht hi4, getN ha hi4, w1, w2, w3, w4, el, c5']
            refine XA_for (fun k => ⟨[(4, .ptr 0 0 0), (5, .ptr 1 0 0), (6, .ptr 2 0 0), (7, .ptr 3 0 0), (9, .ro out.length (flatN out)), (10, .int .i64 i), (11, .ro ms.length (ms.map (.int .i64))), (12, .own 4 0 0 (k * ms.length) 4), (13, .int .i64 k)], [⟨0, .var [.ro ds.length (flatD ds), .int .i64 m]⟩, ⟨0, .var (t.map (.int .u8))⟩, ⟨0, .var (a.map (.int .u8))⟩, ⟨0, .var (f.map (.int .u8))⟩, ⟨0, .row true 4 (flatN (withL (out.take k) i ms))⟩, ⟨0, .none⟩]⟩)
              (fun _ => True) out.length 0 (Nat.zero_le _) (by simp [AV.atom, normA, lkE, fixObjs, fixBody, fixV, fixCell, withL, flatN]) trivial ?_ ?_
            · intro k _ hk _
              have hk' : (k : Int) < out.length := by omega
              have hdr := dropN h4 hk
              have hx4 := h4 _ (gR_mem hk)
              have hsucc : withL (out.take (k + 1)) i ms = withL (out.take k) i ms ++ ms.map fun x => (gR out k).set i x := by
                unfold withL
                rw [List.take_succ_eq_append_getElem hk, List.flatMap_append, gR_get _ _ hk]
                simp
              have hbase4 := withL_len4 (l := out.take k) (fun v hv => h4 v (List.mem_of_mem_take hv)) i ms
              have hbl := withL_len (out.take k) i ms
              have hlt : (out.take k).length = k := by rw [List.length_take]; omega
              rw [hsucc]
              rw [hlt] at hbl
              generalize withL (out.take k) i ms = base at *
              generalize gR out k = v at *
              have hbb : k * ms.length ≤ 200000 * 40 := Nat.mul_le_mul (by omega) hml
              have hws := wrap_succ k out.length hk (by omega)
              obtain ⟨x0, x1, x2, x3, hv⟩ : ∃ a b c d, v = [a, b, c, d] := ⟨_, _, _, _, list4 hx4⟩
              subst hv
              simp [gI] at hdr
              simp [beqI, bneI, mm_min2, mm_max2, mm_min3, mm_max3, startE, lkE, lkX, lkE_rest, sx, substE, opVA, objs0, List.replicate, XA_seq, XA_region, XOA_go, goE_someA, opV, ev, putA, layAll, XOA_nil, XA_skip_seq, XA_skip_nil, XOA_gd, goG_tA, goG_uA, binV, binInt, unV, XA_ret_nil, XA_ret_cons, endFA_r, endFA_n, endTA_r, endTA_n, endRA_r, endRA_n, fltR, resultsA, resAs, resA, XA_block, XA_cond, pickX_t, pickX_f, pickX_b, XA_skip_blk, XA_skip_lp, XA_exit_seq, XA_exit_lp, XA_exit_blk, XA_exit_nil, load1, Ev.loadCells, objCells, bodyCells, setCells, AV.flat, AV.flat1, backR, backV, backCell, mapO, AV.cells, AV.atom, AV.tree, fillV, repeatL, treeCell, freezeAll, eqCells, callV_T, callV_F, passV, passCell, srcCells, sliceBounds, hiB, loB, thenQ_nA, thenQ_xA, thenQ_rA, runK_nA, runK_xA, runK_rA, wrap_i64, wrap_u64, wrap_u32, wrap_u8, wrap_u16, AV.atom, normA, lkE, fixObjs, fixBody, fixV, fixCell, hk']
              refine XA_for (fun j => ⟨[(4, .ptr 0 0 0), (5, .ptr 1 0 0), (6, .ptr 2 0 0), (7, .ptr 3 0 0), (9, .ro out.length (flatN out)), (10, .int .i64 i), (11, .ro ms.length (ms.map (.int .i64))), (12, .own 4 0 0 (k * ms.length + j) 4), (13, .int .i64 k), (14, .int .i64 j)], [⟨0, .var [.ro ds.length (flatD ds), .int .i64 m]⟩, ⟨0, .var (t.map (.int .u8))⟩, ⟨0, .var (a.map (.int .u8))⟩, ⟨0, .var (f.map (.int .u8))⟩, ⟨0, .row true 4 (flatN (base ++ (ms.take j).map fun x => [x0, x1, x2, x3].set i x))⟩, ⟨0, .none⟩]⟩)
                (fun _ => True) ms.length 0 (Nat.zero_le _) (by simp [AV.atom, normA, lkE, fixObjs, fixBody, fixV, fixCell]) trivial ?_ ?_
              · intro j _ hj _
                have hj' : (j : Int) < ms.length := by omega
                have hb := hmb _ (List.getElem_mem hj)
                unfold byte at hb
                have hw : IntKind.u8.wrap (ms[j]) = ms[j] := wrap_u8 (by omega) (by omega)
                have hfl : (flatN (base ++ (ms.take j).map fun x => [x0, x1, x2, x3].set i x)).length = (k * ms.length + j) * 4 := by
                  rw [flatN_len]
                  · simp [hbl, Nat.min_eq_left (Nat.le_of_lt hj)]
                  · intro w hw
                    rcases List.mem_append.1 hw with hw | hw
                    · exact hbase4 w hw
                    · obtain ⟨x, _, rfl⟩ := List.mem_map.1 hw
                      rw [List.length_set]; rfl
                have happ : flatN (base ++ (ms.take (j + 1)).map fun x => [x0, x1, x2, x3].set i x) = flatN (base ++ (ms.take j).map fun x => [x0, x1, x2, x3].set i x) ++ ([x0, x1, x2, x3].set i (ms[j])).map (.int .u8) := by
                  rw [List.take_succ_eq_append_getElem hj, List.map_append, ← List.append_assoc, flatN_append]
                  simp [flatN]
                have q1 : (k * ms.length + j + 1) * 4 ≤ 140737488355328 := by omega
                have q2 : k * ms.length + j + 1 < 4611686018427387904 := by omega
                have hwsj := wrap_succ j ms.length hj (by omega)
                have hij := idxI ms j hj
                have h0123 : i = 0 ∨ i = 1 ∨ i = 2 ∨ i = 3 := by omega
                rw [happ]
                generalize flatN (base ++ (ms.take j).map fun x => [x0, x1, x2, x3].set i x) = cs at *
                have hsum : k * ms.length + j + 1 = k * ms.length + (j + 1) := by omega
                rcases h0123 with rfl | rfl | rfl | rfl
                · simp [beqI, bneI, mm_min2, mm_max2, mm_min3, mm_max3, startE, lkE, lkX, lkE_rest, sx, substE, opVA, objs0, List.replicate, XA_seq, XA_region, XOA_go, goE_someA, opV, ev, putA, layAll, XOA_nil, XA_skip_seq, XA_skip_nil, XOA_gd, goG_tA, goG_uA, binV, binInt, unV, XA_ret_nil, XA_ret_cons, endFA_r, endFA_n, endTA_r, endTA_n, endRA_r, endRA_n, fltR, resultsA, resAs, resA, XA_block, XA_cond, pickX_t, pickX_f, pickX_b, XA_skip_blk, XA_skip_lp, XA_exit_seq, XA_exit_lp, XA_exit_blk, XA_exit_nil, load1, Ev.loadCells, objCells, bodyCells, setCells, AV.flat, AV.flat1, backR, backV, backCell, mapO, AV.cells, AV.atom, AV.tree, fillV, repeatL, treeCell, freezeAll, eqCells, callV_T, callV_F, passV, passCell, srcCells, sliceBounds, hiB, loB, thenQ_nA, thenQ_xA, thenQ_rA, runK_nA, runK_xA, runK_rA, wrap_i64, wrap_u64, wrap_u32, wrap_u8, wrap_u16, AV.atom, normA, lkE, fixObjs, fixBody, fixV, fixCell, hj', hij, hw, hk', hdr, hfl, q1, q2, hwsj]
                  exact hsum
                · simp [beqI, bneI, mm_min2, mm_max2, mm_min3, mm_max3, startE, lkE, lkX, lkE_rest, sx, substE, opVA, objs0, List.replicate, XA_seq, XA_region, XOA_go, goE_someA, opV, ev, putA, layAll, XOA_nil, XA_skip_seq, XA_skip_nil, XOA_gd, goG_tA, goG_uA, binV, binInt, unV, XA_ret_nil, XA_ret_cons, endFA_r, endFA_n, endTA_r, endTA_n, endRA_r, endRA_n, fltR, resultsA, resAs, resA, XA_block, XA_cond, pickX_t, pickX_f, pickX_b, XA_skip_blk, XA_skip_lp, XA_exit_seq, XA_exit_lp, XA_exit_blk, XA_exit_nil, load1, Ev.loadCells, objCells, bodyCells, setCells, AV.flat, AV.flat1, backR, backV, backCell, mapO, AV.cells, AV.atom, AV.tree, fillV, repeatL, treeCell, freezeAll, eqCells, callV_T, callV_F, passV, passCell, srcCells, sliceBounds, hiB, loB, thenQ_nA, thenQ_xA, thenQ_rA, runK_nA, runK_xA, runK_rA, wrap_i64, wrap_u64, wrap_u32, wrap_u8, wrap_u16, AV.atom, normA, lkE, fixObjs, fixBody, fixV, fixCell, hj', hij, hw, hk', hdr, hfl, q1, q2, hwsj]
                  exact hsum
                · simp [beqI, bneI, mm_min2, mm_max2, mm_min3, mm_max3, startE, lkE, lkX, lkE_rest, sx, substE, opVA, objs0, List.replicate, XA_seq, XA_region, XOA_go, goE_someA, opV, ev, putA, layAll, XOA_nil, XA_skip_seq, XA_skip_nil, XOA_gd, goG_tA, goG_uA, binV, binInt, unV, XA_ret_nil, XA_ret_cons, endFA_r, endFA_n, endTA_r, endTA_n, endRA_r, endRA_n, fltR, resultsA, resAs, resA, XA_block, XA_cond, pickX_t, pickX_f, pickX_b, XA_skip_blk, XA_skip_lp, XA_exit_seq, XA_exit_lp, XA_exit_blk, XA_exit_nil, load1, Ev.loadCells, objCells, bodyCells, setCells, AV.flat, AV.flat1, backR, backV, backCell, mapO, AV.cells, AV.atom, AV.tree, fillV, repeatL, treeCell, freezeAll, eqCells, callV_T, callV_F, passV, passCell, srcCells, sliceBounds, hiB, loB, thenQ_nA, thenQ_xA, thenQ_rA, runK_nA, runK_xA, runK_rA, wrap_i64, wrap_u64, wrap_u32, wrap_u8, wrap_u16, AV.atom, normA, lkE, fixObjs, fixBody, fixV, fixCell, hj', hij, hw, hk', hdr, hfl, q1, q2, hwsj]
                  exact hsum
                · simp [beqI, bneI, mm_min2, mm_max2, mm_min3, mm_max3, startE, lkE, lkX, lkE_rest, sx, substE, opVA, objs0, List.replicate, XA_seq, XA_region, XOA_go, goE_someA, opV, ev, putA, layAll, XOA_nil, XA_skip_seq, XA_skip_nil, XOA_gd, goG_tA, goG_uA, binV, binInt, unV, XA_ret_nil, XA_ret_cons, endFA_r, endFA_n, endTA_r, endTA_n, endRA_r, endRA_n, fltR, resultsA, resAs, resA, XA_block, XA_cond, pickX_t, pickX_f, pickX_b, XA_skip_blk, XA_skip_lp, XA_exit_seq, XA_exit_lp, XA_exit_blk, XA_exit_nil, load1, Ev.loadCells, objCells, bodyCells, setCells, AV.flat, AV.flat1, backR, backV, backCell, mapO, AV.cells, AV.atom, AV.tree, fillV, repeatL, treeCell, freezeAll, eqCells, callV_T, callV_F, passV, passCell, srcCells, sliceBounds, hiB, loB, thenQ_nA, thenQ_xA, thenQ_rA, runK_nA, runK_xA, runK_rA, wrap_i64, wrap_u64, wrap_u32, wrap_u8, wrap_u16, AV.atom, normA, lkE, fixObjs, fixBody, fixV, fixCell, hj', hij, hw, hk', hdr, hfl, q1, q2, hwsj]
                  exact hsum
              · intro _
                rw [List.take_length]
                have hmul : k * ms.length + ms.length = (k + 1) * ms.length := by rw [Nat.succ_mul]
                simp [beqI, bneI, mm_min2, mm_max2, mm_min3, mm_max3, startE, lkE, lkX, lkE_rest, sx, substE, opVA, objs0, List.replicate, XA_seq, XA_region, XOA_go, goE_someA, opV, ev, putA, layAll, XOA_nil, XA_skip_seq, XA_skip_nil, XOA_gd, goG_tA, goG_uA, binV, binInt, unV, XA_ret_nil, XA_ret_cons, endFA_r, endFA_n, endTA_r, endTA_n, endRA_r, endRA_n, fltR, resultsA, resAs, resA, XA_block, XA_cond, pickX_t, pickX_f, pickX_b, XA_skip_blk, XA_skip_lp, XA_exit_seq, XA_exit_lp, XA_exit_blk, XA_exit_nil, load1, Ev.loadCells, objCells, bodyCells, setCells, AV.flat, AV.flat1, backR, backV, backCell, mapO, AV.cells, AV.atom, AV.tree, fillV, repeatL, treeCell, freezeAll, eqCells, callV_T, callV_F, passV, passCell, srcCells, sliceBounds, hiB, loB, thenQ_nA, thenQ_xA, thenQ_rA, runK_nA, runK_xA, runK_rA, wrap_i64, wrap_u64, wrap_u32, wrap_u8, wrap_u16, AV.atom, normA, lkE, fixObjs, fixBody, fixV, fixCell, hmul, hws]
            · intro _
              rw [List.take_length, hfin, ← hfinl]
              have hfl := flatN_len hfin4
              simp [beqI, bneI, mm_min2, mm_max2, mm_min3, mm_max3, startE, lkE, lkX, lkE_rest, sx, substE, opVA, objs0, List.replicate, XA_seq, XA_region, XOA_go, goE_someA, opV, ev, putA, layAll, XOA_nil, XA_skip_seq, XA_skip_nil, XOA_gd, goG_tA, goG_uA, binV, binInt, unV, XA_ret_nil, XA_ret_cons, endFA_r, endFA_n, endTA_r, endTA_n, endRA_r, endRA_n, fltR, resultsA, resAs, resA, XA_block, XA_cond, pickX_t, pickX_f, pickX_b, XA_skip_blk, XA_skip_lp, XA_exit_seq, XA_exit_lp, XA_exit_blk, XA_exit_nil, load1, Ev.loadCells, objCells, bodyCells, setCells, AV.flat, AV.flat1, backR, backV, backCell, mapO, AV.cells, AV.atom, AV.tree, fillV, repeatL, treeCell, freezeAll, eqCells, callV_T, callV_F, passV, passCell, srcCells, sliceBounds, hiB, loB, thenQ_nA, thenQ_xA, thenQ_rA, runK_nA, runK_xA, runK_rA, wrap_i64, wrap_u64, wrap_u32, wrap_u8, wrap_u16, AV.atom, normA, lkE, fixObjs, fixBody, fixV, fixCell, hfl, List.take_of_length_le, hwsi]
        · intro hJ
          rw [hk]
          by_cases c5 : 5000 < (outF ds t a f ds.length).length
          · have c5' : (5000 : Int) < ((outF ds t a f ds.length).length : Int) := by omega
            simp [beqI, bneI, mm_min2, mm_max2, mm_min3, mm_max3, startE, lkE, lkX, lkE_rest, sx, substE, opVA, objs0, List.replicate, XA_seq, XA_region, XOA_go, goE_someA, opV, ev, putA, layAll, XOA_nil, XA_skip_seq, XA_skip_nil, XOA_gd, goG_tA, goG_uA, binV, binInt, unV, XA_ret_nil, XA_ret_cons, endFA_r, endFA_n, endTA_r, endTA_n, endRA_r, endRA_n, fltR, resultsA, resAs, resA, XA_block, XA_cond, pickX_t, pickX_f, pickX_b, XA_skip_blk, XA_skip_lp, XA_exit_seq, XA_exit_lp, XA_exit_blk, XA_exit_nil, load1, Ev.loadCells, objCells, bodyCells, setCells, AV.flat, AV.flat1, backR, backV, backCell, mapO, AV.cells, AV.atom, AV.tree, fillV, repeatL, treeCell, freezeAll, eqCells, callV_T, callV_F, passV, passCell, srcCells, sliceBounds, hiB, loB, thenQ_nA, thenQ_xA, thenQ_rA, runK_nA, runK_xA, runK_rA, wrap_i64, wrap_u64, wrap_u32, wrap_u8, wrap_u16, AV.atom, normA, lkE, fixObjs, fixBody, fixV, fixCell, c5, c5', rN, flatN]
          · have c5' : ¬ (5000 : Int) < ((outF ds t a f ds.length).length : Int) := by omega
            simp [beqI, bneI, mm_min2, mm_max2, mm_min3, mm_max3, startE, lkE, lkX, lkE_rest, sx, substE, opVA, objs0, List.replicate, XA_seq, XA_region, XOA_go, goE_someA, opV, ev, putA, layAll, XOA_nil, XA_skip_seq, XA_skip_nil, XOA_gd, goG_tA, goG_uA, binV, binInt, unV, XA_ret_nil, XA_ret_cons, endFA_r, endFA_n, endTA_r, endTA_n, endRA_r, endRA_n, fltR, resultsA, resAs, resA, XA_block, XA_cond, pickX_t, pickX_f, pickX_b, XA_skip_blk, XA_skip_lp, XA_exit_seq, XA_exit_lp, XA_exit_blk, XA_exit_nil, load1, Ev.loadCells, objCells, bodyCells, setCells, AV.flat, AV.flat1, backR, backV, backCell, mapO, AV.cells, AV.atom, AV.tree, fillV, repeatL, treeCell, freezeAll, eqCells, callV_T, callV_F, passV, passCell, srcCells, sliceBounds, hiB, loB, thenQ_nA, thenQ_xA, thenQ_rA, runK_nA, runK_xA, runK_rA, wrap_i64, wrap_u64, wrap_u32, wrap_u8, wrap_u16, AV.atom, normA, lkE, fixObjs, fixBody, fixV, fixCell, c5, c5', rN]
theorem coords_ev (a b : List (List Int)) (ha : ∀ v ∈ a, v.length = 4) (hb : ∀ v ∈ b, v.length = 4) (hl : a.length ≤ 9223372036854775807) : cvF tab 15 [rN a, rN b] = some (.bool (decide (a = b))) := by
  refine cvFA_R (mf := Mf.f15) rfl rfl (by kernel_rfl) ?_
  simp only [Mf.f15]
  by_cases hle : a.length = b.length
  · have hle' : (a.length : Int) = (b.length : Int) := by omega
    simp [beqI, bneI, mm_min2, mm_max2, mm_min3, mm_max3, startE, lkE, lkX, lkE_rest, sx, substE, opVA, objs0, List.replicate, XA_seq, XA_region, XOA_go, goE_someA, opV, ev, putA, layAll, XOA_nil, XA_skip_seq, XA_skip_nil, XOA_gd, goG_tA, goG_uA, binV, binInt, unV, XA_ret_nil, XA_ret_cons, endFA_r, endFA_n, endTA_r, endTA_n, endRA_r, endRA_n, fltR, resultsA, resAs, resA, XA_block, XA_cond, pickX_t, pickX_f, pickX_b, XA_skip_blk, XA_skip_lp, XA_exit_seq, XA_exit_lp, XA_exit_blk, XA_exit_nil, load1, Ev.loadCells, objCells, bodyCells, setCells, AV.flat, AV.flat1, backR, backV, backCell, mapO, AV.cells, AV.atom, AV.tree, fillV, repeatL, treeCell, freezeAll, eqCells, callV_T, callV_F, passV, passCell, srcCells, sliceBounds, hiB, loB, thenQ_nA, thenQ_xA, thenQ_rA, runK_nA, runK_xA, runK_rA, wrap_i64, wrap_u64, wrap_u32, wrap_u8, wrap_u16, rN, hle']
    refine XA_for (fun i => ⟨[(0, .ro a.length (flatN a)), (1, .ro b.length (flatN b)), (5, .int .i64 i)], []⟩)
      (fun i => a.take i = b.take i) a.length 0 (Nat.zero_le _) (by simp [AV.atom, normA, lkE, fixObjs, fixBody, fixV, fixCell]) (by simp) ?_ ?_
    · intro i _ hi hJ
      have hbi : i < b.length := by omega
      have hi' : (i : Int) < a.length := by omega
      have hb' : (i : Int) < b.length := by omega
      have d1 := dropN ha hi
      have d2 := dropN hb hbi
      have l1 := list4 (ha _ (gR_mem hi))
      have l2 := list4 (hb _ (gR_mem hbi))
      have hws := wrap_succ i a.length hi hl
      by_cases he : gR a i = gR b i
      · have ht : a.take (i + 1) = b.take (i + 1) := by
          rw [List.take_succ_eq_append_getElem hi, List.take_succ_eq_append_getElem hbi, hJ, ← gR_get _ _ hi, ← gR_get _ _ hbi, he]
        rw [← he] at d2
        simp [beqI, bneI, mm_min2, mm_max2, mm_min3, mm_max3, startE, lkE, lkX, lkE_rest, sx, substE, opVA, objs0, List.replicate, XA_seq, XA_region, XOA_go, goE_someA, opV, ev, putA, layAll, XOA_nil, XA_skip_seq, XA_skip_nil, XOA_gd, goG_tA, goG_uA, binV, binInt, unV, XA_ret_nil, XA_ret_cons, endFA_r, endFA_n, endTA_r, endTA_n, endRA_r, endRA_n, fltR, resultsA, resAs, resA, XA_block, XA_cond, pickX_t, pickX_f, pickX_b, XA_skip_blk, XA_skip_lp, XA_exit_seq, XA_exit_lp, XA_exit_blk, XA_exit_nil, load1, Ev.loadCells, objCells, bodyCells, setCells, AV.flat, AV.flat1, backR, backV, backCell, mapO, AV.cells, AV.atom, AV.tree, fillV, repeatL, treeCell, freezeAll, eqCells, callV_T, callV_F, passV, passCell, srcCells, sliceBounds, hiB, loB, thenQ_nA, thenQ_xA, thenQ_rA, runK_nA, runK_xA, runK_rA, wrap_i64, wrap_u64, wrap_u32, wrap_u8, wrap_u16, AV.atom, normA, lkE, fixObjs, fixBody, fixV, fixCell, hi', hb', d1, d2, hws]
        exact ht
      · have hne : ¬ a = b := fun e => he (by subst e; rfl)
        have hcmp : (decide (gI (gR a i) 0 = gI (gR b i) 0) && (decide (gI (gR a i) 1 = gI (gR b i) 1) && (decide (gI (gR a i) 2 = gI (gR b i) 2) && decide (gI (gR a i) 3 = gI (gR b i) 3)))) = false := by
          rw [Bool.eq_false_iff]
          intro h
          simp only [Bool.and_eq_true, decide_eq_true_eq] at h
          exact he (by rw [l1, l2, h.1, h.2.1, h.2.2.1, h.2.2.2])
        simp [beqI, bneI, mm_min2, mm_max2, mm_min3, mm_max3, startE, lkE, lkX, lkE_rest, sx, substE, opVA, objs0, List.replicate, XA_seq, XA_region, XOA_go, goE_someA, opV, ev, putA, layAll, XOA_nil, XA_skip_seq, XA_skip_nil, XOA_gd, goG_tA, goG_uA, binV, binInt, unV, XA_ret_nil, XA_ret_cons, endFA_r, endFA_n, endTA_r, endTA_n, endRA_r, endRA_n, fltR, resultsA, resAs, resA, XA_block, XA_cond, pickX_t, pickX_f, pickX_b, XA_skip_blk, XA_skip_lp, XA_exit_seq, XA_exit_lp, XA_exit_blk, XA_exit_nil, load1, Ev.loadCells, objCells, bodyCells, setCells, AV.flat, AV.flat1, backR, backV, backCell, mapO, AV.cells, AV.atom, AV.tree, fillV, repeatL, treeCell, freezeAll, eqCells, callV_T, callV_F, passV, passCell, srcCells, sliceBounds, hiB, loB, thenQ_nA, thenQ_xA, thenQ_rA, runK_nA, runK_xA, runK_rA, wrap_i64, wrap_u64, wrap_u32, wrap_u8, wrap_u16, AV.atom, normA, lkE, fixObjs, fixBody, fixV, fixCell, hi', hb', d1, d2, hcmp, hne]
    · intro hJ
      rw [List.take_length, hle, List.take_length] at hJ
      simp [beqI, bneI, mm_min2, mm_max2, mm_min3, mm_max3, startE, lkE, lkX, lkE_rest, sx, substE, opVA, objs0, List.replicate, XA_seq, XA_region, XOA_go, goE_someA, opV, ev, putA, layAll, XOA_nil, XA_skip_seq, XA_skip_nil, XOA_gd, goG_tA, goG_uA, binV, binInt, unV, XA_ret_nil, XA_ret_cons, endFA_r, endFA_n, endTA_r, endTA_n, endRA_r, endRA_n, fltR, resultsA, resAs, resA, XA_block, XA_cond, pickX_t, pickX_f, pickX_b, XA_skip_blk, XA_skip_lp, XA_exit_seq, XA_exit_lp, XA_exit_blk, XA_exit_nil, load1, Ev.loadCells, objCells, bodyCells, setCells, AV.flat, AV.flat1, backR, backV, backCell, mapO, AV.cells, AV.atom, AV.tree, fillV, repeatL, treeCell, freezeAll, eqCells, callV_T, callV_F, passV, passCell, srcCells, sliceBounds, hiB, loB, thenQ_nA, thenQ_xA, thenQ_rA, runK_nA, runK_xA, runK_rA, wrap_i64, wrap_u64, wrap_u32, wrap_u8, wrap_u16, AV.atom, normA, lkE, fixObjs, fixBody, fixV, fixCell, hJ]
  · have hle' : ¬ (a.length : Int) = (b.length : Int) := by omega
    have hne : ¬ a = b := fun e => hle (by rw [e])
    simp [beqI, bneI, mm_min2, mm_max2, mm_min3, mm_max3, startE, lkE, lkX, lkE_rest, sx, substE, opVA, objs0, List.replicate, XA_seq, XA_region, XOA_go, goE_someA, opV, ev, putA, layAll, XOA_nil, XA_skip_seq, XA_skip_nil, XOA_gd, goG_tA, goG_uA, binV, binInt, unV, XA_ret_nil, XA_ret_cons, endFA_r, endFA_n, endTA_r, endTA_n, endRA_r, endRA_n, fltR, resultsA, resAs, resA, XA_block, XA_cond, pickX_t, pickX_f, pickX_b, XA_skip_blk, XA_skip_lp, XA_exit_seq, XA_exit_lp, XA_exit_blk, XA_exit_nil, load1, Ev.loadCells, objCells, bodyCells, setCells, AV.flat, AV.flat1, backR, backV, backCell, mapO, AV.cells, AV.atom, AV.tree, fillV, repeatL, treeCell, freezeAll, eqCells, callV_T, callV_F, passV, passCell, srcCells, sliceBounds, hiB, loB, thenQ_nA, thenQ_xA, thenQ_rA, runK_nA, runK_xA, runK_rA, wrap_i64, wrap_u64, wrap_u32, wrap_u8, wrap_u16, rN, hle', hne]
theorem fiberC_len4 (ds : List Dm) (m : Int) (t a f : List Int) : (fiberC ds m t a f).length ≤ 5000 ∧ ∀ v ∈ fiberC ds m t a f, v.length = 4 := by
  unfold fiberC
  split
  · split
    · simp
    · exact ⟨by omega, outF_len4 ds t a f _⟩
  · simp
end Go.Proofs.Ytafjljlcdfccjaa
