/- May a query be, which node it needs, are two alike, their bytes. -/
import Derived.Test.YtambpbcdnhekbaaQI
set_option linter.unusedSimpArgs false
set_option linter.unusedVariables false
set_option maxHeartbeats 8000000
set_option maxRecDepth 100000
namespace Go.Proofs.Ytambpbcdnhekbaa
open Go.Ev
theorem told_ev (ds : List Dm) (m : Int) (q o : Qy) (hC : okC ds) (hq : okQ q) (ho : okQ o) (hL : lightQ q = true) :
    cvF tab 12 [.agg [.ro ds.length (flatD ds), .int .i64 m], .agg (qyC q), .agg (qyC o)] = some (.bool true) := by
  refine cvFA_R (mf := Mf.f12) rfl rfl (by kernel_rfl) ?_
  simp only [Mf.f12]
  have e1 := qbytes_ev q hL
  have e2 := rbytes_ev q hL
  have e3 := qgood_ev ds m q hC hq
  have e4 := rqgood_ev ds m q hC hq
  have e5 := need_ev ds m q hC hq
  have e6 := rneed_ev ds m q hC hq
  have e7 := qsame_ev q o hq ho
  have e8 := rqsame_ev q o hq
  have e9 := qsame_ev q q hq hq
  rw [decide_eq_true rfl] at e9
  have hok : okN (needQ ds m q) := by
    unfold needQ
    split
    · rename_i g
      have hp := goodQ_parts g
      exact needF_ok (goodN_good hp.1) hp.2.2.1 hq.n
    · exact ok_zero4
  obtain ⟨n0, n1, n2, n3, hn, -, -, -, -⟩ := four hok
  rw [hn] at e5 e6
  simp only [List.map] at e5 e6
  have hT : bytesQ q = if okT q = true then bytesQ q else [] := by
    unfold bytesQ; cases okT q <;> simp
  unfold textT at e1
  unfold textA at e2
  have b1 := bytesOf_map (bytesQ q)
  have b2 := bytesOf_map []
  generalize goodQ ds m q = g at *
  generalize decide (q = o) = s at *
  generalize bytesQ q = B at *
  generalize okT q = k at *
  clear hok hn
  have ht : (B.map (AV.int .u8)).all AV.tree = true := by simp [AV.tree]
  obtain ⟨a, b, c, e, F, t, me, fn, li⟩ := q
  obtain ⟨a', b', c', e', F', t', me', fn', li'⟩ := o
  simp only [qyC] at e1 e2 e3 e4 e5 e6 e7 e8 e9 ⊢
  cases k with
  | true =>
    simp only [rB, if_true] at e1 e2
    simp [beqI, bneI, mm_min2, mm_max2, mm_min3, mm_max3, startE, lkE, lkX, lkE_rest, sx, substE, opVA, objs0, List.replicate, XA_seq, XA_region, XOA_go, goE_someA, opV, ev, putA, layAll, XOA_nil, XA_skip_seq, XA_skip_nil, XOA_gd, goG_tA, goG_uA, binV, binInt, unV, XA_ret_nil, XA_ret_cons, endFA_r, endFA_n, endTA_r, endTA_n, endRA_r, endRA_n, fltR, resultsA, resAs, resA, XA_block, XA_cond, pickX_t, pickX_f, pickX_b, XA_skip_blk, XA_skip_lp, XA_exit_seq, XA_exit_lp, XA_exit_blk, XA_exit_nil, load1, Ev.loadCells, objCells, bodyCells, setCells, AV.flat, AV.flat1, backR, backV, backCell, mapO, AV.cells, AV.atom, AV.tree, fillV, repeatL, treeCell, freezeAll, eqCells, callV_T, callV_F, passN, passV, passCell, srcCells, sliceBounds, hiB, loB, thenQ_nA, thenQ_xA, thenQ_rA, runK_nA, runK_xA, runK_rA, wrap_i64, wrap_u64, wrap_u32, wrap_u8, wrap_u16, e1, e2, e3, e4, e5, e6, e7, e8, e9, b1]
  | false =>
    simp at hT
    subst hT
    simp [rB] at e1 e2
    simp [beqI, bneI, mm_min2, mm_max2, mm_min3, mm_max3, startE, lkE, lkX, lkE_rest, sx, substE, opVA, objs0, List.replicate, XA_seq, XA_region, XOA_go, goE_someA, opV, ev, putA, layAll, XOA_nil, XA_skip_seq, XA_skip_nil, XOA_gd, goG_tA, goG_uA, binV, binInt, unV, XA_ret_nil, XA_ret_cons, endFA_r, endFA_n, endTA_r, endTA_n, endRA_r, endRA_n, fltR, resultsA, resAs, resA, XA_block, XA_cond, pickX_t, pickX_f, pickX_b, XA_skip_blk, XA_skip_lp, XA_exit_seq, XA_exit_lp, XA_exit_blk, XA_exit_nil, load1, Ev.loadCells, objCells, bodyCells, setCells, AV.flat, AV.flat1, backR, backV, backCell, mapO, AV.cells, AV.atom, AV.tree, fillV, repeatL, treeCell, freezeAll, eqCells, callV_T, callV_F, passN, passV, passCell, srcCells, sliceBounds, hiB, loB, thenQ_nA, thenQ_xA, thenQ_rA, runK_nA, runK_xA, runK_rA, wrap_i64, wrap_u64, wrap_u32, wrap_u8, wrap_u16, e1, e2, e3, e4, e5, e6, e7, e8, e9, Ev.bytesOf]
theorem queryTells_ev (ds : List Dm) (m : Int) (q o : Qy) (hC : okC ds) (hq : okQ q) (ho : okQ o) :
    cvF tab 3 [.agg (.ro ds.length (flatD ds) :: .int .i64 m :: qyC q), .agg (qyC o)] = some (.bool true) := by
  refine cvFA_R (mf := Mf.f3) rfl rfl (by kernel_rfl) ?_
  simp only [Mf.f3]
  have e1 := light_ask ds m q hq
  have e2 := lightQ_ev o ho
  have e3 := told_ev ds m q o hC hq ho
  have e4 := told_ev ds m o q hC ho hq
  cases c1 : lightC ds with
  | false =>
    rw [c1] at e1
    simp only [qyC, Bool.false_and] at e1 ⊢
    simp [beqI, bneI, mm_min2, mm_max2, mm_min3, mm_max3, startE, lkE, lkX, lkE_rest, sx, substE, opVA, objs0, List.replicate, XA_seq, XA_region, XOA_go, goE_someA, opV, ev, putA, layAll, XOA_nil, XA_skip_seq, XA_skip_nil, XOA_gd, goG_tA, goG_uA, binV, binInt, unV, XA_ret_nil, XA_ret_cons, endFA_r, endFA_n, endTA_r, endTA_n, endRA_r, endRA_n, fltR, resultsA, resAs, resA, XA_block, XA_cond, pickX_t, pickX_f, pickX_b, XA_skip_blk, XA_skip_lp, XA_exit_seq, XA_exit_lp, XA_exit_blk, XA_exit_nil, load1, Ev.loadCells, objCells, bodyCells, setCells, AV.flat, AV.flat1, backR, backV, backCell, mapO, AV.cells, AV.atom, AV.tree, fillV, repeatL, treeCell, freezeAll, eqCells, callV_T, callV_F, passN, passV, passCell, srcCells, sliceBounds, hiB, loB, thenQ_nA, thenQ_xA, thenQ_rA, runK_nA, runK_xA, runK_rA, wrap_i64, wrap_u64, wrap_u32, wrap_u8, wrap_u16, e1, wakes_ev]
  | true =>
    rw [c1] at e1
    cases c2 : lightQ q with
    | false =>
      rw [c2] at e1
      simp only [qyC, Bool.and_false] at e1 ⊢
      simp [beqI, bneI, mm_min2, mm_max2, mm_min3, mm_max3, startE, lkE, lkX, lkE_rest, sx, substE, opVA, objs0, List.replicate, XA_seq, XA_region, XOA_go, goE_someA, opV, ev, putA, layAll, XOA_nil, XA_skip_seq, XA_skip_nil, XOA_gd, goG_tA, goG_uA, binV, binInt, unV, XA_ret_nil, XA_ret_cons, endFA_r, endFA_n, endTA_r, endTA_n, endRA_r, endRA_n, fltR, resultsA, resAs, resA, XA_block, XA_cond, pickX_t, pickX_f, pickX_b, XA_skip_blk, XA_skip_lp, XA_exit_seq, XA_exit_lp, XA_exit_blk, XA_exit_nil, load1, Ev.loadCells, objCells, bodyCells, setCells, AV.flat, AV.flat1, backR, backV, backCell, mapO, AV.cells, AV.atom, AV.tree, fillV, repeatL, treeCell, freezeAll, eqCells, callV_T, callV_F, passN, passV, passCell, srcCells, sliceBounds, hiB, loB, thenQ_nA, thenQ_xA, thenQ_rA, runK_nA, runK_xA, runK_rA, wrap_i64, wrap_u64, wrap_u32, wrap_u8, wrap_u16, e1, wakes_ev]
    | true =>
      rw [c2] at e1
      cases c3 : lightQ o with
      | false =>
        rw [c3] at e2
        simp only [qyC, Bool.and_true] at e1 e2 ⊢
        simp [beqI, bneI, mm_min2, mm_max2, mm_min3, mm_max3, startE, lkE, lkX, lkE_rest, sx, substE, opVA, objs0, List.replicate, XA_seq, XA_region, XOA_go, goE_someA, opV, ev, putA, layAll, XOA_nil, XA_skip_seq, XA_skip_nil, XOA_gd, goG_tA, goG_uA, binV, binInt, unV, XA_ret_nil, XA_ret_cons, endFA_r, endFA_n, endTA_r, endTA_n, endRA_r, endRA_n, fltR, resultsA, resAs, resA, XA_block, XA_cond, pickX_t, pickX_f, pickX_b, XA_skip_blk, XA_skip_lp, XA_exit_seq, XA_exit_lp, XA_exit_blk, XA_exit_nil, load1, Ev.loadCells, objCells, bodyCells, setCells, AV.flat, AV.flat1, backR, backV, backCell, mapO, AV.cells, AV.atom, AV.tree, fillV, repeatL, treeCell, freezeAll, eqCells, callV_T, callV_F, passN, passV, passCell, srcCells, sliceBounds, hiB, loB, thenQ_nA, thenQ_xA, thenQ_rA, runK_nA, runK_xA, runK_rA, wrap_i64, wrap_u64, wrap_u32, wrap_u8, wrap_u16, e1, e2, wakes_ev]
      | true =>
        rw [c3] at e2
        have e3 := e3 c2
        have e4 := e4 c3
        simp only [qyC, Bool.and_true] at e1 e2 e3 e4 ⊢
        simp [beqI, bneI, mm_min2, mm_max2, mm_min3, mm_max3, startE, lkE, lkX, lkE_rest, sx, substE, opVA, objs0, List.replicate, XA_seq, XA_region, XOA_go, goE_someA, opV, ev, putA, layAll, XOA_nil, XA_skip_seq, XA_skip_nil, XOA_gd, goG_tA, goG_uA, binV, binInt, unV, XA_ret_nil, XA_ret_cons, endFA_r, endFA_n, endTA_r, endTA_n, endRA_r, endRA_n, fltR, resultsA, resAs, resA, XA_block, XA_cond, pickX_t, pickX_f, pickX_b, XA_skip_blk, XA_skip_lp, XA_exit_seq, XA_exit_lp, XA_exit_blk, XA_exit_nil, load1, Ev.loadCells, objCells, bodyCells, setCells, AV.flat, AV.flat1, backR, backV, backCell, mapO, AV.cells, AV.atom, AV.tree, fillV, repeatL, treeCell, freezeAll, eqCells, callV_T, callV_F, passN, passV, passCell, srcCells, sliceBounds, hiB, loB, thenQ_nA, thenQ_xA, thenQ_rA, runK_nA, runK_xA, runK_rA, wrap_i64, wrap_u64, wrap_u32, wrap_u8, wrap_u16, e1, e2, e3, e4, wakes_ev]
theorem queryTells_law (l : List AV) (h : RDargs [gAsk, gQy] l) : ∃ H1, cfT tab 3 l [] = some (.bool true, H1) := by
  obtain ⟨x, r, rfl, hx, y, r2, rfl, hy, rfl⟩ := h
  obtain ⟨ds, m, q, rfl, hC, hm, hq⟩ := rdarg_ask hx
  obtain ⟨o, rfl, ho⟩ := rdarg_qy hy
  exact cvF_bool (queryTells_ev ds m q o hC hq ho)
theorem queryTells_lifted (os : Os) (started : os.Started) (H : Type) (enc : TypeId × Value → H) :
    ReturnsInHanded {} Try.checked os 3 .any (Rows.queryTellsSpec.pre6 enc Try.prog Try.f3 Rows.queryTellsRow.domain false) (Rows.queryTellsSpec.post enc Try.prog Try.f3 false true false false) := by
  refine returnsInHanded_of_change (C := Try.checked) Try.own started (by kernel_rfl) Try.func3
    (ChangeSpec.witness6 (enc := enc) (C := Try.checked) false ⟨#[], #[.agg #[.slice none 0 0, .int .i64 0, .int .u8 0, .int .u8 0, .int .u8 0, .int .u8 0, .slice none 0 0, .int .i64 0, .int .i64 0, .int .i64 0, .int .i64 0] , .agg #[.int .u8 0, .int .u8 0, .int .u8 0, .int .u8 0, .slice none 0 0, .int .i64 0, .int .i64 0, .int .i64 0, .int .i64 0]], []⟩ 8 (by kernel_rfl) (by kernel_rfl) (by kernel_rfl) (by kernel_rfl)) ?_
  intro W base args ds gs before hval hW hcnd _
  have hval' : ∀ (j : Nat) (t : TypeId) (v : Value), Try.f3.params.toList[j]? = some t → args[j]? = some v → Value.okWide Try.prog W .any base t v := fun j t v h1 h2 => hval j t v (by simpa using h1) h2
  obtain ⟨p, q, hA, hV, hpq, _, _⟩ := id hW
  have hg : gtsB Try.prog [gAsk, gQy] Try.f3.params.toList = true := by kernel_rfl
  refine (law_calls' tab_ok hg queryTells_law hval' hA).mono fun e W' ⟨he, hb⟩ => ?_
  subst he
  refine ⟨_, rfl, post_true Try.laidOut (rt := 4) (fun ds h => ?_) rfl (by kernel_rfl) (by kernel_rfl) (by kernel_rfl) hW hb⟩
  match ds, h with
  | [_, _], _ => rfl
theorem queryTells_holds : Rows.QueryTellsSaid :=
  OpenClaim.holds_of_wide 3 Try.f3 rfl rfl rfl rfl rfl rfl rfl ⟨rfl, rfl, rfl, rfl, rfl⟩ rfl rfl rfl rfl rfl (by kernel_rfl) Try.func3 (by kernel_rfl)
    (of_decide_eq_true (by kernel_rfl)) (by unfold Func.isWrapper; first | (rw [if_pos (by decide +kernel)]; kernel_rfl) | (rw [if_neg (by decide +kernel)]; exact ⟨rfl, rfl⟩))
    (fun os started H enc _ => queryTells_lifted os started H enc)
end Go.Proofs.Ytambpbcdnhekbaa
