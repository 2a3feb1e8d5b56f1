/- Of any catalog, nodes, place, fix: where a place lies, which ones lie in it, whether it lies in the fix. -/
import Derived.Test.YtafjljlcdfccjaaLiftCom
import Derived.Test.YtafjljlcdfccjaaLatLem
set_option linter.unusedSimpArgs false
set_option linter.unusedVariables false
set_option maxHeartbeats 4000000
set_option maxRecDepth 100000
namespace Go.Proofs.Ytafjljlcdfccjaa
open Go.Ev
def gFix : GT := .pair (.int .i64) (.pair (.int .i64) (.pair (.slice (.int .i64)) .unit))
def gAsk : GT := .pair gCat (.pair gN (.pair gN (.pair gN (.pair gFix .unit))))
theorem liftTells_ev (ds : List Dm) (m : Int) (f t a : List Int) (dim lv : Int) (ms : List Int) (hC : okC ds) (hf : okN f) (ht : okN t) (ha : okN a) (hms : ms.length ≤ 9223372036854775807) :
    cvF tab 3 [.agg (.ro ds.length (flatD ds) :: .int .i64 m :: (f.map (.int .u8) ++ (t.map (.int .u8) ++ (a.map (.int .u8) ++ [.int .i64 dim, .int .i64 lv, rI ms]))))] = some (.bool true) := by
  refine cvFA_R (mf := Mf.f3) rfl rfl (by kernel_rfl) ?_
  simp only [Mf.f3]
  have hg := ok_meet hf ht
  have e0 := rmeet_ev f t hf ht
  generalize meetN f t = g at *
  have A1 := To_ev ds m f t a hC hf ht ha
  have A2 := rTo_ev ds m f t a hC hf ht ha
  have A3 := Within_ev ds m f a dim lv ms hC hf ha hms
  have A4 := rWithin_ev ds m f a dim lv ms hC hf ha hms
  have A5 := Fiber_ev ds m t a f hC ht ha hf
  have A6 := rFiber_ev ds m t a f hC ht ha hf
  have l7 := fiberC_len4 ds m t a f
  have A7 := coords_ev _ _ l7.2 l7.2 (by omega)
  have B1 := To_ev ds m g t a hC hg ht ha
  have B2 := rTo_ev ds m g t a hC hg ht ha
  have B3 := Within_ev ds m g a dim lv ms hC hg ha hms
  have B4 := rWithin_ev ds m g a dim lv ms hC hg ha hms
  have B5 := Fiber_ev ds m t a g hC ht ha hg
  have B6 := rFiber_ev ds m t a g hC ht ha hg
  have k7 := fiberC_len4 ds m t a g
  have B7 := coords_ev _ _ k7.2 k7.2 (by omega)
  have pok1 := toP_ok (ds := ds) (m := m) hf ht ha
  have pok2 := toP_ok (ds := ds) (m := m) hg ht ha
  generalize toP ds m f t a = P1 at *
  generalize toP ds m g t a = P2 at *
  generalize toOk ds m f t a = K1 at *
  generalize toOk ds m g t a = K2 at *
  generalize fiberC ds m t a f = F1 at *
  generalize fiberC ds m t a g = F2 at *
  generalize withinC ds m f a dim lv ms = W1 at *
  generalize withinC ds m g a dim lv ms = W2 at *
  obtain ⟨f0, f1, f2, f3, rfl, -, -, -, -⟩ := four hf
  obtain ⟨t0, t1, t2, t3, rfl, -, -, -, -⟩ := four ht
  obtain ⟨a0, a1, a2, a3, rfl, -, -, -, -⟩ := four ha
  obtain ⟨g0, g1, g2, g3, rfl, -, -, -, -⟩ := four hg
  obtain ⟨p0, p1, p2, p3, rfl, -, -, -, -⟩ := four pok1
  obtain ⟨q0, q1, q2, q3, rfl, -, -, -, -⟩ := four pok2
  simp only [List.map, rN, List.cons_append, List.nil_append, decide_true] at *
  simp only [rI] at *
  cases cl : lightC ds with
  | false => simp [beqI, bneI, mm_min2, mm_max2, mm_min3, mm_max3, startE, lkE, lkX, lkE_rest, sx, substE, opVA, objs0, List.replicate, XA_seq, XA_region, XOA_go, goE_someA, opV, ev, putA, layAll, XOA_nil, XA_skip_seq, XA_skip_nil, XOA_gd, goG_tA, goG_uA, binV, binInt, unV, XA_ret_nil, XA_ret_cons, endFA_r, endFA_n, endTA_r, endTA_n, endRA_r, endRA_n, fltR, resultsA, resAs, resA, XA_block, XA_cond, pickX_t, pickX_f, pickX_b, XA_skip_blk, XA_skip_lp, XA_exit_seq, XA_exit_lp, XA_exit_blk, XA_exit_nil, load1, Ev.loadCells, objCells, bodyCells, setCells, AV.flat, AV.flat1, backR, backV, backCell, mapO, AV.cells, AV.atom, AV.tree, fillV, repeatL, treeCell, freezeAll, eqCells, callV_T, callV_F, passV, passCell, srcCells, sliceBounds, hiB, loB, thenQ_nA, thenQ_xA, thenQ_rA, runK_nA, runK_xA, runK_rA, wrap_i64, wrap_u64, wrap_u32, wrap_u8, wrap_u16, rI, lightCat_ev, cl, wakes_ev]
  | true =>
    by_cases c1 : 100 < (ms.length : Int)
    · simp [beqI, bneI, mm_min2, mm_max2, mm_min3, mm_max3, startE, lkE, lkX, lkE_rest, sx, substE, opVA, objs0, List.replicate, XA_seq, XA_region, XOA_go, goE_someA, opV, ev, putA, layAll, XOA_nil, XA_skip_seq, XA_skip_nil, XOA_gd, goG_tA, goG_uA, binV, binInt, unV, XA_ret_nil, XA_ret_cons, endFA_r, endFA_n, endTA_r, endTA_n, endRA_r, endRA_n, fltR, resultsA, resAs, resA, XA_block, XA_cond, pickX_t, pickX_f, pickX_b, XA_skip_blk, XA_skip_lp, XA_exit_seq, XA_exit_lp, XA_exit_blk, XA_exit_nil, load1, Ev.loadCells, objCells, bodyCells, setCells, AV.flat, AV.flat1, backR, backV, backCell, mapO, AV.cells, AV.atom, AV.tree, fillV, repeatL, treeCell, freezeAll, eqCells, callV_T, callV_F, passV, passCell, srcCells, sliceBounds, hiB, loB, thenQ_nA, thenQ_xA, thenQ_rA, runK_nA, runK_xA, runK_rA, wrap_i64, wrap_u64, wrap_u32, wrap_u8, wrap_u16, rI, lightCat_ev, cl, c1, wakes_ev]
    · simp [beqI, bneI, mm_min2, mm_max2, mm_min3, mm_max3, startE, lkE, lkX, lkE_rest, sx, substE, opVA, objs0, List.replicate, XA_seq, XA_region, XOA_go, goE_someA, opV, ev, putA, layAll, XOA_nil, XA_skip_seq, XA_skip_nil, XOA_gd, goG_tA, goG_uA, binV, binInt, unV, XA_ret_nil, XA_ret_cons, endFA_r, endFA_n, endTA_r, endTA_n, endRA_r, endRA_n, fltR, resultsA, resAs, resA, XA_block, XA_cond, pickX_t, pickX_f, pickX_b, XA_skip_blk, XA_skip_lp, XA_exit_seq, XA_exit_lp, XA_exit_blk, XA_exit_nil, load1, Ev.loadCells, objCells, bodyCells, setCells, AV.flat, AV.flat1, backR, backV, backCell, mapO, AV.cells, AV.atom, AV.tree, fillV, repeatL, treeCell, freezeAll, eqCells, callV_T, callV_F, passV, passCell, srcCells, sliceBounds, hiB, loB, thenQ_nA, thenQ_xA, thenQ_rA, runK_nA, runK_xA, runK_rA, wrap_i64, wrap_u64, wrap_u32, wrap_u8, wrap_u16, rI, lightCat_ev, cl, c1, e0]
      refine XA_for (fun i => ⟨[(30, .ro 2 [.ro ds.length (flatD ds), .int .i64 m, .int .u8 f0, .int .u8 f1, .int .u8 f2, .int .u8 f3, .int .u8 t0, .int .u8 t1, .int .u8 t2, .int .u8 t3, .int .u8 a0, .int .u8 a1, .int .u8 a2, .int .u8 a3, .int .i64 dim, .int .i64 lv, .ro ms.length (ms.map (.int .i64)), .ro ds.length (flatD ds), .int .i64 m, .int .u8 g0, .int .u8 g1, .int .u8 g2, .int .u8 g3, .int .u8 t0, .int .u8 t1, .int .u8 t2, .int .u8 t3, .int .u8 a0, .int .u8 a1, .int .u8 a2, .int .u8 a3, .int .i64 dim, .int .i64 lv, .ro ms.length (ms.map (.int .i64))]), (31, .int .i64 2), (32, .int .i64 i)], [⟨0, .none⟩, ⟨0, .none⟩, ⟨0, .none⟩, ⟨0, .none⟩, ⟨0, .none⟩]⟩)
        (fun _ => True) 2 0 (by omega) (by simp [AV.atom, normA, lkE, fixObjs, fixBody, fixV, fixCell]) trivial ?_ ?_
      · intro i _ hi _
        have : i = 0 ∨ i = 1 := by omega
        have w0 : IntKind.i64.wrap 1 = 1 := by decide
        have w1 : IntKind.i64.wrap 2 = 2 := by decide
        rcases this with rfl | rfl
        · simp [beqI, bneI, mm_min2, mm_max2, mm_min3, mm_max3, startE, lkE, lkX, lkE_rest, sx, substE, opVA, objs0, List.replicate, XA_seq, XA_region, XOA_go, goE_someA, opV, ev, putA, layAll, XOA_nil, XA_skip_seq, XA_skip_nil, XOA_gd, goG_tA, goG_uA, binV, binInt, unV, XA_ret_nil, XA_ret_cons, endFA_r, endFA_n, endTA_r, endTA_n, endRA_r, endRA_n, fltR, resultsA, resAs, resA, XA_block, XA_cond, pickX_t, pickX_f, pickX_b, XA_skip_blk, XA_skip_lp, XA_exit_seq, XA_exit_lp, XA_exit_blk, XA_exit_nil, load1, Ev.loadCells, objCells, bodyCells, setCells, AV.flat, AV.flat1, backR, backV, backCell, mapO, AV.cells, AV.atom, AV.tree, fillV, repeatL, treeCell, freezeAll, eqCells, callV_T, callV_F, passV, passCell, srcCells, sliceBounds, hiB, loB, thenQ_nA, thenQ_xA, thenQ_rA, runK_nA, runK_xA, runK_rA, wrap_i64, wrap_u64, wrap_u32, wrap_u8, wrap_u16, AV.atom, normA, lkE, fixObjs, fixBody, fixV, fixCell, A1, A2, A3, A4, A5, A6, A7, w0]
        · simp [beqI, bneI, mm_min2, mm_max2, mm_min3, mm_max3, startE, lkE, lkX, lkE_rest, sx, substE, opVA, objs0, List.replicate, XA_seq, XA_region, XOA_go, goE_someA, opV, ev, putA, layAll, XOA_nil, XA_skip_seq, XA_skip_nil, XOA_gd, goG_tA, goG_uA, binV, binInt, unV, XA_ret_nil, XA_ret_cons, endFA_r, endFA_n, endTA_r, endTA_n, endRA_r, endRA_n, fltR, resultsA, resAs, resA, XA_block, XA_cond, pickX_t, pickX_f, pickX_b, XA_skip_blk, XA_skip_lp, XA_exit_seq, XA_exit_lp, XA_exit_blk, XA_exit_nil, load1, Ev.loadCells, objCells, bodyCells, setCells, AV.flat, AV.flat1, backR, backV, backCell, mapO, AV.cells, AV.atom, AV.tree, fillV, repeatL, treeCell, freezeAll, eqCells, callV_T, callV_F, passV, passCell, srcCells, sliceBounds, hiB, loB, thenQ_nA, thenQ_xA, thenQ_rA, runK_nA, runK_xA, runK_rA, wrap_i64, wrap_u64, wrap_u32, wrap_u8, wrap_u16, AV.atom, normA, lkE, fixObjs, fixBody, fixV, fixCell, B1, B2, B3, B4, B5, B6, B7, w1]
      · intro _
        simp [beqI, bneI, mm_min2, mm_max2, mm_min3, mm_max3, startE, lkE, lkX, lkE_rest, sx, substE, opVA, objs0, List.replicate, XA_seq, XA_region, XOA_go, goE_someA, opV, ev, putA, layAll, XOA_nil, XA_skip_seq, XA_skip_nil, XOA_gd, goG_tA, goG_uA, binV, binInt, unV, XA_ret_nil, XA_ret_cons, endFA_r, endFA_n, endTA_r, endTA_n, endRA_r, endRA_n, fltR, resultsA, resAs, resA, XA_block, XA_cond, pickX_t, pickX_f, pickX_b, XA_skip_blk, XA_skip_lp, XA_exit_seq, XA_exit_lp, XA_exit_blk, XA_exit_nil, load1, Ev.loadCells, objCells, bodyCells, setCells, AV.flat, AV.flat1, backR, backV, backCell, mapO, AV.cells, AV.atom, AV.tree, fillV, repeatL, treeCell, freezeAll, eqCells, callV_T, callV_F, passV, passCell, srcCells, sliceBounds, hiB, loB, thenQ_nA, thenQ_xA, thenQ_rA, runK_nA, runK_xA, runK_rA, wrap_i64, wrap_u64, wrap_u32, wrap_u8, wrap_u16, AV.atom, normA, lkE, fixObjs, fixBody, fixV, fixCell, wakes_ev]
theorem liftTells_law (l : List AV) (h : RDargs [gAsk] l) : ∃ H1, cfT tab 3 l [] = some (.bool true, H1) := by
  obtain ⟨x, r, rfl, hx, rfl⟩ := h
  simp only [RDarg, gAsk, isAggG, if_true] at hx
  obtain ⟨cs, rfl, c, r, rfl, hc, u, r, rfl, hu, v, r, rfl, hv, w, r, rfl, hw, fx, r, rfl, hfx, rfl⟩ := hx
  obtain ⟨d, r, rfl, hd, lv, r, rfl, hlv, ms, r, rfl, hms, rfl⟩ := hfx
  obtain ⟨ds, m, rfl, hC, hm⟩ := rd_cat hc
  obtain ⟨u, rfl, hu'⟩ := rd_n hu
  obtain ⟨v, rfl, hv'⟩ := rd_n hv
  obtain ⟨w, rfl, hw'⟩ := rd_n hw
  obtain ⟨d, rfl, hd'⟩ := rd_i64 hd
  obtain ⟨lv, rfl, hlv'⟩ := rd_i64 hlv
  obtain ⟨ms, rfl, hms'⟩ := rd_ints hms
  have := cvF_bool (liftTells_ev ds m u v w d lv ms hC hu' hv' hw' hms'.1)
  simpa using this
theorem liftTells_lifted (os : Os) (started : os.Started) (H : Type) (enc : TypeId × Value → H) :
    ReturnsInHanded {} Try.checked os 3 .any (Rows.liftTellsSpec.pre6 enc Try.prog Try.f3 Rows.liftTellsRow.domain false) (Rows.liftTellsSpec.post enc Try.prog Try.f3 false true false false) := by
  refine returnsInHanded_of_change (C := Try.checked) Try.own started (by kernel_rfl) Try.func3
    (ChangeSpec.witness6 (enc := enc) (C := Try.checked) false ⟨#[], #[.agg #[.slice none 0 0, .int .i64 0, .int .u8 0, .int .u8 0, .int .u8 0, .int .u8 0, .int .u8 0, .int .u8 0, .int .u8 0, .int .u8 0, .int .u8 0, .int .u8 0, .int .u8 0, .int .u8 0, .int .i64 0, .int .i64 0, .slice none 0 0]], []⟩ 8 (by kernel_rfl) (by kernel_rfl) (by kernel_rfl) (by kernel_rfl)) ?_
  intro W base args ds gs before hval hW hcnd _
  have hval' : ∀ (j : Nat) (t : TypeId) (v : Value), Try.f3.params.toList[j]? = some t → args[j]? = some v → Value.okWide Try.prog W .any base t v := fun j t v h1 h2 => hval j t v (by simpa using h1) h2
  obtain ⟨p, q, hA, hV, hpq, _, _⟩ := id hW
  have hg : gtsB Try.prog [gAsk] Try.f3.params.toList = true := by kernel_rfl
  refine (law_calls' tab_ok hg liftTells_law hval' hA).mono fun e W' ⟨he, hb⟩ => ?_
  subst he
  refine ⟨_, rfl, post_true Try.laidOut (rt := 4) (fun ds h => ?_) rfl (by kernel_rfl) (by kernel_rfl) (by kernel_rfl) hW hb⟩
  match ds, h with
  | [_], _ => rfl
theorem liftTells_holds : Rows.LiftTellsSaid :=
  OpenClaim.holds_of_wide 3 Try.f3 rfl rfl rfl rfl rfl rfl rfl ⟨rfl, rfl, rfl, rfl, rfl⟩ rfl rfl rfl rfl rfl (by kernel_rfl) Try.func3 (by kernel_rfl)
    (of_decide_eq_true (by kernel_rfl)) (by unfold Func.isWrapper; first | (rw [if_pos (by decide +kernel)]; kernel_rfl) | (rw [if_neg (by decide +kernel)]; exact ⟨rfl, rfl⟩))
    (fun os started H enc _ => liftTells_lifted os started H enc)
end Go.Proofs.Ytafjljlcdfccjaa
