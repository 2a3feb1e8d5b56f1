/- A node has as many places as there are; two nodes' places are as many times as many as those of their Meet and their Join; the whole has one. -/
import Derived.Test.YtldijlajoaddnaaLatLem
set_option linter.unusedSimpArgs false
set_option linter.unusedVariables false
set_option maxHeartbeats 4000000
set_option maxRecDepth 100000
namespace Go.Proofs.Ytldijlajoaddnaa
open Go.Ev
theorem latticeCost_ev (ds : List Dm) (m : Int) (v w : List Int) (hC : okC ds) (hv : okN v) (hw : okN w) :
    cvF tab 5 [.agg [.ro ds.length (flatD ds), .int .i64 m], .agg (v.map (.int .u8)), .agg (w.map (.int .u8))] = some (.bool true) := by
  refine cvFA_R (mf := Mf.f5) rfl rfl (by kernel_rfl) ?_
  simp only [Mf.f5]
  have e1 := rGood_ev ds m v hC hv
  have e2 := rGood_ev ds m w hC hw
  have e3 := places_ev ds m v 4000 hC hv
  have e4 := cost_ev ds m v hC hv
  have e5 := cost_ev ds m w hC hw
  have e6 := meet_ev v w hv hw
  have e7 := join_ev v w hv hw
  have e8 := cost_ev ds m _ hC (ok_meet hv hw)
  have e9 := cost_ev ds m _ hC (ok_join hv hw)
  have e10 := whole_ev ds m hC
  have e11 := cost_ev ds m _ hC (ok_whole ds m)
  have emul := fun gv gw => cost_meets (ds := ds) (m := m) (v := v) (w := w) gv gw hv hw
  have hright := fun g k => placeOf_right (ds := ds) (m := m) (v := v) g hv k
  have hpok := fun (g : goodN ds m v = true) k => placeOf_ok g hv k 0
  have hrr := fun (p : List Int) (hp : okN p) => rright_ev ds m v p hC hv hp
  have hcpos : goodN ds m v = true → 1 ≤ costC ds m v := fun g => by
    rw [costC_eq g]
    exact prodTo_pos _ _ fun i hi => (szN_pos g hv hi).1
  have l1 : okN (meetN v w) := ok_meet hv hw
  have l2 : okN (joinN v w) := ok_join hv hw
  have l3 : okN (wholeN ds m) := ok_whole ds m
  have hgw : goodC ds m = true → costC ds m (wholeN ds m) = 1 := cost_whole
  have r1 := costC_range ds m v
  have r2 := costC_range ds m w
  have r3 := costC_range ds m (meetN v w)
  have r4 := costC_range ds m (joinN v w)
  generalize meetN v w = mt at *
  generalize joinN v w = jn at *
  generalize wholeN ds m = wh at *
  obtain ⟨v0, v1, v2, v3, rfl, -, -, -, -⟩ := four hv
  obtain ⟨w0, w1, w2, w3, rfl, -, -, -, -⟩ := four hw
  obtain ⟨m0, m1, m2, m3, rfl, -, -, -, -⟩ := four l1
  obtain ⟨j0, j1, j2, j3, rfl, -, -, -, -⟩ := four l2
  obtain ⟨h0, h1, h2, h3, rfl, -, -, -, -⟩ := four l3
  simp only [List.map] at e1 e2 e3 e4 e5 e6 e7 e8 e9 e10 e11 hrr
  cases gv : goodN ds m [v0, v1, v2, v3] with
  | false => simp [beqI, bneI, mm_min2, mm_max2, mm_min3, mm_max3, startE, lkE, lkX, lkE_rest, sx, substE, opVA, objs0, List.replicate, XA_seq, XA_region, XOA_go, goE_someA, opV, ev, putA, layAll, XOA_nil, XA_skip_seq, XA_skip_nil, XOA_gd, goG_tA, goG_uA, binV, binInt, unV, XA_ret_nil, XA_ret_cons, endFA_r, endFA_n, endTA_r, endTA_n, endRA_r, endRA_n, fltR, resultsA, resAs, resA, XA_block, XA_cond, pickX_t, pickX_f, pickX_b, XA_skip_blk, XA_skip_lp, XA_exit_seq, XA_exit_lp, XA_exit_blk, XA_exit_nil, load1, Ev.loadCells, objCells, bodyCells, setCells, AV.flat, AV.flat1, backR, backV, backCell, mapO, AV.cells, AV.atom, AV.tree, fillV, repeatL, treeCell, freezeAll, eqCells, callV_T, callV_F, passV, passCell, srcCells, sliceBounds, hiB, loB, thenQ_nA, thenQ_xA, thenQ_rA, runK_nA, runK_xA, runK_rA, wrap_i64, wrap_u64, wrap_u32, wrap_u8, wrap_u16, e1, gv, wakes_ev]
  | true =>
    cases gw : goodN ds m [w0, w1, w2, w3] with
    | false => simp [beqI, bneI, mm_min2, mm_max2, mm_min3, mm_max3, startE, lkE, lkX, lkE_rest, sx, substE, opVA, objs0, List.replicate, XA_seq, XA_region, XOA_go, goE_someA, opV, ev, putA, layAll, XOA_nil, XA_skip_seq, XA_skip_nil, XOA_gd, goG_tA, goG_uA, binV, binInt, unV, XA_ret_nil, XA_ret_cons, endFA_r, endFA_n, endTA_r, endTA_n, endRA_r, endRA_n, fltR, resultsA, resAs, resA, XA_block, XA_cond, pickX_t, pickX_f, pickX_b, XA_skip_blk, XA_skip_lp, XA_exit_seq, XA_exit_lp, XA_exit_blk, XA_exit_nil, load1, Ev.loadCells, objCells, bodyCells, setCells, AV.flat, AV.flat1, backR, backV, backCell, mapO, AV.cells, AV.atom, AV.tree, fillV, repeatL, treeCell, freezeAll, eqCells, callV_T, callV_F, passV, passCell, srcCells, sliceBounds, hiB, loB, thenQ_nA, thenQ_xA, thenQ_rA, runK_nA, runK_xA, runK_rA, wrap_i64, wrap_u64, wrap_u32, wrap_u8, wrap_u16, e1, gv, e2, gw, wakes_ev]
    | true =>
      have gc := goodN_good gv
      have emul := emul gv gw
      have hright := hright gv
      have hpok := hpok gv
      have hcpos := hcpos gv
      rw [hgw gc] at e11
      simp only [rN] at e3
      have hmul1 : 0 ≤ costC ds m [v0, v1, v2, v3] * costC ds m [w0, w1, w2, w3] := Int.mul_nonneg r1.1 r2.1
      have hmul2 : costC ds m [v0, v1, v2, v3] * costC ds m [w0, w1, w2, w3] ≤ 2560000 * 2560000 := Int.mul_le_mul r1.2 r2.2 r2.1 (by omega)
      have hw1 : IntKind.i64.wrap (costC ds m [v0, v1, v2, v3] * costC ds m [w0, w1, w2, w3]) = costC ds m [v0, v1, v2, v3] * costC ds m [w0, w1, w2, w3] := wrap_i64 (by omega) (by omega)
      have hpl : placesN ds m [v0, v1, v2, v3] 4000 = if costC ds m [v0, v1, v2, v3] > 4000 then [] else placesP ds [v0, v1, v2, v3] (costC ds m [v0, v1, v2, v3]).toNat := rfl
      have hmem : ∀ x ∈ placesN ds m [v0, v1, v2, v3] 4000, okN x ∧ rightC ds m [v0, v1, v2, v3] x = true := by
        intro x hx
        rw [hpl] at hx
        split at hx
        · cases hx
        · obtain ⟨k, _, rfl⟩ := List.mem_map.1 hx
          exact ⟨hpok k, hright k⟩
      have hplen : ((placesN ds m [v0, v1, v2, v3] 4000).length : Int) = if costC ds m [v0, v1, v2, v3] > 4000 then 0 else costC ds m [v0, v1, v2, v3] := by
        rw [hpl]
        split
        · rfl
        · unfold placesP
          rw [List.length_map, List.length_range]
          omega
      generalize placesN ds m [v0, v1, v2, v3] 4000 = p at *
      have hp4 : ∀ x ∈ p, x.length = 4 := fun x hx => (hmem x hx).1.1
      simp [beqI, bneI, mm_min2, mm_max2, mm_min3, mm_max3, startE, lkE, lkX, lkE_rest, sx, substE, opVA, objs0, List.replicate, XA_seq, XA_region, XOA_go, goE_someA, opV, ev, putA, layAll, XOA_nil, XA_skip_seq, XA_skip_nil, XOA_gd, goG_tA, goG_uA, binV, binInt, unV, XA_ret_nil, XA_ret_cons, endFA_r, endFA_n, endTA_r, endTA_n, endRA_r, endRA_n, fltR, resultsA, resAs, resA, XA_block, XA_cond, pickX_t, pickX_f, pickX_b, XA_skip_blk, XA_skip_lp, XA_exit_seq, XA_exit_lp, XA_exit_blk, XA_exit_nil, load1, Ev.loadCells, objCells, bodyCells, setCells, AV.flat, AV.flat1, backR, backV, backCell, mapO, AV.cells, AV.atom, AV.tree, fillV, repeatL, treeCell, freezeAll, eqCells, callV_T, callV_F, passV, passCell, srcCells, sliceBounds, hiB, loB, thenQ_nA, thenQ_xA, thenQ_rA, runK_nA, runK_xA, runK_rA, wrap_i64, wrap_u64, wrap_u32, wrap_u8, wrap_u16, e1, gv, e2, gw, e3]
      refine XA_for (fun i => ⟨[(3, .ptr 0 0 0), (4, .ptr 1 0 0), (5, .ptr 2 0 0), (7, .ro p.length (flatN p)), (8, .int .i64 i)], [⟨0, .var [.ro ds.length (flatD ds), .int .i64 m]⟩, ⟨0, .var [.int .u8 v0, .int .u8 v1, .int .u8 v2, .int .u8 v3]⟩, ⟨0, .var [.int .u8 w0, .int .u8 w1, .int .u8 w2, .int .u8 w3]⟩]⟩)
        (fun _ => True) p.length 0 (Nat.zero_le _) (by simp [AV.atom, normA, lkE, fixObjs, fixBody, fixV, fixCell]) trivial ?_ ?_
      · intro i _ hi _
        have hi' : (i : Int) < p.length := by omega
        have hdr := dropN hp4 hi
        obtain ⟨hx1, hx2⟩ := hmem _ (gR_mem hi)
        have hrx := hrr _ hx1
        rw [hx2, list4 hx1.1] at hrx
        simp only [List.map] at hrx
        have hb : p.length ≤ 2560000 := by split at hplen <;> omega
        simp [beqI, bneI, mm_min2, mm_max2, mm_min3, mm_max3, startE, lkE, lkX, lkE_rest, sx, substE, opVA, objs0, List.replicate, XA_seq, XA_region, XOA_go, goE_someA, opV, ev, putA, layAll, XOA_nil, XA_skip_seq, XA_skip_nil, XOA_gd, goG_tA, goG_uA, binV, binInt, unV, XA_ret_nil, XA_ret_cons, endFA_r, endFA_n, endTA_r, endTA_n, endRA_r, endRA_n, fltR, resultsA, resAs, resA, XA_block, XA_cond, pickX_t, pickX_f, pickX_b, XA_skip_blk, XA_skip_lp, XA_exit_seq, XA_exit_lp, XA_exit_blk, XA_exit_nil, load1, Ev.loadCells, objCells, bodyCells, setCells, AV.flat, AV.flat1, backR, backV, backCell, mapO, AV.cells, AV.atom, AV.tree, fillV, repeatL, treeCell, freezeAll, eqCells, callV_T, callV_F, passV, passCell, srcCells, sliceBounds, hiB, loB, thenQ_nA, thenQ_xA, thenQ_rA, runK_nA, runK_xA, runK_rA, wrap_i64, wrap_u64, wrap_u32, wrap_u8, wrap_u16, AV.atom, normA, lkE, fixObjs, fixBody, fixV, fixCell, hi', hdr, hrx, wrap_succ i p.length hi (by omega)]
      · intro _
        have hc1 : ¬ costC ds m [v0, v1, v2, v3] < 1 := by omega
        by_cases c : costC ds m [v0, v1, v2, v3] ≤ 4000
        · have c' : ¬ 4000 < costC ds m [v0, v1, v2, v3] := by omega
          rw [if_neg (by omega)] at hplen
          simp [beqI, bneI, mm_min2, mm_max2, mm_min3, mm_max3, startE, lkE, lkX, lkE_rest, sx, substE, opVA, objs0, List.replicate, XA_seq, XA_region, XOA_go, goE_someA, opV, ev, putA, layAll, XOA_nil, XA_skip_seq, XA_skip_nil, XOA_gd, goG_tA, goG_uA, binV, binInt, unV, XA_ret_nil, XA_ret_cons, endFA_r, endFA_n, endTA_r, endTA_n, endRA_r, endRA_n, fltR, resultsA, resAs, resA, XA_block, XA_cond, pickX_t, pickX_f, pickX_b, XA_skip_blk, XA_skip_lp, XA_exit_seq, XA_exit_lp, XA_exit_blk, XA_exit_nil, load1, Ev.loadCells, objCells, bodyCells, setCells, AV.flat, AV.flat1, backR, backV, backCell, mapO, AV.cells, AV.atom, AV.tree, fillV, repeatL, treeCell, freezeAll, eqCells, callV_T, callV_F, passV, passCell, srcCells, sliceBounds, hiB, loB, thenQ_nA, thenQ_xA, thenQ_rA, runK_nA, runK_xA, runK_rA, wrap_i64, wrap_u64, wrap_u32, wrap_u8, wrap_u16, AV.atom, normA, lkE, fixObjs, fixBody, fixV, fixCell, e4, hc1, c, c', hplen, e5, e6, e7, e8, e9, e10, e11, emul, hw1, wakes_ev]
        · have c' : 4000 < costC ds m [v0, v1, v2, v3] := by omega
          rw [if_pos (by omega)] at hplen
          have hp0 : p = [] := List.length_eq_zero_iff.1 (by omega)
          subst hp0
          simp [beqI, bneI, mm_min2, mm_max2, mm_min3, mm_max3, startE, lkE, lkX, lkE_rest, sx, substE, opVA, objs0, List.replicate, XA_seq, XA_region, XOA_go, goE_someA, opV, ev, putA, layAll, XOA_nil, XA_skip_seq, XA_skip_nil, XOA_gd, goG_tA, goG_uA, binV, binInt, unV, XA_ret_nil, XA_ret_cons, endFA_r, endFA_n, endTA_r, endTA_n, endRA_r, endRA_n, fltR, resultsA, resAs, resA, XA_block, XA_cond, pickX_t, pickX_f, pickX_b, XA_skip_blk, XA_skip_lp, XA_exit_seq, XA_exit_lp, XA_exit_blk, XA_exit_nil, load1, Ev.loadCells, objCells, bodyCells, setCells, AV.flat, AV.flat1, backR, backV, backCell, mapO, AV.cells, AV.atom, AV.tree, fillV, repeatL, treeCell, freezeAll, eqCells, callV_T, callV_F, passV, passCell, srcCells, sliceBounds, hiB, loB, thenQ_nA, thenQ_xA, thenQ_rA, runK_nA, runK_xA, runK_rA, wrap_i64, wrap_u64, wrap_u32, wrap_u8, wrap_u16, AV.atom, normA, lkE, fixObjs, fixBody, fixV, fixCell, e4, hc1, c, c', e5, e6, e7, e8, e9, e10, e11, emul, hw1, wakes_ev]
theorem latticeCost_law (l : List AV) (h : RDargs [gCat, gN, gN] l) : ∃ H1, cfT tab 5 l [] = some (.bool true, H1) := by
  obtain ⟨c, r, rfl, hc, v, r, rfl, hv, w, r, rfl, hw, rfl⟩ := h
  obtain ⟨ds, m, rfl, hC, hm⟩ := rdarg_cat hc
  obtain ⟨v, rfl, hv'⟩ := rdarg_n hv
  obtain ⟨w, rfl, hw'⟩ := rdarg_n hw
  exact cvF_bool (latticeCost_ev ds m v w hC hv' hw')
theorem latticeCost_lifted (os : Os) (started : os.Started) (H : Type) (enc : TypeId × Value → H) :
    ReturnsInHanded {} Try.checked os 5 .any (Rows.latticeCostSpec.pre6 enc Try.prog Try.f5 Rows.latticeCostRow.domain false) (Rows.latticeCostSpec.post enc Try.prog Try.f5 false true false false) := by
  refine returnsInHanded_of_change (C := Try.checked) Try.own started (by kernel_rfl) Try.func5
    (ChangeSpec.witness6 (enc := enc) (C := Try.checked) false ⟨#[], #[.agg #[.slice none 0 0, .int .i64 0], .agg #[.int .u8 0, .int .u8 0, .int .u8 0, .int .u8 0], .agg #[.int .u8 0, .int .u8 0, .int .u8 0, .int .u8 0]], []⟩ 8 (by kernel_rfl) (by kernel_rfl) (by kernel_rfl) (by kernel_rfl)) ?_
  intro W base args ds gs before hval hW hcnd _
  have hval' : ∀ (j : Nat) (t : TypeId) (v : Value), Try.f5.params.toList[j]? = some t → args[j]? = some v → Value.okWide Try.prog W .any base t v := fun j t v h1 h2 => hval j t v (by simpa using h1) h2
  obtain ⟨p, q, hA, hV, hpq, _, _⟩ := id hW
  have hg : gtsB Try.prog [gCat, gN, gN] Try.f5.params.toList = true := by kernel_rfl
  refine (law_calls' tab_ok hg latticeCost_law hval' hA).mono fun e W' ⟨he, hb⟩ => ?_
  subst he
  refine ⟨_, rfl, post_true Try.laidOut (rt := 4) (fun ds h => ?_) rfl (by kernel_rfl) (by kernel_rfl) (by kernel_rfl) hW hb⟩
  match ds, h with
  | [_, _, _], _ => rfl
theorem latticeCost_holds : Rows.LatticeCostSaid :=
  OpenClaim.holds_of_wide 5 Try.f5 rfl rfl rfl rfl rfl rfl rfl ⟨rfl, rfl, rfl, rfl, rfl⟩ rfl rfl rfl rfl rfl (by kernel_rfl) Try.func5 (by kernel_rfl)
    (of_decide_eq_true (by kernel_rfl)) (by unfold Func.isWrapper; first | (rw [if_pos (by decide +kernel)]; kernel_rfl) | (rw [if_neg (by decide +kernel)]; exact ⟨rfl, rfl⟩))
    (fun os started H enc _ => latticeCost_lifted os started H enc)
end Go.Proofs.Ytldijlajoaddnaa
