/- What answers lies below what is needed, and is the cheapest that does, the first of those that are as cheap; where a kept node is needed, none dearer than itself answers. -/
import Derived.Test.YtaflkcaebecpfaaRouCom
import Derived.Test.YtaflkcaebecpfaaRouG
set_option linter.unusedSimpArgs false
set_option linter.unusedVariables false
set_option maxHeartbeats 8000000
set_option maxRecDepth 100000
namespace Go.Proofs.Ytaflkcaebecpfaa
open Go.Ev
/-- There is what answers. -/
theorem best_is {ds : List Dm} {m : Int} {l : List (List Int)} (g : goodR ds m l = true) (hl : okNs l) {need : List Int} (hn : okN need) :
    ∃ s : Nat, bestN ds m l (-1) need = s ∧ s < l.length ∧ belowN (gR l s) need = true ∧ ∀ j, j < l.length → belowN (gR l j) need = true → costC ds m (gR l s) ≤ costC ds m (gR l j) ∧ (costC ds m (gR l j) = costC ds m (gR l s) → s ≤ j) := by
  obtain ⟨z, hz, ez⟩ := idx_of (goodR_at g).2.2.2.2.2
  have hne : bestN ds m l (-1) need ≠ -1 := fun h => by
    have := (chB_none _ _ _ _).1 h z hz (by omega)
    unfold okAt at this
    rw [ez, below_zero hn] at this
    cases this
  obtain ⟨s, h1, h2, _, h4, h5⟩ := chB_best _ _ _ _ hne
  exact ⟨s, h1, h2, h4, fun j hj hb => h5 j hj (by omega) hb⟩
theorem routePick_ev (ds : List Dm) (m : Int) (l : List (List Int)) (need : List Int) (hC : okC ds) (hl : okNs l) (hn : okN need) :
    cvF tab 6 [.agg [.ro ds.length (flatD ds), .int .i64 m], rN l, .agg (need.map (.int .u8))] = some (.bool true) := by
  refine cvFA_R (mf := Mf.f6) rfl rfl (by kernel_rfl) ?_
  simp only [Mf.f6]
  have e1 := lightCat_ev ds m
  have e2 := rrogood_ev ds m l hC hl
  have e3 := rGood_ev ds m need hC hn
  have e4 := pick_ev ds m l need hC hl hn
  have hneed := four hn
  cases gl : lightC ds with
  | false =>
    rw [gl] at e1
    obtain ⟨a, b, c, d, rfl, _, _, _, _⟩ := hneed
    simp [beqI, bneI, mm_min2, mm_max2, mm_min3, mm_max3, startE, lkE, lkX, lkE_rest, sx, substE, opVA, objs0, List.replicate, XA_seq, XA_region, XOA_go, goE_someA, opV, ev, putA, layAll, XOA_nil, XA_skip_seq, XA_skip_nil, XOA_gd, goG_tA, goG_uA, binV, binInt, unV, XA_ret_nil, XA_ret_cons, endFA_r, endFA_n, endTA_r, endTA_n, endRA_r, endRA_n, fltR, resultsA, resAs, resA, XA_block, XA_cond, pickX_t, pickX_f, pickX_b, XA_skip_blk, XA_skip_lp, XA_exit_seq, XA_exit_lp, XA_exit_blk, XA_exit_nil, load1, Ev.loadCells, objCells, bodyCells, setCells, AV.flat, AV.flat1, backR, backV, backCell, mapO, AV.cells, AV.atom, AV.tree, fillV, repeatL, treeCell, freezeAll, eqCells, callV_T, callV_F, passN, passV, passCell, srcCells, sliceBounds, hiB, loB, thenQ_nA, thenQ_xA, thenQ_rA, runK_nA, runK_xA, runK_rA, wrap_i64, wrap_u64, wrap_u32, wrap_u8, wrap_u16, e1, wakes_ev]
  | true =>
    rw [gl] at e1
    cases g : goodR ds m l with
    | false =>
      rw [g] at e2
      obtain ⟨a, b, c, d, rfl, _, _, _, _⟩ := hneed
      simp only [rN] at e2
      simp [beqI, bneI, mm_min2, mm_max2, mm_min3, mm_max3, startE, lkE, lkX, lkE_rest, sx, substE, opVA, objs0, List.replicate, XA_seq, XA_region, XOA_go, goE_someA, opV, ev, putA, layAll, XOA_nil, XA_skip_seq, XA_skip_nil, XOA_gd, goG_tA, goG_uA, binV, binInt, unV, XA_ret_nil, XA_ret_cons, endFA_r, endFA_n, endTA_r, endTA_n, endRA_r, endRA_n, fltR, resultsA, resAs, resA, XA_block, XA_cond, pickX_t, pickX_f, pickX_b, XA_skip_blk, XA_skip_lp, XA_exit_seq, XA_exit_lp, XA_exit_blk, XA_exit_nil, load1, Ev.loadCells, objCells, bodyCells, setCells, AV.flat, AV.flat1, backR, backV, backCell, mapO, AV.cells, AV.atom, AV.tree, fillV, repeatL, treeCell, freezeAll, eqCells, callV_T, callV_F, passN, passV, passCell, srcCells, sliceBounds, hiB, loB, thenQ_nA, thenQ_xA, thenQ_rA, runK_nA, runK_xA, runK_rA, wrap_i64, wrap_u64, wrap_u32, wrap_u8, wrap_u16, rN, e1, e2, wakes_ev]
    | true =>
      rw [g] at e2 e4
      cases gn : goodN ds m need with
      | false =>
        rw [gn] at e3
        obtain ⟨a, b, c, d, rfl, _, _, _, _⟩ := hneed
        simp only [rN, List.map_cons, List.map_nil] at e2 e3
        simp [beqI, bneI, mm_min2, mm_max2, mm_min3, mm_max3, startE, lkE, lkX, lkE_rest, sx, substE, opVA, objs0, List.replicate, XA_seq, XA_region, XOA_go, goE_someA, opV, ev, putA, layAll, XOA_nil, XA_skip_seq, XA_skip_nil, XOA_gd, goG_tA, goG_uA, binV, binInt, unV, XA_ret_nil, XA_ret_cons, endFA_r, endFA_n, endTA_r, endTA_n, endRA_r, endRA_n, fltR, resultsA, resAs, resA, XA_block, XA_cond, pickX_t, pickX_f, pickX_b, XA_skip_blk, XA_skip_lp, XA_exit_seq, XA_exit_lp, XA_exit_blk, XA_exit_nil, load1, Ev.loadCells, objCells, bodyCells, setCells, AV.flat, AV.flat1, backR, backV, backCell, mapO, AV.cells, AV.atom, AV.tree, fillV, repeatL, treeCell, freezeAll, eqCells, callV_T, callV_F, passN, passV, passCell, srcCells, sliceBounds, hiB, loB, thenQ_nA, thenQ_xA, thenQ_rA, runK_nA, runK_xA, runK_rA, wrap_i64, wrap_u64, wrap_u32, wrap_u8, wrap_u16, rN, e1, e2, e3, wakes_ev]
      | true =>
        rw [gn] at e3 e4
        simp only [and_self, if_true] at e4
        obtain ⟨p, hp, hpl, hpb, hpa⟩ := best_is g hl hn
        rw [hp] at e4
        have h12 := (goodR_at g).2.2.1
        have hpl' : (p : Int) < l.length := by omega
        have hpl2 : ¬ (l.length : Int) ≤ (p : Int) := by omega
        have hp0 : (0 : Int) ≤ (p : Int) := by omega
        have hpn : ¬ (p : Int) < 0 := by omega
        have hdp := dropV hl hpl
        have e5 := rbelow_ev (gR l p) need (hl.at hpl) hn
        rw [hpb] at e5
        have e6 := rcost_ev ds m (gR l p) hC (hl.at hpl)
        have e7 : ∀ k, k < l.length → cvF tab 14 [.agg ((gR l k).map (.int .u8)), .agg (need.map (.int .u8))] = some (.bool (belowN (gR l k) need)) := fun k hk => rbelow_ev (gR l k) need (hl.at hk) hn
        generalize costC ds m (gR l p) = CP at *
        obtain ⟨p0, p1, p2, p3, hpv, _, _, _, _⟩ := four (hl.at hpl)
        rw [hpv] at hdp e5 e6
        have hpick : ∀ k, k < l.length → ∃ q : Nat, cvF tab 17 [.agg [.ro ds.length (flatD ds), .int .i64 m], rN l, .agg ((gR l k).map (.int .u8))] = some (.int .i64 q) ∧ q < l.length ∧ costC ds m (gR l q) ≤ costC ds m (gR l k) := fun k hk => by
          have := pick_ev ds m l (gR l k) hC hl (hl.at hk)
          obtain ⟨q, h1, h2, h3, h4⟩ := best_is g hl (hl.at hk)
          rw [g, (goodR_at g).2.2.2.1 k hk, h1] at this
          simp only [and_self, if_true] at this
          exact ⟨q, this, h2, (h4 k hk (below_refl (hl.at hk))).1⟩
        obtain ⟨ND, hND⟩ : ∃ x, need = x := ⟨_, rfl⟩
        obtain ⟨a, b, c, d, hv, _, _, _, _⟩ := hneed
        subst hND
        rw [hv] at e3 e4 e5
        simp only [rN, List.map_cons, List.map_nil, List.cons_append, List.nil_append] at e2 e3 e4 e5 e6 hdp
        rw [hv]
        simp [beqI, bneI, mm_min2, mm_max2, mm_min3, mm_max3, startE, lkE, lkX, lkE_rest, sx, substE, opVA, objs0, List.replicate, XA_seq, XA_region, XOA_go, goE_someA, opV, ev, putA, layAll, XOA_nil, XA_skip_seq, XA_skip_nil, XOA_gd, goG_tA, goG_uA, binV, binInt, unV, XA_ret_nil, XA_ret_cons, endFA_r, endFA_n, endTA_r, endTA_n, endRA_r, endRA_n, fltR, resultsA, resAs, resA, XA_block, XA_cond, pickX_t, pickX_f, pickX_b, XA_skip_blk, XA_skip_lp, XA_exit_seq, XA_exit_lp, XA_exit_blk, XA_exit_nil, load1, Ev.loadCells, objCells, bodyCells, setCells, AV.flat, AV.flat1, backR, backV, backCell, mapO, AV.cells, AV.atom, AV.tree, fillV, repeatL, treeCell, freezeAll, eqCells, callV_T, callV_F, passN, passV, passCell, srcCells, sliceBounds, hiB, loB, thenQ_nA, thenQ_xA, thenQ_rA, runK_nA, runK_xA, runK_rA, wrap_i64, wrap_u64, wrap_u32, wrap_u8, wrap_u16, rN, e1, e2, e3, e4, e5, hpl', hpl2, hp0, hpn, hdp]
        refine XA_for (fun k => ⟨[(1, .ro l.length (flatN l)), (3, .ptr 0 0 0), (5, .ptr 1 0 0), (7, .int .i64 p), (8, .int .i64 k)], [⟨0, .var [.ro ds.length (flatD ds), .int .i64 m]⟩, ⟨0, .var [.int .u8 a, .int .u8 b, .int .u8 c, .int .u8 d]⟩]⟩)
          (fun _ => True) l.length 0 (by omega) (by simp [AV.atom, normA, lkE, fixObjs, fixBody, fixV, fixCell]) trivial ?_ ?_
        · intro k _ hk _
          have hk' : (k : Int) < l.length := by omega
          have hdk := dropV hl hk
          have f1 := e7 k hk
          have f2 := rcost_ev ds m (gR l k) hC (hl.at hk)
          obtain ⟨q, f3, hq, hqc⟩ := hpick k hk
          have hdq := dropV hl hq
          have hq' : (q : Int) < l.length := by omega
          have hq2 : ¬ (l.length : Int) ≤ (q : Int) := by omega
          have hq0 : (0 : Int) ≤ (q : Int) := by omega
          have hqn : ¬ (q : Int) < 0 := by omega
          have f4 := rcost_ev ds m (gR l q) hC (hl.at hq)
          have hbest := hpa k hk
          have hw := wrap_succ k l.length hk (by omega)
          generalize belowN (gR l k) need = F at *
          generalize costC ds m (gR l k) = CK at *
          generalize costC ds m (gR l q) = CQ at *
          obtain ⟨k0, k1, k2, k3, hkv, _, _, _, _⟩ := four (hl.at hk)
          obtain ⟨q0, q1, q2, q3, hqv, _, _, _, _⟩ := four (hl.at hq)
          rw [hkv] at hdk f1 f2 f3
          rw [hqv] at hdq f4
          rw [hv] at f1
          simp only [rN, List.map_cons, List.map_nil, List.cons_append, List.nil_append] at hdk hdq f1 f2 f3 f4
          have hcc : ¬ CK < CQ := by omega
          cases F with
          | false => simp [beqI, bneI, mm_min2, mm_max2, mm_min3, mm_max3, startE, lkE, lkX, lkE_rest, sx, substE, opVA, objs0, List.replicate, XA_seq, XA_region, XOA_go, goE_someA, opV, ev, putA, layAll, XOA_nil, XA_skip_seq, XA_skip_nil, XOA_gd, goG_tA, goG_uA, binV, binInt, unV, XA_ret_nil, XA_ret_cons, endFA_r, endFA_n, endTA_r, endTA_n, endRA_r, endRA_n, fltR, resultsA, resAs, resA, XA_block, XA_cond, pickX_t, pickX_f, pickX_b, XA_skip_blk, XA_skip_lp, XA_exit_seq, XA_exit_lp, XA_exit_blk, XA_exit_nil, load1, Ev.loadCells, objCells, bodyCells, setCells, AV.flat, AV.flat1, backR, backV, backCell, mapO, AV.cells, AV.atom, AV.tree, fillV, repeatL, treeCell, freezeAll, eqCells, callV_T, callV_F, passN, passV, passCell, srcCells, sliceBounds, hiB, loB, thenQ_nA, thenQ_xA, thenQ_rA, runK_nA, runK_xA, runK_rA, wrap_i64, wrap_u64, wrap_u32, wrap_u8, wrap_u16, AV.atom, normA, lkE, fixObjs, fixBody, fixV, fixCell, hk', hdk, hdq, f1, f2, f3, f4, hq', hq2, hq0, hqn, hcc, hw]
          | true =>
            have h1 := hbest rfl
            have c1 : ¬ CK < CP := by omega
            by_cases c2 : CK = CP
            · have c3 : ¬ (k : Int) < (p : Int) := by have := h1.2 c2; omega
              have c3' : ¬ k < p := by omega
              subst c2
              simp [beqI, bneI, mm_min2, mm_max2, mm_min3, mm_max3, startE, lkE, lkX, lkE_rest, sx, substE, opVA, objs0, List.replicate, XA_seq, XA_region, XOA_go, goE_someA, opV, ev, putA, layAll, XOA_nil, XA_skip_seq, XA_skip_nil, XOA_gd, goG_tA, goG_uA, binV, binInt, unV, XA_ret_nil, XA_ret_cons, endFA_r, endFA_n, endTA_r, endTA_n, endRA_r, endRA_n, fltR, resultsA, resAs, resA, XA_block, XA_cond, pickX_t, pickX_f, pickX_b, XA_skip_blk, XA_skip_lp, XA_exit_seq, XA_exit_lp, XA_exit_blk, XA_exit_nil, load1, Ev.loadCells, objCells, bodyCells, setCells, AV.flat, AV.flat1, backR, backV, backCell, mapO, AV.cells, AV.atom, AV.tree, fillV, repeatL, treeCell, freezeAll, eqCells, callV_T, callV_F, passN, passV, passCell, srcCells, sliceBounds, hiB, loB, thenQ_nA, thenQ_xA, thenQ_rA, runK_nA, runK_xA, runK_rA, wrap_i64, wrap_u64, wrap_u32, wrap_u8, wrap_u16, AV.atom, normA, lkE, fixObjs, fixBody, fixV, fixCell, hk', hdk, hdq, hdp, hpl', hp0, e6, f1, f2, f3, f4, hq', hq2, hq0, hqn, hcc, hw, c3, c3']
            · simp [beqI, bneI, mm_min2, mm_max2, mm_min3, mm_max3, startE, lkE, lkX, lkE_rest, sx, substE, opVA, objs0, List.replicate, XA_seq, XA_region, XOA_go, goE_someA, opV, ev, putA, layAll, XOA_nil, XA_skip_seq, XA_skip_nil, XOA_gd, goG_tA, goG_uA, binV, binInt, unV, XA_ret_nil, XA_ret_cons, endFA_r, endFA_n, endTA_r, endTA_n, endRA_r, endRA_n, fltR, resultsA, resAs, resA, XA_block, XA_cond, pickX_t, pickX_f, pickX_b, XA_skip_blk, XA_skip_lp, XA_exit_seq, XA_exit_lp, XA_exit_blk, XA_exit_nil, load1, Ev.loadCells, objCells, bodyCells, setCells, AV.flat, AV.flat1, backR, backV, backCell, mapO, AV.cells, AV.atom, AV.tree, fillV, repeatL, treeCell, freezeAll, eqCells, callV_T, callV_F, passN, passV, passCell, srcCells, sliceBounds, hiB, loB, thenQ_nA, thenQ_xA, thenQ_rA, runK_nA, runK_xA, runK_rA, wrap_i64, wrap_u64, wrap_u32, wrap_u8, wrap_u16, AV.atom, normA, lkE, fixObjs, fixBody, fixV, fixCell, hk', hdk, hdq, hdp, hpl', hp0, e6, f1, f2, f3, f4, hq', hq2, hq0, hqn, hcc, hw, c1, c2]
        · intro _
          simp [beqI, bneI, mm_min2, mm_max2, mm_min3, mm_max3, startE, lkE, lkX, lkE_rest, sx, substE, opVA, objs0, List.replicate, XA_seq, XA_region, XOA_go, goE_someA, opV, ev, putA, layAll, XOA_nil, XA_skip_seq, XA_skip_nil, XOA_gd, goG_tA, goG_uA, binV, binInt, unV, XA_ret_nil, XA_ret_cons, endFA_r, endFA_n, endTA_r, endTA_n, endRA_r, endRA_n, fltR, resultsA, resAs, resA, XA_block, XA_cond, pickX_t, pickX_f, pickX_b, XA_skip_blk, XA_skip_lp, XA_exit_seq, XA_exit_lp, XA_exit_blk, XA_exit_nil, load1, Ev.loadCells, objCells, bodyCells, setCells, AV.flat, AV.flat1, backR, backV, backCell, mapO, AV.cells, AV.atom, AV.tree, fillV, repeatL, treeCell, freezeAll, eqCells, callV_T, callV_F, passN, passV, passCell, srcCells, sliceBounds, hiB, loB, thenQ_nA, thenQ_xA, thenQ_rA, runK_nA, runK_xA, runK_rA, wrap_i64, wrap_u64, wrap_u32, wrap_u8, wrap_u16, AV.atom, normA, lkE, fixObjs, fixBody, fixV, fixCell, wakes_ev]
theorem routePick_law (l : List AV) (h : RDargs [gCat, .slice gN, gN] l) : ∃ H1, cfT tab 6 l [] = some (.bool true, H1) := by
  obtain ⟨x, r, rfl, hx, y, r, rfl, hy, t, r, rfl, ht, rfl⟩ := h
  obtain ⟨ds, m, rfl, hC, hm⟩ := rdarg_cat hx
  obtain ⟨l, rfl, hl, _⟩ := rdarg_nodes hy
  obtain ⟨v, rfl, hv⟩ := rdarg_n ht
  exact cvF_bool (routePick_ev ds m l v hC hl hv)
theorem routePick_lifted (os : Os) (started : os.Started) (H : Type) (enc : TypeId × Value → H) :
    ReturnsInHanded {} Try.checked os 6 .any (Rows.routePickSpec.pre6 enc Try.prog Try.f6 Rows.routePickRow.domain false) (Rows.routePickSpec.post enc Try.prog Try.f6 false true false false) := by
  refine returnsInHanded_of_change (C := Try.checked) Try.own started (by kernel_rfl) Try.func6
    (ChangeSpec.witness6 (enc := enc) (C := Try.checked) false ⟨#[], #[.agg #[.slice none 0 0, .int .i64 0], .slice none 0 0, .agg #[.int .u8 0, .int .u8 0, .int .u8 0, .int .u8 0]], []⟩ 8 (by kernel_rfl) (by kernel_rfl) (by kernel_rfl) (by kernel_rfl)) ?_
  intro W base args ds gs before hval hW hcnd _
  have hval' : ∀ (j : Nat) (t : TypeId) (v : Value), Try.f6.params.toList[j]? = some t → args[j]? = some v → Value.okWide Try.prog W .any base t v := fun j t v h1 h2 => hval j t v (by simpa using h1) h2
  obtain ⟨p, q, hA, hV, hpq, _, _⟩ := id hW
  have hg : gtsB Try.prog [gCat, .slice gN, gN] Try.f6.params.toList = true := by kernel_rfl
  refine (law_calls' tab_ok hg routePick_law hval' hA).mono fun e W' ⟨he, hb⟩ => ?_
  subst he
  refine ⟨_, rfl, post_true Try.laidOut (rt := 4) (fun ds h => ?_) rfl (by kernel_rfl) (by kernel_rfl) (by kernel_rfl) hW hb⟩
  match ds, h with
  | [_, _, _], _ => rfl
theorem routePick_holds : Rows.RoutePickSaid :=
  OpenClaim.holds_of_wide 6 Try.f6 rfl rfl rfl rfl rfl rfl rfl ⟨rfl, rfl, rfl, rfl, rfl⟩ rfl rfl rfl rfl rfl (by kernel_rfl) Try.func6 (by kernel_rfl)
    (of_decide_eq_true (by kernel_rfl)) (by unfold Func.isWrapper; first | (rw [if_pos (by decide +kernel)]; kernel_rfl) | (rw [if_neg (by decide +kernel)]; exact ⟨rfl, rfl⟩))
    (fun os started H enc _ => routePick_lifted os started H enc)
end Go.Proofs.Ytaflkcaebecpfaa
