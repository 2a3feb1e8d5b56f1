/- Of any catalog, any nodes: may they be, their order, what each is made out of, which one answers. -/
import Derived.Test.YtaflkcaebecpfaaRouCom
set_option linter.unusedSimpArgs false
set_option linter.unusedVariables false
set_option maxHeartbeats 4000000
set_option maxRecDepth 100000
namespace Go.Proofs.Ytaflkcaebecpfaa
open Go.Ev
theorem routeTells_ev (ds : List Dm) (m : Int) (l : List (List Int)) (i : Int) (need : List Int) (hC : okC ds) (hl : okNs l) (hn : okN need) :
    cvF tab 3 [.agg (.ro ds.length (flatD ds) :: .int .i64 m :: rN l :: .int .i64 i :: need.map (.int .u8))] = some (.bool true) := by
  refine cvFA_R (mf := Mf.f3) rfl rfl (by kernel_rfl) ?_
  simp only [Mf.f3]
  have e1 := lightCat_ev ds m
  have e2 := told_ev ds m l i need hC hl hn
  have e3 := fun k => told_ev ds m l k need hC hl hn
  have hl2 : okNs (l ++ [need]) := fun v hv => (List.mem_append.1 hv).elim (hl v) (fun h => by simp at h; rw [h]; exact hn)
  have e4 := told_ev ds m (l ++ [need]) 0 need hC hl2 hn
  have hfl := flatN_len hl.len
  obtain ⟨a, b, c, d, rfl, _, _, _, _⟩ := four hn
  have hap : flatN (l ++ [[a, b, c, d]]) = flatN l ++ [.int .u8 a, .int .u8 b, .int .u8 c, .int .u8 d] := by rw [flatN_append]; rfl
  have htree : (flatN l).all AV.tree = true := by
    refine List.all_eq_true.2 fun x hx => ?_
    clear hfl hap e4 e3 e2 e1 hl2
    induction l with
    | nil => cases hx
    | cons v l ih =>
      simp only [flatN, List.mem_append] at hx
      rcases hx with h | h
      · obtain ⟨z, _, rfl⟩ := List.mem_map.1 h; rfl
      · exact ih (fun w hw => hl w (by simp [hw])) h
  simp only [rN, hap, List.length_append, List.length_cons, List.length_nil, List.map_cons, List.map_nil] at e2 e3 e4 ⊢
  cases gl : lightC ds with
  | false =>
    rw [gl] at e1
    simp [beqI, bneI, mm_min2, mm_max2, mm_min3, mm_max3, startE, lkE, lkX, lkE_rest, sx, substE, opVA, objs0, List.replicate, XA_seq, XA_region, XOA_go, goE_someA, opV, ev, putA, layAll, XOA_nil, XA_skip_seq, XA_skip_nil, XOA_gd, goG_tA, goG_uA, binV, binInt, unV, XA_ret_nil, XA_ret_cons, endFA_r, endFA_n, endTA_r, endTA_n, endRA_r, endRA_n, fltR, resultsA, resAs, resA, XA_block, XA_cond, pickX_t, pickX_f, pickX_b, XA_skip_blk, XA_skip_lp, XA_exit_seq, XA_exit_lp, XA_exit_blk, XA_exit_nil, load1, Ev.loadCells, objCells, bodyCells, setCells, AV.flat, AV.flat1, backR, backV, backCell, mapO, AV.cells, AV.atom, AV.tree, fillV, repeatL, treeCell, freezeAll, eqCells, callV_T, callV_F, passV, passCell, srcCells, sliceBounds, hiB, loB, thenQ_nA, thenQ_xA, thenQ_rA, runK_nA, runK_xA, runK_rA, wrap_i64, wrap_u64, wrap_u32, wrap_u8, wrap_u16, e1, wakes_ev]
  | true =>
    rw [gl] at e1
    by_cases c30 : 30 < l.length
    · have c30' : (30 : Int) < (l.length : Int) := by omega
      simp [beqI, bneI, mm_min2, mm_max2, mm_min3, mm_max3, startE, lkE, lkX, lkE_rest, sx, substE, opVA, objs0, List.replicate, XA_seq, XA_region, XOA_go, goE_someA, opV, ev, putA, layAll, XOA_nil, XA_skip_seq, XA_skip_nil, XOA_gd, goG_tA, goG_uA, binV, binInt, unV, XA_ret_nil, XA_ret_cons, endFA_r, endFA_n, endTA_r, endTA_n, endRA_r, endRA_n, fltR, resultsA, resAs, resA, XA_block, XA_cond, pickX_t, pickX_f, pickX_b, XA_skip_blk, XA_skip_lp, XA_exit_seq, XA_exit_lp, XA_exit_blk, XA_exit_nil, load1, Ev.loadCells, objCells, bodyCells, setCells, AV.flat, AV.flat1, backR, backV, backCell, mapO, AV.cells, AV.atom, AV.tree, fillV, repeatL, treeCell, freezeAll, eqCells, callV_T, callV_F, passV, passCell, srcCells, sliceBounds, hiB, loB, thenQ_nA, thenQ_xA, thenQ_rA, runK_nA, runK_xA, runK_rA, wrap_i64, wrap_u64, wrap_u32, wrap_u8, wrap_u16, e1, c30', wakes_ev]
    · have c30' : ¬ (30 : Int) < (l.length : Int) := by omega
      generalize hNN : l.length = n at *
      generalize hFF : flatN l = fl at *
      simp [beqI, bneI, mm_min2, mm_max2, mm_min3, mm_max3, startE, lkE, lkX, lkE_rest, sx, substE, opVA, objs0, List.replicate, XA_seq, XA_region, XOA_go, goE_someA, opV, ev, putA, layAll, XOA_nil, XA_skip_seq, XA_skip_nil, XOA_gd, goG_tA, goG_uA, binV, binInt, unV, XA_ret_nil, XA_ret_cons, endFA_r, endFA_n, endTA_r, endTA_n, endRA_r, endRA_n, fltR, resultsA, resAs, resA, XA_block, XA_cond, pickX_t, pickX_f, pickX_b, XA_skip_blk, XA_skip_lp, XA_exit_seq, XA_exit_lp, XA_exit_blk, XA_exit_nil, load1, Ev.loadCells, objCells, bodyCells, setCells, AV.flat, AV.flat1, backR, backV, backCell, mapO, AV.cells, AV.atom, AV.tree, fillV, repeatL, treeCell, freezeAll, eqCells, callV_T, callV_F, passV, passCell, srcCells, sliceBounds, hiB, loB, thenQ_nA, thenQ_xA, thenQ_rA, runK_nA, runK_xA, runK_rA, wrap_i64, wrap_u64, wrap_u32, wrap_u8, wrap_u16, e1, c30']
      refine XA_for (fun k => ⟨[(1, .ptr 0 0 0), (3, .int .i64 ((k : Int) - 1))], [⟨0, .var [.ro ds.length (flatD ds), .int .i64 m, .ro n fl, .int .i64 i, .int .u8 a, .int .u8 b, .int .u8 c, .int .u8 d]⟩, ⟨0, .none⟩]⟩)
        (fun _ => True) (n + 2) 0 (by omega) (by simp [AV.atom, normA, lkE, fixObjs, fixBody, fixV, fixCell]) trivial ?_ ?_
      · intro k _ hk _
        have hk' : (k : Int) - 1 ≤ n := by omega
        have hw : IntKind.i64.wrap (k : Int) = (k : Int) := wrap_i64 (by omega) (by omega)
        simp [beqI, bneI, mm_min2, mm_max2, mm_min3, mm_max3, startE, lkE, lkX, lkE_rest, sx, substE, opVA, objs0, List.replicate, XA_seq, XA_region, XOA_go, goE_someA, opV, ev, putA, layAll, XOA_nil, XA_skip_seq, XA_skip_nil, XOA_gd, goG_tA, goG_uA, binV, binInt, unV, XA_ret_nil, XA_ret_cons, endFA_r, endFA_n, endTA_r, endTA_n, endRA_r, endRA_n, fltR, resultsA, resAs, resA, XA_block, XA_cond, pickX_t, pickX_f, pickX_b, XA_skip_blk, XA_skip_lp, XA_exit_seq, XA_exit_lp, XA_exit_blk, XA_exit_nil, load1, Ev.loadCells, objCells, bodyCells, setCells, AV.flat, AV.flat1, backR, backV, backCell, mapO, AV.cells, AV.atom, AV.tree, fillV, repeatL, treeCell, freezeAll, eqCells, callV_T, callV_F, passV, passCell, srcCells, sliceBounds, hiB, loB, thenQ_nA, thenQ_xA, thenQ_rA, runK_nA, runK_xA, runK_rA, wrap_i64, wrap_u64, wrap_u32, wrap_u8, wrap_u16, AV.atom, normA, lkE, fixObjs, fixBody, fixV, fixCell, hk', e3, hw]
      · intro _
        have hk' : ¬ ((n : Int) + 2 - 1 ≤ n) := by omega
        have q1 : n * 4 ≤ 140737488355328 := by omega
        have q2 : n < 4611686018427387904 := by omega
        have q3 : (n + 1) * 4 ≤ 140737488355328 := by omega
        have q4 : n + 1 < 4611686018427387904 := by omega
        have q5 : List.take ((n + 1) * 4) (fl ++ [AV.int .u8 a, .int .u8 b, .int .u8 c, .int .u8 d]) = fl ++ [.int .u8 a, .int .u8 b, .int .u8 c, .int .u8 d] := List.take_of_length_le (by simp; omega)
        have q6 : (n + 1) * 4 ≤ n * 4 + 4 := by omega
        simp at e4
        simp [beqI, bneI, mm_min2, mm_max2, mm_min3, mm_max3, startE, lkE, lkX, lkE_rest, sx, substE, opVA, objs0, List.replicate, XA_seq, XA_region, XOA_go, goE_someA, opV, ev, putA, layAll, XOA_nil, XA_skip_seq, XA_skip_nil, XOA_gd, goG_tA, goG_uA, binV, binInt, unV, XA_ret_nil, XA_ret_cons, endFA_r, endFA_n, endTA_r, endTA_n, endRA_r, endRA_n, fltR, resultsA, resAs, resA, XA_block, XA_cond, pickX_t, pickX_f, pickX_b, XA_skip_blk, XA_skip_lp, XA_exit_seq, XA_exit_lp, XA_exit_blk, XA_exit_nil, load1, Ev.loadCells, objCells, bodyCells, setCells, AV.flat, AV.flat1, backR, backV, backCell, mapO, AV.cells, AV.atom, AV.tree, fillV, repeatL, treeCell, freezeAll, eqCells, callV_T, callV_F, passV, passCell, srcCells, sliceBounds, hiB, loB, thenQ_nA, thenQ_xA, thenQ_rA, runK_nA, runK_xA, runK_rA, wrap_i64, wrap_u64, wrap_u32, wrap_u8, wrap_u16, AV.atom, normA, lkE, fixObjs, fixBody, fixV, fixCell, hk', e2, e4, hfl, htree, q1, q2, q3, q4, q5, q6, wakes_ev]
def gAskR : GT := .pair gCat (.pair (.slice gN) (.pair (.int .i64) (.pair gN .unit)))
theorem routeTells_law (l : List AV) (h : RDargs [gAskR] l) : ∃ H1, cfT tab 3 l [] = some (.bool true, H1) := by
  obtain ⟨x, r, rfl, hx, rfl⟩ := h
  simp only [RDarg, gAskR, isAggG, if_true] at hx
  obtain ⟨cs, rfl, p, q, rfl, hp, s, t, rfl, hs, u, v, rfl, hu, w, z, rfl, hw, rfl⟩ := hx
  obtain ⟨ds, m, rfl, hC, hm⟩ := rd_cat hp
  obtain ⟨l, rfl, hl, _⟩ := rd_nodes hs
  obtain ⟨i, rfl, hi⟩ := rd_i64 hu
  obtain ⟨need, rfl, hn⟩ := rd_n hw
  have := routeTells_ev ds m l i need hC hl hn
  simp only [List.cons_append, List.nil_append, List.append_nil]
  exact cvF_bool this
theorem routeTells_lifted (os : Os) (started : os.Started) (H : Type) (enc : TypeId × Value → H) :
    ReturnsInHanded {} Try.checked os 3 .any (Rows.routeTellsSpec.pre6 enc Try.prog Try.f3 Rows.routeTellsRow.domain false) (Rows.routeTellsSpec.post enc Try.prog Try.f3 false true false false) := by
  refine returnsInHanded_of_change (C := Try.checked) Try.own started (by kernel_rfl) Try.func3
    (ChangeSpec.witness6 (enc := enc) (C := Try.checked) false ⟨#[], #[.agg #[.slice none 0 0, .int .i64 0, .slice none 0 0, .int .i64 0, .int .u8 0, .int .u8 0, .int .u8 0, .int .u8 0]], []⟩ 8 (by kernel_rfl) (by kernel_rfl) (by kernel_rfl) (by kernel_rfl)) ?_
  intro W base args ds gs before hval hW hcnd _
  have hval' : ∀ (j : Nat) (t : TypeId) (v : Value), Try.f3.params.toList[j]? = some t → args[j]? = some v → Value.okWide Try.prog W .any base t v := fun j t v h1 h2 => hval j t v (by simpa using h1) h2
  obtain ⟨p, q, hA, hV, hpq, _, _⟩ := id hW
  have hg : gtsB Try.prog [gAskR] Try.f3.params.toList = true := by kernel_rfl
  refine (law_calls' tab_ok hg routeTells_law hval' hA).mono fun e W' ⟨he, hb⟩ => ?_
  subst he
  refine ⟨_, rfl, post_true Try.laidOut (rt := 4) (fun ds h => ?_) rfl (by kernel_rfl) (by kernel_rfl) (by kernel_rfl) hW hb⟩
  match ds, h with
  | [_], _ => rfl
theorem routeTells_holds : Rows.RouteTellsSaid :=
  OpenClaim.holds_of_wide 3 Try.f3 rfl rfl rfl rfl rfl rfl rfl ⟨rfl, rfl, rfl, rfl, rfl⟩ rfl rfl rfl rfl rfl (by kernel_rfl) Try.func3 (by kernel_rfl)
    (of_decide_eq_true (by kernel_rfl)) (by unfold Func.isWrapper; first | (rw [if_pos (by decide +kernel)]; kernel_rfl) | (rw [if_neg (by decide +kernel)]; exact ⟨rfl, rfl⟩))
    (fun os started H enc _ => routeTells_lifted os started H enc)
end Go.Proofs.Ytaflkcaebecpfaa
