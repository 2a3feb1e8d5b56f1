/- Queries sliced, diced, rolled up, drilled down. -/
import Derived.Test.YtambpbcdnhekbaaQO
set_option linter.unusedSimpArgs false
set_option linter.unusedVariables false
set_option maxHeartbeats 16000000
set_option maxRecDepth 100000
namespace Go.Proofs.Ytambpbcdnhekbaa
open Go.Ev
theorem mod_ev (x n : Int) (hx : inI x) (hn : 0 < n) (hn2 : n ≤ 1000000) : cvF tab 13 [.int .i64 x, .int .i64 n] = some (.int .i64 (x % n)) := by
  refine cvFA_R (mf := Mf.f13) rfl rfl (by kernel_rfl) ?_
  simp only [Mf.f13]
  have hn0 : ¬ n = 0 := by omega
  unfold inI at hx
  have h1 := Int.emod_nonneg x hn0
  have h2 := Int.emod_lt_of_pos x hn
  by_cases c : 0 ≤ x
  · have e : x.tmod n = x % n := Int.tmod_eq_emod_of_nonneg c
    have c2 : ¬ x % n < 0 := by omega
    simp [beqI, bneI, mm_min2, mm_max2, mm_min3, mm_max3, startE, lkE, lkX, lkE_rest, sx, substE, opVA, objs0, List.replicate, XA_seq, XA_region, XOA_go, goE_someA, opV, ev, putA, layAll, XOA_nil, XA_skip_seq, XA_skip_nil, XOA_gd, goG_tA, goG_uA, binV, bi_add, bi_sub, bi_mul, bi_quo, bi_rem, bi_eql, bi_neq, bi_lss, bi_leq, bi_gtr, bi_geq, bi_shl, bi_shr, bi_and, bi_or, bi_xor, unV, XA_ret_nil, XA_ret_cons, endFA_r, endFA_n, endTA_r, endTA_n, endRA_r, endRA_n, fltR, resultsA, resAs, resA, XA_block, XA_cond, pickX_t, pickX_f, pickX_b, XA_skip_blk, XA_skip_lp, XA_exit_seq, XA_exit_lp, XA_exit_blk, XA_exit_nil, load1, Ev.loadCells, objCells, bodyCells, setCells, AV.flat, AV.flat1, backR, backV, backCell, mapO, AV.cells, AV.atom, AV.tree, fillV, repeatL, treeCell, freezeAll, eqCells, callV_T, callV_F, passN, passV, passCell, srcCells, sliceBounds, hiB, loB, thenQ_nA, thenQ_xA, thenQ_rA, runK_nA, runK_xA, runK_rA, wrap_i64, wrap_u64, wrap_u32, wrap_u8, wrap_u16, hn0, e, c2]
  · by_cases c3 : x % n = 0
    · have e : x.tmod n = 0 := by
        rw [Int.tmod_eq_emod]
        have : n ∣ x := Int.dvd_of_emod_eq_zero c3
        simp [c3, this]
      simp [beqI, bneI, mm_min2, mm_max2, mm_min3, mm_max3, startE, lkE, lkX, lkE_rest, sx, substE, opVA, objs0, List.replicate, XA_seq, XA_region, XOA_go, goE_someA, opV, ev, putA, layAll, XOA_nil, XA_skip_seq, XA_skip_nil, XOA_gd, goG_tA, goG_uA, binV, bi_add, bi_sub, bi_mul, bi_quo, bi_rem, bi_eql, bi_neq, bi_lss, bi_leq, bi_gtr, bi_geq, bi_shl, bi_shr, bi_and, bi_or, bi_xor, unV, XA_ret_nil, XA_ret_cons, endFA_r, endFA_n, endTA_r, endTA_n, endRA_r, endRA_n, fltR, resultsA, resAs, resA, XA_block, XA_cond, pickX_t, pickX_f, pickX_b, XA_skip_blk, XA_skip_lp, XA_exit_seq, XA_exit_lp, XA_exit_blk, XA_exit_nil, load1, Ev.loadCells, objCells, bodyCells, setCells, AV.flat, AV.flat1, backR, backV, backCell, mapO, AV.cells, AV.atom, AV.tree, fillV, repeatL, treeCell, freezeAll, eqCells, callV_T, callV_F, passN, passV, passCell, srcCells, sliceBounds, hiB, loB, thenQ_nA, thenQ_xA, thenQ_rA, runK_nA, runK_xA, runK_rA, wrap_i64, wrap_u64, wrap_u32, wrap_u8, wrap_u16, hn0, e, c3]
    · have e : x.tmod n = x % n - n := by
        rw [Int.tmod_eq_emod]
        have : ¬ n ∣ x := fun h => c3 (Int.emod_eq_zero_of_dvd h)
        have hneg : ¬ 0 ≤ x := c
        simp [this, hneg]
        omega
      have c2 : x % n - n < 0 := by omega
      have w : IntKind.i64.wrap (x % n - n + n) = x % n := by rw [wrap_i64 (by omega) (by omega)]; omega
      have w2 : IntKind.i64.wrap (x % n) = x % n := wrap_i64 (by omega) (by omega)
      simp [beqI, bneI, mm_min2, mm_max2, mm_min3, mm_max3, startE, lkE, lkX, lkE_rest, sx, substE, opVA, objs0, List.replicate, XA_seq, XA_region, XOA_go, goE_someA, opV, ev, putA, layAll, XOA_nil, XA_skip_seq, XA_skip_nil, XOA_gd, goG_tA, goG_uA, binV, bi_add, bi_sub, bi_mul, bi_quo, bi_rem, bi_eql, bi_neq, bi_lss, bi_leq, bi_gtr, bi_geq, bi_shl, bi_shr, bi_and, bi_or, bi_xor, unV, XA_ret_nil, XA_ret_cons, endFA_r, endFA_n, endTA_r, endTA_n, endRA_r, endRA_n, fltR, resultsA, resAs, resA, XA_block, XA_cond, pickX_t, pickX_f, pickX_b, XA_skip_blk, XA_skip_lp, XA_exit_seq, XA_exit_lp, XA_exit_blk, XA_exit_nil, load1, Ev.loadCells, objCells, bodyCells, setCells, AV.flat, AV.flat1, backR, backV, backCell, mapO, AV.cells, AV.atom, AV.tree, fillV, repeatL, treeCell, freezeAll, eqCells, callV_T, callV_F, passN, passV, passCell, srcCells, sliceBounds, hiB, loB, thenQ_nA, thenQ_xA, thenQ_rA, runK_nA, runK_xA, runK_rA, wrap_i64, wrap_u64, wrap_u32, wrap_u8, wrap_u16, hn0, e, c2, w2]
theorem turns_ev (ds : List Dm) (m : Int) (q : Qy) (x y z : Int) (hC : okC ds) (hq : okQ q) (hx : inI x) (hy : inI y) (hz : inI z) :
    cvF tab 14 [.agg [.ro ds.length (flatD ds), .int .i64 m], .agg (qyC q), .agg [.int .i64 x, .int .i64 y, .int .i64 z]] = some (.bool true) := by
  refine cvFA_R (mf := Mf.f14) rfl rfl (by kernel_rfl) ?_
  simp only [Mf.f14]
  have i0 : okI [] := ⟨by simp, fun x h => by simp at h⟩
  have i1 : okI [z] := ⟨by simp, by simpa using hz⟩
  have i2 : okI [z, y] := ⟨by simp, fun x h => by simp at h; rcases h with rfl | rfl <;> assumption⟩
  have a1 := slice_q ds m q x y z hC hq hx hy hz
  have a2 := dice_q ds m q x y [z] hC hq hx hy i1 (by simp)
  have a3 := dice_q ds m q x y [z, y] hC hq hx hy i2 (by simp)
  have a4 := dice_q ds m q x y [] hC hq hx hy i0 (by simp)
  have a5 := roll_q ds m q x hC hq
  have a6 := drill_q ds m q x hC hq
  rw [slice_eq] at a1
  rw [dice_eq] at a2 a3 a4
  rw [roll_eq ds m q x hq] at a5
  rw [drill_eq ds m q x hq] at a6
  have b1 := rdice_q ds m q ⟨x, y, [z]⟩ true hC hq ⟨hx, hy, i1⟩
  have b2 := rdice_q ds m q ⟨x, y, [z]⟩ false hC hq ⟨hx, hy, i1⟩
  have b3 := rdice_q ds m q ⟨x, y, [z, y]⟩ false hC hq ⟨hx, hy, i2⟩
  have b4 := rdice_q ds m q ⟨x, y, []⟩ false hC hq ⟨hx, hy, i0⟩
  have b5 := rturn_q ds m q x 1 hC hq (by omega)
  have b6 := rturn_q ds m q x (-1) hC hq (by omega)
  have c1 := lsame_ev _ (rdice_ok (ds := ds) (m := m) (w := true) hq (f := ⟨x, y, [z]⟩) ⟨hx, hy, i1⟩)
  have c2 := lsame_ev _ (rdice_ok (ds := ds) (m := m) (w := false) hq (f := ⟨x, y, [z]⟩) ⟨hx, hy, i1⟩)
  have c3 := lsame_ev _ (rdice_ok (ds := ds) (m := m) (w := false) hq (f := ⟨x, y, [z, y]⟩) ⟨hx, hy, i2⟩)
  have c4 := lsame_ev _ (rdice_ok (ds := ds) (m := m) (w := false) hq (f := ⟨x, y, []⟩) ⟨hx, hy, i0⟩)
  have c5 := lsame_ev _ (turn_ok (ds := ds) (m := m) (d := x) (y := 1) hq)
  have c6 := lsame_ev _ (turn_ok (ds := ds) (m := m) (d := x) (y := -1) hq)
  generalize rdiceQ ds m q ⟨x, y, [z]⟩ true = o1 at *
  generalize rdiceQ ds m q ⟨x, y, [z]⟩ false = o2 at *
  generalize rdiceQ ds m q ⟨x, y, [z, y]⟩ false = o3 at *
  generalize rdiceQ ds m q ⟨x, y, []⟩ false = o4 at *
  generalize turnQ ds m q x 1 = o5 at *
  generalize turnQ ds m q x (-1) = o6 at *
  simp only [resQ, resO] at a1 a2 a3 a4 a5 a6 b1 b2 b3 b4 b5 b6 c1 c2 c3 c4 c5 c6
  clear hq
  generalize o1.isSome = k1 at *
  generalize o1.getD zeroQ = y1 at *
  obtain ⟨p1a, p1b, p1c, p1e, F1, t1, m1, f1, l1⟩ := y1
  generalize o2.isSome = k2 at *
  generalize o2.getD zeroQ = y2 at *
  obtain ⟨p2a, p2b, p2c, p2e, F2, t2, m2, f2, l2⟩ := y2
  generalize o3.isSome = k3 at *
  generalize o3.getD zeroQ = y3 at *
  obtain ⟨p3a, p3b, p3c, p3e, F3, t3, m3, f3, l3⟩ := y3
  generalize o4.isSome = k4 at *
  generalize o4.getD zeroQ = y4 at *
  obtain ⟨p4a, p4b, p4c, p4e, F4, t4, m4, f4, l4⟩ := y4
  generalize o5.isSome = k5 at *
  generalize o5.getD zeroQ = y5 at *
  obtain ⟨p5a, p5b, p5c, p5e, F5, t5, m5, f5, l5⟩ := y5
  generalize o6.isSome = k6 at *
  generalize o6.getD zeroQ = y6 at *
  obtain ⟨p6a, p6b, p6c, p6e, F6, t6, m6, f6, l6⟩ := y6
  obtain ⟨a, b, c, e, F, t, me, fn, li⟩ := q
  simp [qyC, fixC, rI] at a1 a2 a3 a4 a5 a6 b1 b2 b3 b4 b5 b6 c1 c2 c3 c4 c5 c6
  simp only [qyC]
  simp [beqI, bneI, mm_min2, mm_max2, mm_min3, mm_max3, startE, lkE, lkX, lkE_rest, sx, substE, opVA, objs0, List.replicate, XA_seq, XA_region, XOA_go, goE_someA, opV, ev, putA, layAll, XOA_nil, XA_skip_seq, XA_skip_nil, XOA_gd, goG_tA, goG_uA, binV, bi_add, bi_sub, bi_mul, bi_quo, bi_rem, bi_eql, bi_neq, bi_lss, bi_leq, bi_gtr, bi_geq, bi_shl, bi_shr, bi_and, bi_or, bi_xor, unV, XA_ret_nil, XA_ret_cons, endFA_r, endFA_n, endTA_r, endTA_n, endRA_r, endRA_n, fltR, resultsA, resAs, resA, XA_block, XA_cond, pickX_t, pickX_f, pickX_b, XA_skip_blk, XA_skip_lp, XA_exit_seq, XA_exit_lp, XA_exit_blk, XA_exit_nil, load1, Ev.loadCells, objCells, bodyCells, setCells, AV.flat, AV.flat1, backR, backV, backCell, mapO, AV.cells, AV.atom, AV.tree, fillV, repeatL, treeCell, freezeAll, eqCells, callV_T, callV_F, passN, passV, passCell, srcCells, sliceBounds, hiB, loB, thenQ_nA, thenQ_xA, thenQ_rA, runK_nA, runK_xA, runK_rA, wrap_i64, wrap_u64, wrap_u32, wrap_u8, wrap_u16, a1, a2, a3, a4, a5, a6, b1, b2, b3, b4, b5, b6, c1, c2, c3, c4, c5, c6]
theorem queryTurns_ev (ds : List Dm) (m : Int) (q : Qy) (x y z : Int) (hC : okC ds) (hq : okQ q) (hx : inI x) (hy : inI y) (hz : inI z) :
    cvF tab 4 [.agg (.ro ds.length (flatD ds) :: .int .i64 m :: qyC q), .agg [.int .i64 x, .int .i64 y, .int .i64 z]] = some (.bool true) := by
  refine cvFA_R (mf := Mf.f4) rfl rfl (by kernel_rfl) ?_
  simp only [Mf.f4]
  have e1 := light_ask ds m q hq
  have m1 := mod_ev x 4 hx (by omega) (by omega)
  have m2 := mod_ev y 5 hy (by omega) (by omega)
  have m3 := mod_ev z 6 hz (by omega) (by omega)
  have x1 : inI (x % 4) := ⟨by omega, by omega⟩
  have y1 : inI (y % 5) := ⟨by omega, by omega⟩
  have z1 : inI (z % 6) := ⟨by omega, by omega⟩
  have e5 := qlevels_ev ds m (x % 4) hC
  have hL : 0 ≤ levelsC ds m (x % 4) ∧ levelsC ds m (x % 4) ≤ 5 := by
    unfold levelsC
    split
    · rename_i h
      have := good_len (goodC_at h.1 (i := (x % 4).toNat) (by omega))
      omega
    · omega
  have w1 : IntKind.i64.wrap (levelsC ds m (x % 4) - 1) = levelsC ds m (x % 4) - 1 := wrap_i64 (by omega) (by omega)
  have t1 := turns_ev ds m q x y z hC hq hx hy hz
  have t2 := turns_ev ds m q (x % 4) (y % 5) (z % 6) hC hq x1 y1 z1
  have t3 := turns_ev ds m q (x % 4) (y % 5) z hC hq x1 y1 hz
  have t4 := turns_ev ds m q (x % 4) (levelsC ds m (x % 4) - 1) 0 hC hq x1 ⟨by omega, by omega⟩ ⟨by omega, by omega⟩
  generalize (lightC ds && lightQ q) = L at *
  clear hq
  obtain ⟨a, b, c, e, F, t, me, fn, li⟩ := q
  simp only [qyC] at e1 t1 t2 t3 t4 ⊢
  cases L with
  | false => simp [beqI, bneI, mm_min2, mm_max2, mm_min3, mm_max3, startE, lkE, lkX, lkE_rest, sx, substE, opVA, objs0, List.replicate, XA_seq, XA_region, XOA_go, goE_someA, opV, ev, putA, layAll, XOA_nil, XA_skip_seq, XA_skip_nil, XOA_gd, goG_tA, goG_uA, binV, binInt, unV, XA_ret_nil, XA_ret_cons, endFA_r, endFA_n, endTA_r, endTA_n, endRA_r, endRA_n, fltR, resultsA, resAs, resA, XA_block, XA_cond, pickX_t, pickX_f, pickX_b, XA_skip_blk, XA_skip_lp, XA_exit_seq, XA_exit_lp, XA_exit_blk, XA_exit_nil, load1, Ev.loadCells, objCells, bodyCells, setCells, AV.flat, AV.flat1, backR, backV, backCell, mapO, AV.cells, AV.atom, AV.tree, fillV, repeatL, treeCell, freezeAll, eqCells, callV_T, callV_F, passN, passV, passCell, srcCells, sliceBounds, hiB, loB, thenQ_nA, thenQ_xA, thenQ_rA, runK_nA, runK_xA, runK_rA, wrap_i64, wrap_u64, wrap_u32, wrap_u8, wrap_u16, e1, wakes_ev]
  | true => simp [beqI, bneI, mm_min2, mm_max2, mm_min3, mm_max3, startE, lkE, lkX, lkE_rest, sx, substE, opVA, objs0, List.replicate, XA_seq, XA_region, XOA_go, goE_someA, opV, ev, putA, layAll, XOA_nil, XA_skip_seq, XA_skip_nil, XOA_gd, goG_tA, goG_uA, binV, binInt, unV, XA_ret_nil, XA_ret_cons, endFA_r, endFA_n, endTA_r, endTA_n, endRA_r, endRA_n, fltR, resultsA, resAs, resA, XA_block, XA_cond, pickX_t, pickX_f, pickX_b, XA_skip_blk, XA_skip_lp, XA_exit_seq, XA_exit_lp, XA_exit_blk, XA_exit_nil, load1, Ev.loadCells, objCells, bodyCells, setCells, AV.flat, AV.flat1, backR, backV, backCell, mapO, AV.cells, AV.atom, AV.tree, fillV, repeatL, treeCell, freezeAll, eqCells, callV_T, callV_F, passN, passV, passCell, srcCells, sliceBounds, hiB, loB, thenQ_nA, thenQ_xA, thenQ_rA, runK_nA, runK_xA, runK_rA, wrap_i64, wrap_u64, wrap_u32, wrap_u8, wrap_u16, e1, m1, m2, m3, e5, w1, t1, t2, t3, t4, wakes_ev]
def gA3 : GT := .arr 3 (.int .i64)
theorem rdarg_a3 {x : AV} (h : RDarg gA3 x) : ∃ a b c, x = .agg [.int .i64 a, .int .i64 b, .int .i64 c] ∧ inI a ∧ inI b ∧ inI c := by
  simp only [RDarg, gA3, isAggG, if_true] at h
  obtain ⟨cs, rfl, L, hL, rfl, hx⟩ := h
  match L, hL, hx with
  | [l1, l2, l3], _, hx =>
    obtain ⟨a, rfl, ha⟩ := rd_i64 (hx l1 (by simp))
    obtain ⟨b, rfl, hb⟩ := rd_i64 (hx l2 (by simp))
    obtain ⟨c, rfl, hc⟩ := rd_i64 (hx l3 (by simp))
    exact ⟨a, b, c, rfl, ha, hb, hc⟩
theorem queryTurns_law (l : List AV) (h : RDargs [gAsk, gA3] l) : ∃ H1, cfT tab 4 l [] = some (.bool true, H1) := by
  obtain ⟨x, r, rfl, hx, y, r2, rfl, hy, rfl⟩ := h
  obtain ⟨ds, m, q, rfl, hC, hm, hq⟩ := rdarg_ask hx
  obtain ⟨a, b, c, rfl, ha, hb, hc⟩ := rdarg_a3 hy
  exact cvF_bool (queryTurns_ev ds m q a b c hC hq ha hb hc)
theorem queryTurns_lifted (os : Os) (started : os.Started) (H : Type) (enc : TypeId × Value → H) :
    ReturnsInHanded {} Try.checked os 4 .any (Rows.queryTurnsSpec.pre6 enc Try.prog Try.f4 Rows.queryTurnsRow.domain false) (Rows.queryTurnsSpec.post enc Try.prog Try.f4 false true false false) := by
  refine returnsInHanded_of_change (C := Try.checked) Try.own started (by kernel_rfl) Try.func4
    (ChangeSpec.witness6 (enc := enc) (C := Try.checked) false ⟨#[], #[.agg #[.slice none 0 0, .int .i64 0, .int .u8 0, .int .u8 0, .int .u8 0, .int .u8 0, .slice none 0 0, .int .i64 0, .int .i64 0, .int .i64 0, .int .i64 0] , .agg #[.int .i64 0, .int .i64 0, .int .i64 0]], []⟩ 8 (by kernel_rfl) (by kernel_rfl) (by kernel_rfl) (by kernel_rfl)) ?_
  intro W base args ds gs before hval hW hcnd _
  have hval' : ∀ (j : Nat) (t : TypeId) (v : Value), Try.f4.params.toList[j]? = some t → args[j]? = some v → Value.okWide Try.prog W .any base t v := fun j t v h1 h2 => hval j t v (by simpa using h1) h2
  obtain ⟨p, q, hA, hV, hpq, _, _⟩ := id hW
  have hg : gtsB Try.prog [gAsk, gA3] Try.f4.params.toList = true := by kernel_rfl
  refine (law_calls' tab_ok hg queryTurns_law hval' hA).mono fun e W' ⟨he, hb⟩ => ?_
  subst he
  refine ⟨_, rfl, post_true Try.laidOut (rt := 4) (fun ds h => ?_) rfl (by kernel_rfl) (by kernel_rfl) (by kernel_rfl) hW hb⟩
  match ds, h with
  | [_, _], _ => rfl
theorem queryTurns_holds : Rows.QueryTurnsSaid :=
  OpenClaim.holds_of_wide 4 Try.f4 rfl rfl rfl rfl rfl rfl rfl ⟨rfl, rfl, rfl, rfl, rfl⟩ rfl rfl rfl rfl rfl (by kernel_rfl) Try.func4 (by kernel_rfl)
    (of_decide_eq_true (by kernel_rfl)) (by unfold Func.isWrapper; first | (rw [if_pos (by decide +kernel)]; kernel_rfl) | (rw [if_neg (by decide +kernel)]; exact ⟨rfl, rfl⟩))
    (fun os started H enc _ => queryTurns_lifted os started H enc)
end Go.Proofs.Ytambpbcdnhekbaa
