/- Numbers one behind the other. -/
import Derived.Test.YtooddcjdaempeaaCodeE
set_option linter.unusedSimpArgs false
set_option linter.unusedVariables false
set_option maxHeartbeats 4000000
set_option maxRecDepth 100000
namespace Go.Proofs.Ytooddcjdaempeaa
open Go.Ev
def catD (l : List Nat) : List Int := l.flatMap digN
theorem catD_snoc (l : List Nat) (i : Nat) (h : i < l.length) : catD (l.take (i + 1)) = catD (l.take i) ++ digN l[i] := by
  unfold catD
  rw [List.take_succ_eq_append_getElem h, List.flatMap_append]
  simp
theorem catD_cons (l : List Nat) (i : Nat) (h : i < l.length) : catD (l.drop i) = digN l[i] ++ catD (l.drop (i + 1)) := by
  unfold catD
  rw [List.drop_eq_getElem_cons h, List.flatMap_cons]
theorem catD_split (l : List Nat) (i : Nat) : catD l = catD (l.take i) ++ catD (l.drop i) := by
  unfold catD
  rw [← List.flatMap_append, List.take_append_drop]
theorem catD_ok (l : List Nat) : okB (catD l) := by
  intro c hc
  obtain ⟨u, _, h⟩ := List.mem_flatMap.1 hc
  exact digN_ok u c h
theorem catD_len (l : List Nat) (h : ∀ u ∈ l, u < 18446744073709551616) : (catD l).length ≤ 10 * l.length := by
  induction l with
  | nil => simp [catD]
  | cons a l ih =>
    have := ih (fun u hu => h u (by simp [hu]))
    have := digN_ten (h a (by simp))
    simp only [catD, List.flatMap_cons, List.length_append, List.length_cons] at *
    omega
def memB (i : Nat) (b : List Int) : AV := if i = 0 then .nilsl else rB b
def nU (l : List Nat) : AV := .ro l.length (l.map fun u : Nat => AV.int .u64 (u : Int))
theorem codeRow_ev (l : List Nat) (m : List Int) (hl : ∀ u ∈ l, u < 18446744073709551616) (hm : okB m) : cvF tab 5 [nU l, rB m] = some (.bool true) := by
  refine cvFA_R (mf := Mf.f5) rfl rfl (by kernel_rfl) ?_
  simp only [Mf.f5]
  by_cases c1 : 500 < (l.length : Int)
  · simp [beqI, bneI, mm_min2, mm_max2, mm_min3, mm_max3, startE, lkE, lkX, lkE_rest, sx, substE, opVA, objs0, List.replicate, XA_seq, XA_region, XOA_go, goE_someA, opV, ev, putA, layAll, XOA_nil, XA_skip_seq, XA_skip_nil, XOA_gd, goG_tA, goG_uA, binV, bi_add, bi_sub, bi_mul, bi_quo, bi_rem, bi_eql, bi_neq, bi_lss, bi_leq, bi_gtr, bi_geq, bi_shl, bi_shr, bi_and, bi_or, bi_xor, unV, XA_ret_nil, XA_ret_cons, endFA_r, endFA_n, endTA_r, endTA_n, endRA_r, endRA_n, fltR, resultsA, resAs, resA, XA_block, XA_cond, pickX_t, pickX_f, pickX_b, XA_skip_blk, XA_skip_lp, XA_exit_seq, XA_exit_lp, XA_exit_blk, XA_exit_nil, load1, Ev.loadCells, objCells, bodyCells, setCells, AV.flat, AV.flat1, backR, backV, backCell, mapO, AV.cells, AV.atom, AV.tree, fillV, repeatL, treeCell, freezeAll, eqCells, callV_T, callV_F, passV, passCell, srcCells, sliceBounds, hiB, loB, thenQ_nA, thenQ_xA, thenQ_rA, runK_nA, runK_xA, runK_rA, wrap_i64, wrap_u64, wrap_u32, wrap_u8, wrap_u16, nU, rB, c1, wakes_ev]
  by_cases c2 : 500 < (m.length : Int)
  · simp [beqI, bneI, mm_min2, mm_max2, mm_min3, mm_max3, startE, lkE, lkX, lkE_rest, sx, substE, opVA, objs0, List.replicate, XA_seq, XA_region, XOA_go, goE_someA, opV, ev, putA, layAll, XOA_nil, XA_skip_seq, XA_skip_nil, XOA_gd, goG_tA, goG_uA, binV, bi_add, bi_sub, bi_mul, bi_quo, bi_rem, bi_eql, bi_neq, bi_lss, bi_leq, bi_gtr, bi_geq, bi_shl, bi_shr, bi_and, bi_or, bi_xor, unV, XA_ret_nil, XA_ret_cons, endFA_r, endFA_n, endTA_r, endTA_n, endRA_r, endRA_n, fltR, resultsA, resAs, resA, XA_block, XA_cond, pickX_t, pickX_f, pickX_b, XA_skip_blk, XA_skip_lp, XA_exit_seq, XA_exit_lp, XA_exit_blk, XA_exit_nil, load1, Ev.loadCells, objCells, bodyCells, setCells, AV.flat, AV.flat1, backR, backV, backCell, mapO, AV.cells, AV.atom, AV.tree, fillV, repeatL, treeCell, freezeAll, eqCells, callV_T, callV_F, passV, passCell, srcCells, sliceBounds, hiB, loB, thenQ_nA, thenQ_xA, thenQ_rA, runK_nA, runK_xA, runK_rA, wrap_i64, wrap_u64, wrap_u32, wrap_u8, wrap_u16, nU, rB, c1, c2, wakes_ev]
  simp [beqI, bneI, mm_min2, mm_max2, mm_min3, mm_max3, startE, lkE, lkX, lkE_rest, sx, substE, opVA, objs0, List.replicate, XA_seq, XA_region, XOA_go, goE_someA, opV, ev, putA, layAll, XOA_nil, XA_skip_seq, XA_skip_nil, XOA_gd, goG_tA, goG_uA, binV, bi_add, bi_sub, bi_mul, bi_quo, bi_rem, bi_eql, bi_neq, bi_lss, bi_leq, bi_gtr, bi_geq, bi_shl, bi_shr, bi_and, bi_or, bi_xor, unV, XA_ret_nil, XA_ret_cons, endFA_r, endFA_n, endTA_r, endTA_n, endRA_r, endRA_n, fltR, resultsA, resAs, resA, XA_block, XA_cond, pickX_t, pickX_f, pickX_b, XA_skip_blk, XA_skip_lp, XA_exit_seq, XA_exit_lp, XA_exit_blk, XA_exit_nil, load1, Ev.loadCells, objCells, bodyCells, setCells, AV.flat, AV.flat1, backR, backV, backCell, mapO, AV.cells, AV.atom, AV.tree, fillV, repeatL, treeCell, freezeAll, eqCells, callV_T, callV_F, passV, passCell, srcCells, sliceBounds, hiB, loB, thenQ_nA, thenQ_xA, thenQ_rA, runK_nA, runK_xA, runK_rA, wrap_i64, wrap_u64, wrap_u32, wrap_u8, wrap_u16, nU, rB, c1, c2]
  refine XA_loop (α := Nat × List Int) (fun x => ⟨[(0, nU l), (1, rB m), (5, memB x.1 x.2), (6, .int .i64 x.1)], [⟨0, .none⟩]⟩)
    (fun x => x.1 ≤ l.length ∧ x.2 = catD (l.take x.1)) (fun x => l.length - x.1) (0, []) (by simp [AV.atom, normA, lkE, fixObjs, fixBody, fixV, fixCell, nU, rB, memB]) ⟨by simp, by simp [catD]⟩ ?_
  rintro ⟨i, b⟩ ⟨hi, hb⟩
  simp only at hi hb
  have hbl := catD_len (l.take i) (fun u hu => hl u (List.mem_of_mem_take hu))
  rw [← hb, List.length_take] at hbl
  by_cases ci : i < l.length
  · have ci' : (i : Int) < (l.length : Int) := by omega
    have hix : (List.drop i (l.map fun u : Nat => AV.int .u64 (u : Int)))[0]? = some (.int .u64 (l[i])) := by simp [ci]
    have hw : IntKind.i64.wrap ((i : Int) + 1) = (i : Int) + 1 := wrap_i64 (by omega) (by omega)
    have hg : l[i]? = some l[i] := List.getElem?_eq_getElem ci
    have e := put_ev b l[i] (by omega) (hl _ (List.getElem_mem ci))
    have hs := catD_snoc l i ci
    rw [← hb] at hs
    rw [← hs] at e
    by_cases c0 : i = 0
    · subst c0
      have hb0 : b = [] := by rw [hb]; rfl
      subst hb0
      simp [rB] at e
      simp [rB, beqI, bneI, mm_min2, mm_max2, mm_min3, mm_max3, startE, lkE, lkX, lkE_rest, sx, substE, opVA, objs0, List.replicate, XA_seq, XA_region, XOA_go, goE_someA, opV, ev, putA, layAll, XOA_nil, XA_skip_seq, XA_skip_nil, XOA_gd, goG_tA, goG_uA, binV, bi_add, bi_sub, bi_mul, bi_quo, bi_rem, bi_eql, bi_neq, bi_lss, bi_leq, bi_gtr, bi_geq, bi_shl, bi_shr, bi_and, bi_or, bi_xor, unV, XA_ret_nil, XA_ret_cons, endFA_r, endFA_n, endTA_r, endTA_n, endRA_r, endRA_n, fltR, resultsA, resAs, resA, XA_block, XA_cond, pickX_t, pickX_f, pickX_b, XA_skip_blk, XA_skip_lp, XA_exit_seq, XA_exit_lp, XA_exit_blk, XA_exit_nil, load1, Ev.loadCells, objCells, bodyCells, setCells, AV.flat, AV.flat1, backR, backV, backCell, mapO, AV.cells, AV.atom, AV.tree, fillV, repeatL, treeCell, freezeAll, eqCells, callV_T, callV_F, passV, passCell, srcCells, sliceBounds, hiB, loB, thenQ_nA, thenQ_xA, thenQ_rA, runK_nA, runK_xA, runK_rA, wrap_i64, wrap_u64, wrap_u32, wrap_u8, wrap_u16, AV.atom, normA, lkE, fixObjs, fixBody, fixV, fixCell, nU, memB, ci, ci', hg, hix, hw, e]
      exact ⟨1, catD (l.take 1), by simp [List.length_take]; omega⟩
    · simp only [rB] at e
      simp [rB, beqI, bneI, mm_min2, mm_max2, mm_min3, mm_max3, startE, lkE, lkX, lkE_rest, sx, substE, opVA, objs0, List.replicate, XA_seq, XA_region, XOA_go, goE_someA, opV, ev, putA, layAll, XOA_nil, XA_skip_seq, XA_skip_nil, XOA_gd, goG_tA, goG_uA, binV, bi_add, bi_sub, bi_mul, bi_quo, bi_rem, bi_eql, bi_neq, bi_lss, bi_leq, bi_gtr, bi_geq, bi_shl, bi_shr, bi_and, bi_or, bi_xor, unV, XA_ret_nil, XA_ret_cons, endFA_r, endFA_n, endTA_r, endTA_n, endRA_r, endRA_n, fltR, resultsA, resAs, resA, XA_block, XA_cond, pickX_t, pickX_f, pickX_b, XA_skip_blk, XA_skip_lp, XA_exit_seq, XA_exit_lp, XA_exit_blk, XA_exit_nil, load1, Ev.loadCells, objCells, bodyCells, setCells, AV.flat, AV.flat1, backR, backV, backCell, mapO, AV.cells, AV.atom, AV.tree, fillV, repeatL, treeCell, freezeAll, eqCells, callV_T, callV_F, passV, passCell, srcCells, sliceBounds, hiB, loB, thenQ_nA, thenQ_xA, thenQ_rA, runK_nA, runK_xA, runK_rA, wrap_i64, wrap_u64, wrap_u32, wrap_u8, wrap_u16, AV.atom, normA, lkE, fixObjs, fixBody, fixV, fixCell, nU, memB, ci, ci', hg, hix, hw, e, c0]
      refine ⟨i + 1, catD (l.take (i + 1)), ⟨?_, by simp⟩, ⟨by omega, rfl⟩, by omega⟩
      rw [if_neg (by omega)]
  · have hi2 : i = l.length := by omega
    subst hi2
    rw [List.take_length] at hb
    rw [Nat.min_self] at hbl
    by_cases c0 : l = []
    · subst c0
      subst hb
      have q1 : m.length ≤ 140737488355328 := by omega
      have q2 : m.length < 4611686018427387904 := by omega
      simp [beqI, bneI, mm_min2, mm_max2, mm_min3, mm_max3, startE, lkE, lkX, lkE_rest, sx, substE, opVA, objs0, List.replicate, XA_seq, XA_region, XOA_go, goE_someA, opV, ev, putA, layAll, XOA_nil, XA_skip_seq, XA_skip_nil, XOA_gd, goG_tA, goG_uA, binV, bi_add, bi_sub, bi_mul, bi_quo, bi_rem, bi_eql, bi_neq, bi_lss, bi_leq, bi_gtr, bi_geq, bi_shl, bi_shr, bi_and, bi_or, bi_xor, unV, XA_ret_nil, XA_ret_cons, endFA_r, endFA_n, endTA_r, endTA_n, endRA_r, endRA_n, fltR, resultsA, resAs, resA, XA_block, XA_cond, pickX_t, pickX_f, pickX_b, XA_skip_blk, XA_skip_lp, XA_exit_seq, XA_exit_lp, XA_exit_blk, XA_exit_nil, load1, Ev.loadCells, objCells, bodyCells, setCells, AV.flat, AV.flat1, backR, backV, backCell, mapO, AV.cells, AV.atom, AV.tree, fillV, repeatL, treeCell, freezeAll, eqCells, callV_T, callV_F, passV, passCell, srcCells, sliceBounds, hiB, loB, thenQ_nA, thenQ_xA, thenQ_rA, runK_nA, runK_xA, runK_rA, wrap_i64, wrap_u64, wrap_u32, wrap_u8, wrap_u16, AV.atom, normA, lkE, fixObjs, fixBody, fixV, fixCell, XA_round, normA, lkE, fixObjs, fixBody, fixV, fixCell, goN_someA, nU, memB, catD, rB, q1, q2, List.take_of_length_le, wakes_ev]
      done
    have c0' : ¬ l.length = 0 := by simpa using c0
    have q1 : b.length ≤ 140737488355328 := by omega
    have q2 : b.length < 4611686018427387904 := by omega
    have q3 : b.length + m.length ≤ 140737488355328 := by omega
    have q4 : b.length + m.length < 4611686018427387904 := by omega
    simp [beqI, bneI, mm_min2, mm_max2, mm_min3, mm_max3, startE, lkE, lkX, lkE_rest, sx, substE, opVA, objs0, List.replicate, XA_seq, XA_region, XOA_go, goE_someA, opV, ev, putA, layAll, XOA_nil, XA_skip_seq, XA_skip_nil, XOA_gd, goG_tA, goG_uA, binV, bi_add, bi_sub, bi_mul, bi_quo, bi_rem, bi_eql, bi_neq, bi_lss, bi_leq, bi_gtr, bi_geq, bi_shl, bi_shr, bi_and, bi_or, bi_xor, unV, XA_ret_nil, XA_ret_cons, endFA_r, endFA_n, endTA_r, endTA_n, endRA_r, endRA_n, fltR, resultsA, resAs, resA, XA_block, XA_cond, pickX_t, pickX_f, pickX_b, XA_skip_blk, XA_skip_lp, XA_exit_seq, XA_exit_lp, XA_exit_blk, XA_exit_nil, load1, Ev.loadCells, objCells, bodyCells, setCells, AV.flat, AV.flat1, backR, backV, backCell, mapO, AV.cells, AV.atom, AV.tree, fillV, repeatL, treeCell, freezeAll, eqCells, callV_T, callV_F, passV, passCell, srcCells, sliceBounds, hiB, loB, thenQ_nA, thenQ_xA, thenQ_rA, runK_nA, runK_xA, runK_rA, wrap_i64, wrap_u64, wrap_u32, wrap_u8, wrap_u16, AV.atom, normA, lkE, fixObjs, fixBody, fixV, fixCell, nU, memB, rB, c0', q1, q2, q3, q4, List.take_of_length_le]
    obtain ⟨E, hE⟩ : ∃ E, E = b ++ m := ⟨_, rfl⟩
    have hEl : E.length = b.length + m.length := by rw [hE, List.length_append]
    have hEm : E.map (AV.int .u8) = b.map (.int .u8) ++ m.map (.int .u8) := by rw [hE, List.map_append]
    refine XA_loop (α := Nat × Nat) (fun x => ⟨[(0, nU l), (5, .own 0 0 0 E.length 1), (7, .int .i64 b.length), (8, .int .i64 x.2), (9, .int .i64 x.1)], [⟨0, .row true 1 (E.map (.int .u8))⟩]⟩)
      (fun x => x.1 ≤ l.length ∧ x.2 = (catD (l.take x.1)).length) (fun x => l.length - x.1) (0, 0) (by simp [AV.atom, normA, lkE, fixObjs, fixBody, fixV, fixCell, nU, hEl, hEm]) ⟨by simp, by simp [catD]⟩ ?_
    rintro ⟨i, a⟩ ⟨hi, ha⟩
    simp only at hi ha
    by_cases ci : i < l.length
    · have ci' : (i : Int) < (l.length : Int) := by omega
      have hg : l[i]? = some l[i] := List.getElem?_eq_getElem ci
      have hw : IntKind.i64.wrap ((i : Int) + 1) = (i : Int) + 1 := wrap_i64 (by omega) (by omega)
      have hs := catD_split l i
      have hc := catD_cons l i ci
      rw [hc] at hs
      have hs1 := catD_snoc l i ci
      have hdr : E.drop a = digN l[i] ++ (catD (l.drop (i + 1)) ++ m) := by
        rw [hE, hb, hs, ha, List.append_assoc, List.drop_left', List.append_assoc]
        rfl
      have hblen : b.length = a + (digN l[i]).length + (catD (l.drop (i + 1))).length := by
        rw [hb, hs, ha]; simp; omega
      have e := get_ev (E.drop a) (fun x hx => by
        rcases List.mem_append.1 (hE ▸ List.mem_of_mem_drop hx) with h | h
        · rw [hb] at h; exact catD_ok l x h
        · exact hm x h) (by rw [List.length_drop]; omega)
      have hu := hl _ (List.getElem_mem ci)
      rw [show gv (E.drop a) 0 0 = some ((l[i] : Int), (digN l[i]).length) from by rw [hdr]; exact gv_all _ _ hu] at e
      have hp := digN_pos l[i]
      have ha2 : (catD (l.take (i + 1))).length = a + (digN l[i]).length := by rw [hs1, ha]; simp
      generalize (digN l[i]).length = k at *
      have hw2 : IntKind.i64.wrap ((E.length : Int) - (a : Int)) = (E.length : Int) - (a : Int) := wrap_i64 (by omega) (by omega)
      have hw3 : IntKind.i64.wrap ((a : Int) + (k : Int)) = (a : Int) + (k : Int) := wrap_i64 (by omega) (by omega)
      have q5 : (a : Int) ≤ (E.length : Int) := by omega
      have q6 : ¬ (E.length : Int) - (a : Int) < (k : Int) := by omega
      have q8 : ¬ a = E.length := by omega
      have q9 : a + (E.length - a) ≤ E.length := by omega
      have hdd : List.drop a (E.map (AV.int .u8)) = (E.drop a).map (.int .u8) := by rw [List.map_drop]
      have hGl : (E.drop a).length = E.length - a := by rw [List.length_drop]

      have q7 : ¬ (k : Int) < 1 := by omega
      simp only [rB, getV] at e
      clear hdr
      generalize E.drop a = G at *
      have htk : List.take (E.length - a) (G.map (AV.int .u8)) = G.map (.int .u8) := List.take_of_length_le (by rw [List.length_map]; omega)
      rw [hGl] at e
      simp [beqI, bneI, mm_min2, mm_max2, mm_min3, mm_max3, startE, lkE, lkX, lkE_rest, sx, substE, opVA, objs0, List.replicate, XA_seq, XA_region, XOA_go, goE_someA, opV, ev, putA, layAll, XOA_nil, XA_skip_seq, XA_skip_nil, XOA_gd, goG_tA, goG_uA, binV, bi_add, bi_sub, bi_mul, bi_quo, bi_rem, bi_eql, bi_neq, bi_lss, bi_leq, bi_gtr, bi_geq, bi_shl, bi_shr, bi_and, bi_or, bi_xor, unV, XA_ret_nil, XA_ret_cons, endFA_r, endFA_n, endTA_r, endTA_n, endRA_r, endRA_n, fltR, resultsA, resAs, resA, XA_block, XA_cond, pickX_t, pickX_f, pickX_b, XA_skip_blk, XA_skip_lp, XA_exit_seq, XA_exit_lp, XA_exit_blk, XA_exit_nil, load1, Ev.loadCells, objCells, bodyCells, setCells, AV.flat, AV.flat1, backR, backV, backCell, mapO, AV.cells, AV.atom, AV.tree, fillV, repeatL, treeCell, freezeAll, eqCells, callV_T, callV_F, passV, passCell, srcCells, sliceBounds, hiB, loB, thenQ_nA, thenQ_xA, thenQ_rA, runK_nA, runK_xA, runK_rA, wrap_i64, wrap_u64, wrap_u32, wrap_u8, wrap_u16, AV.atom, normA, lkE, fixObjs, fixBody, fixV, fixCell, nU, ci, ci', hg, hw, e, hw2, hw3, q5, q6, q7, q8, q9, hdd, htk, IntKind.bits]
      exact ⟨i + 1, a + k, by simp, ⟨by omega, by omega⟩, by omega⟩
    · have hi3 : i = l.length := by omega
      subst hi3
      rw [List.take_length, ← hb] at ha
      subst ha
      simp [beqI, bneI, mm_min2, mm_max2, mm_min3, mm_max3, startE, lkE, lkX, lkE_rest, sx, substE, opVA, objs0, List.replicate, XA_seq, XA_region, XOA_go, goE_someA, opV, ev, putA, layAll, XOA_nil, XA_skip_seq, XA_skip_nil, XOA_gd, goG_tA, goG_uA, binV, bi_add, bi_sub, bi_mul, bi_quo, bi_rem, bi_eql, bi_neq, bi_lss, bi_leq, bi_gtr, bi_geq, bi_shl, bi_shr, bi_and, bi_or, bi_xor, unV, XA_ret_nil, XA_ret_cons, endFA_r, endFA_n, endTA_r, endTA_n, endRA_r, endRA_n, fltR, resultsA, resAs, resA, XA_block, XA_cond, pickX_t, pickX_f, pickX_b, XA_skip_blk, XA_skip_lp, XA_exit_seq, XA_exit_lp, XA_exit_blk, XA_exit_nil, load1, Ev.loadCells, objCells, bodyCells, setCells, AV.flat, AV.flat1, backR, backV, backCell, mapO, AV.cells, AV.atom, AV.tree, fillV, repeatL, treeCell, freezeAll, eqCells, callV_T, callV_F, passV, passCell, srcCells, sliceBounds, hiB, loB, thenQ_nA, thenQ_xA, thenQ_rA, runK_nA, runK_xA, runK_rA, wrap_i64, wrap_u64, wrap_u32, wrap_u8, wrap_u16, AV.atom, normA, lkE, fixObjs, fixBody, fixV, fixCell, nU, wakes_ev]
theorem codeRow_law (l : List AV) (h : RDargs [.slice (.int .u64), .slice (.int .u8)] l) : ∃ H1, cfT tab 5 l [] = some (.bool true, H1) := by
  obtain ⟨x, r, rfl, hx, y, r, rfl, hy, rfl⟩ := h
  obtain ⟨m, rfl, _, hm⟩ := rdarg_bytes hy
  simp only [RDarg, isAggG] at hx
  obtain ⟨u, h1, h2, h3⟩ := rd_slice (g := .int .u64) (f := fun u : Nat => AV.int .u64 (u : Int)) (P := fun u => u < 18446744073709551616) (fun cs h => by
    obtain ⟨n, h1, h2⟩ := rd_u64 h
    unfold inU at h2
    obtain ⟨k, rfl⟩ := nat_of h2.1
    exact ⟨k, h1, by omega⟩) hx
  simp at h1
  subst h1
  exact cvF_bool (codeRow_ev u m h3 hm)
theorem codeRow_lifted (os : Os) (started : os.Started) (H : Type) (enc : TypeId × Value → H) :
    ReturnsInHanded {} Try.checked os 5 .any (Rows.codeRowSpec.pre6 enc Try.prog Try.f5 Rows.codeRowRow.domain false) (Rows.codeRowSpec.post enc Try.prog Try.f5 false true false false) := by
  refine returnsInHanded_of_change (C := Try.checked) Try.own started (by kernel_rfl) Try.func5
    (ChangeSpec.witness6 (enc := enc) (C := Try.checked) false ⟨#[], #[.slice none 0 0, .slice none 0 0], []⟩ 8 (by kernel_rfl) (by kernel_rfl) (by kernel_rfl) (by kernel_rfl)) ?_
  intro W base args ds gs before hval hW hcnd _
  have hval' : ∀ (j : Nat) (t : TypeId) (v : Value), Try.f5.params.toList[j]? = some t → args[j]? = some v → Value.okWide Try.prog W .any base t v := fun j t v h1 h2 => hval j t v (by simpa using h1) h2
  obtain ⟨p, q, hA, hV, hpq, _, _⟩ := id hW
  have hg : gtsB Try.prog [.slice (.int .u64), .slice (.int .u8)] Try.f5.params.toList = true := by kernel_rfl
  refine (law_calls' tab_ok hg codeRow_law hval' hA).mono fun e W' ⟨he, hb⟩ => ?_
  subst he
  refine ⟨_, rfl, post_true Try.laidOut (rt := 4) (fun ds h => ?_) rfl (by kernel_rfl) (by kernel_rfl) (by kernel_rfl) hW hb⟩
  match ds, h with
  | [_, _], _ => rfl
theorem codeRow_holds : Rows.CodeRowSaid :=
  OpenClaim.holds_of_wide 5 Try.f5 rfl rfl rfl rfl rfl rfl rfl ⟨rfl, rfl, rfl, rfl, rfl⟩ rfl rfl rfl rfl rfl (by kernel_rfl) Try.func5 (by kernel_rfl)
    (of_decide_eq_true (by kernel_rfl)) (by unfold Func.isWrapper; first | (rw [if_pos (by decide +kernel)]; kernel_rfl) | (rw [if_neg (by decide +kernel)]; exact ⟨rfl, rfl⟩))
    (fun os started H enc _ => codeRow_lifted os started H enc)
end Go.Proofs.Ytooddcjdaempeaa
