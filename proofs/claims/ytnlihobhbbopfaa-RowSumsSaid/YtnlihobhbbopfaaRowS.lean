/- Whatever part of rows: its sum is at most the mass. -/
import Derived.Test.YtnlihobhbbopfaaRowB
import Derived.Test.YtnlihobhbbopfaaRowCom
set_option linter.unusedSimpArgs false
set_option linter.unusedVariables false
set_option maxHeartbeats 4000000
set_option maxRecDepth 100000
namespace Go.Proofs.Ytnlihobhbbopfaa
open Go.Ev
/-- A wide number. -/
def wideV (s : Int) : List AV := [.bool (decide (s < 0)), .int .u64 0, .int .u64 (absI s)]
theorem of_ev (s : Int) (hs : inI s) : cvF tab 30 [.int .i64 s] = some (.agg (wideV s)) := by
  refine cvFA_R (mf := Mf.f30) rfl rfl (by kernel_rfl) ?_
  simp only [Mf.f30]
  have e := crsize_ev s hs
  simp [beqI, bneI, mm_min2, mm_max2, mm_min3, mm_max3, startE, lkE, lkX, lkE_rest, sx, substE, opVA, objs0, List.replicate, XA_seq, XA_region, XOA_go, goE_someA, opV, ev, putA, layAll, XOA_nil, XA_skip_seq, XA_skip_nil, XOA_gd, goG_tA, goG_uA, binV, bi_add, bi_sub, bi_mul, bi_quo, bi_rem, bi_eql, bi_neq, bi_lss, bi_leq, bi_gtr, bi_geq, bi_shl, bi_shr, bi_and, bi_or, bi_xor, unV, XA_ret_nil, XA_ret_cons, endFA_r, endFA_n, endTA_r, endTA_n, endRA_r, endRA_n, fltR, resultsA, resAs, resA, XA_block, XA_cond, pickX_t, pickX_f, pickX_b, XA_skip_blk, XA_skip_lp, XA_exit_seq, XA_exit_lp, XA_exit_blk, XA_exit_nil, load1, Ev.loadCells, objCells, bodyCells, setCells, AV.flat, AV.flat1, backR, backV, backCell, mapO, AV.cells, AV.atom, AV.tree, fillV, repeatL, treeCell, freezeAll, eqCells, callV_T, callV_F, passV, passCell, srcCells, sliceBounds, hiB, loB, thenQ_nA, thenQ_xA, thenQ_rA, runK_nA, runK_xA, runK_rA, wrap_i64, wrap_u64, wrap_u32, wrap_u8, wrap_u16, e, wideV]
theorem wless_ev (a b : Bool) (x y : Int) : cvF tab 54 [.agg [.bool a, .int .u64 0, .int .u64 x], .agg [.bool b, .int .u64 0, .int .u64 y]] = some (.bool (decide (x < y))) := by
  refine cvFA_R (mf := Mf.f54) rfl rfl (by kernel_rfl) ?_
  simp only [Mf.f54]
  simp [beqI, bneI, mm_min2, mm_max2, mm_min3, mm_max3, startE, lkE, lkX, lkE_rest, sx, substE, opVA, objs0, List.replicate, XA_seq, XA_region, XOA_go, goE_someA, opV, ev, putA, layAll, XOA_nil, XA_skip_seq, XA_skip_nil, XOA_gd, goG_tA, goG_uA, binV, bi_add, bi_sub, bi_mul, bi_quo, bi_rem, bi_eql, bi_neq, bi_lss, bi_leq, bi_gtr, bi_geq, bi_shl, bi_shr, bi_and, bi_or, bi_xor, unV, XA_ret_nil, XA_ret_cons, endFA_r, endFA_n, endTA_r, endTA_n, endRA_r, endRA_n, fltR, resultsA, resAs, resA, XA_block, XA_cond, pickX_t, pickX_f, pickX_b, XA_skip_blk, XA_skip_lp, XA_exit_seq, XA_exit_lp, XA_exit_blk, XA_exit_nil, load1, Ev.loadCells, objCells, bodyCells, setCells, AV.flat, AV.flat1, backR, backV, backCell, mapO, AV.cells, AV.atom, AV.tree, fillV, repeatL, treeCell, freezeAll, eqCells, callV_T, callV_F, passV, passCell, srcCells, sliceBounds, hiB, loB, thenQ_nA, thenQ_xA, thenQ_rA, runK_nA, runK_xA, runK_rA, wrap_i64, wrap_u64, wrap_u32, wrap_u8, wrap_u16]
theorem plus_ev (s t : Int) (hs : absI s ≤ MM) (ht : absI t ≤ MM) : cvF tab 29 [.agg (wideV s), .agg (wideV t)] = some (.agg (wideV (s + t))) := by
  refine cvFA_R (mf := Mf.f29) rfl rfl (by kernel_rfl) ?_
  simp only [Mf.f29]
  have e := wless_ev (decide (s < 0)) (decide (t < 0)) (absI s) (absI t)
  unfold MM at hs ht
  by_cases c : decide (s < 0) = decide (t < 0)
  · have hab : absI (s + t) = absI s + absI t := by
      have := decide_eq_decide.1 c
      unfold absI
      repeat' split
      all_goals omega
    have hst : decide (s + t < 0) = decide (t < 0) := by
      have := decide_eq_decide.1 c
      exact decide_eq_decide.2 (by omega)
    have h0 := absI_nn s
    have h1 := absI_nn t
    have w : IntKind.u64.wrap (absI s + absI t) = absI s + absI t := wrap_u64 (by omega) (by omega)
    have c2 : ¬ absI s + absI t < absI s := by omega
    unfold wideV
    rw [hab, hst, c]
    generalize decide (t < 0) = B at *
    generalize absI s = x at *
    generalize absI t = y at *
    simp [beqI, bneI, mm_min2, mm_max2, mm_min3, mm_max3, startE, lkE, lkX, lkE_rest, sx, substE, opVA, objs0, List.replicate, XA_seq, XA_region, XOA_go, goE_someA, opV, ev, putA, layAll, XOA_nil, XA_skip_seq, XA_skip_nil, XOA_gd, goG_tA, goG_uA, binV, bi_add, bi_sub, bi_mul, bi_quo, bi_rem, bi_eql, bi_neq, bi_lss, bi_leq, bi_gtr, bi_geq, bi_shl, bi_shr, bi_and, bi_or, bi_xor, unV, XA_ret_nil, XA_ret_cons, endFA_r, endFA_n, endTA_r, endTA_n, endRA_r, endRA_n, fltR, resultsA, resAs, resA, XA_block, XA_cond, pickX_t, pickX_f, pickX_b, XA_skip_blk, XA_skip_lp, XA_exit_seq, XA_exit_lp, XA_exit_blk, XA_exit_nil, load1, Ev.loadCells, objCells, bodyCells, setCells, AV.flat, AV.flat1, backR, backV, backCell, mapO, AV.cells, AV.atom, AV.tree, fillV, repeatL, treeCell, freezeAll, eqCells, callV_T, callV_F, passV, passCell, srcCells, sliceBounds, hiB, loB, thenQ_nA, thenQ_xA, thenQ_rA, runK_nA, runK_xA, runK_rA, wrap_i64, wrap_u64, wrap_u32, wrap_u8, wrap_u16, w, c2]
  · have hc : (decide (s < 0) == decide (t < 0)) = false := by simpa using c
    have hne : (s < 0 ∧ ¬ t < 0) ∨ (¬ s < 0 ∧ t < 0) := by
      by_cases h1 : s < 0
      · by_cases h2 : t < 0
        · exact absurd (by simp [h1, h2]) c
        · exact .inl ⟨h1, h2⟩
      · by_cases h2 : t < 0
        · exact .inr ⟨h1, h2⟩
        · exact absurd (by simp [h1, h2]) c
    have h0 := absI_nn s
    have h1 := absI_nn t
    by_cases c3 : absI s < absI t
    · have w : IntKind.u64.wrap (absI t - absI s) = absI t - absI s := wrap_u64 (by omega) (by omega)
      have c4 : ¬ absI t < absI s := by omega
      have c5 : ¬ absI t - absI s = 0 := by omega
      have hab : absI (s + t) = absI t - absI s := by
        unfold absI at *
        repeat' split
        all_goals omega
      have hst : decide (s + t < 0) = decide (t < 0) := by
        unfold absI at *
        refine decide_eq_decide.2 ?_
        repeat' split at c3
        all_goals omega
      unfold wideV
      rw [hab, hst]
      generalize decide (t < 0) = B at *
      generalize decide (s < 0) = A at *
      generalize absI s = x at *
      generalize absI t = y at *
      simp [beqI, bneI, mm_min2, mm_max2, mm_min3, mm_max3, startE, lkE, lkX, lkE_rest, sx, substE, opVA, objs0, List.replicate, XA_seq, XA_region, XOA_go, goE_someA, opV, ev, putA, layAll, XOA_nil, XA_skip_seq, XA_skip_nil, XOA_gd, goG_tA, goG_uA, binV, bi_add, bi_sub, bi_mul, bi_quo, bi_rem, bi_eql, bi_neq, bi_lss, bi_leq, bi_gtr, bi_geq, bi_shl, bi_shr, bi_and, bi_or, bi_xor, unV, XA_ret_nil, XA_ret_cons, endFA_r, endFA_n, endTA_r, endTA_n, endRA_r, endRA_n, fltR, resultsA, resAs, resA, XA_block, XA_cond, pickX_t, pickX_f, pickX_b, XA_skip_blk, XA_skip_lp, XA_exit_seq, XA_exit_lp, XA_exit_blk, XA_exit_nil, load1, Ev.loadCells, objCells, bodyCells, setCells, AV.flat, AV.flat1, backR, backV, backCell, mapO, AV.cells, AV.atom, AV.tree, fillV, repeatL, treeCell, freezeAll, eqCells, callV_T, callV_F, passV, passCell, srcCells, sliceBounds, hiB, loB, thenQ_nA, thenQ_xA, thenQ_rA, runK_nA, runK_xA, runK_rA, wrap_i64, wrap_u64, wrap_u32, wrap_u8, wrap_u16, hc, e, w, c3, c4, c5]
    · have w : IntKind.u64.wrap (absI s - absI t) = absI s - absI t := wrap_u64 (by omega) (by omega)
      have hab : absI (s + t) = absI s - absI t := by
        unfold absI at *
        repeat' split
        all_goals omega
      have hst : decide (s + t < 0) = (decide (s < 0) && !decide (absI s - absI t = 0)) := by
        have h2 : (s + t < 0) ↔ (s < 0 ∧ ¬ absI s - absI t = 0) := by
          unfold absI at *
          repeat' split
          all_goals (try split at c3)
          all_goals (try split at c3)
          all_goals omega
        by_cases c6 : s + t < 0
        · have := h2.1 c6
          simp [c6, this.1, this.2]
        · have : ¬ (s < 0 ∧ ¬ absI s - absI t = 0) := fun h => c6 (h2.2 h)
          simp [c6]
          simpa using this
      unfold wideV
      rw [hab, hst]
      generalize decide (t < 0) = B at *
      generalize decide (s < 0) = A at *
      generalize absI s = x at *
      generalize absI t = y at *
      by_cases c5 : x - y = 0
      · simp [beqI, bneI, mm_min2, mm_max2, mm_min3, mm_max3, startE, lkE, lkX, lkE_rest, sx, substE, opVA, objs0, List.replicate, XA_seq, XA_region, XOA_go, goE_someA, opV, ev, putA, layAll, XOA_nil, XA_skip_seq, XA_skip_nil, XOA_gd, goG_tA, goG_uA, binV, bi_add, bi_sub, bi_mul, bi_quo, bi_rem, bi_eql, bi_neq, bi_lss, bi_leq, bi_gtr, bi_geq, bi_shl, bi_shr, bi_and, bi_or, bi_xor, unV, XA_ret_nil, XA_ret_cons, endFA_r, endFA_n, endTA_r, endTA_n, endRA_r, endRA_n, fltR, resultsA, resAs, resA, XA_block, XA_cond, pickX_t, pickX_f, pickX_b, XA_skip_blk, XA_skip_lp, XA_exit_seq, XA_exit_lp, XA_exit_blk, XA_exit_nil, load1, Ev.loadCells, objCells, bodyCells, setCells, AV.flat, AV.flat1, backR, backV, backCell, mapO, AV.cells, AV.atom, AV.tree, fillV, repeatL, treeCell, freezeAll, eqCells, callV_T, callV_F, passV, passCell, srcCells, sliceBounds, hiB, loB, thenQ_nA, thenQ_xA, thenQ_rA, runK_nA, runK_xA, runK_rA, wrap_i64, wrap_u64, wrap_u32, wrap_u8, wrap_u16, hc, e, w, c3, c5]
      · simp [beqI, bneI, mm_min2, mm_max2, mm_min3, mm_max3, startE, lkE, lkX, lkE_rest, sx, substE, opVA, objs0, List.replicate, XA_seq, XA_region, XOA_go, goE_someA, opV, ev, putA, layAll, XOA_nil, XA_skip_seq, XA_skip_nil, XOA_gd, goG_tA, goG_uA, binV, bi_add, bi_sub, bi_mul, bi_quo, bi_rem, bi_eql, bi_neq, bi_lss, bi_leq, bi_gtr, bi_geq, bi_shl, bi_shr, bi_and, bi_or, bi_xor, unV, XA_ret_nil, XA_ret_cons, endFA_r, endFA_n, endTA_r, endTA_n, endRA_r, endRA_n, fltR, resultsA, resAs, resA, XA_block, XA_cond, pickX_t, pickX_f, pickX_b, XA_skip_blk, XA_skip_lp, XA_exit_seq, XA_exit_lp, XA_exit_blk, XA_exit_nil, load1, Ev.loadCells, objCells, bodyCells, setCells, AV.flat, AV.flat1, backR, backV, backCell, mapO, AV.cells, AV.atom, AV.tree, fillV, repeatL, treeCell, freezeAll, eqCells, callV_T, callV_F, passV, passCell, srcCells, sliceBounds, hiB, loB, thenQ_nA, thenQ_xA, thenQ_rA, runK_nA, runK_xA, runK_rA, wrap_i64, wrap_u64, wrap_u32, wrap_u8, wrap_u16, hc, e, w, c3, c5]
theorem wback_ev (s : Int) (hs : absI s ≤ MM) : cvF tab 31 [.agg (wideV s)] = some (.tup [.int .i64 s, .bool true]) := by
  refine cvFA_R (mf := Mf.f31) rfl rfl (by kernel_rfl) ?_
  simp only [Mf.f31]
  unfold MM at hs
  have h0 := absI_nn s
  have c1 : ¬ 9223372036854775808 < absI s := by omega
  have c2 : ¬ absI s = 9223372036854775808 := by omega
  have w1 : IntKind.i64.wrap (absI s) = absI s := wrap_i64 (by omega) (by omega)
  by_cases c : s < 0
  · have hab : absI s = -s := by unfold absI; rw [if_pos c]
    have w2 : IntKind.i64.wrap (-absI s) = s := by rw [wrap_i64 (by omega) (by omega)]; omega
    simp [beqI, bneI, mm_min2, mm_max2, mm_min3, mm_max3, startE, lkE, lkX, lkE_rest, sx, substE, opVA, objs0, List.replicate, XA_seq, XA_region, XOA_go, goE_someA, opV, ev, putA, layAll, XOA_nil, XA_skip_seq, XA_skip_nil, XOA_gd, goG_tA, goG_uA, binV, bi_add, bi_sub, bi_mul, bi_quo, bi_rem, bi_eql, bi_neq, bi_lss, bi_leq, bi_gtr, bi_geq, bi_shl, bi_shr, bi_and, bi_or, bi_xor, unV, XA_ret_nil, XA_ret_cons, endFA_r, endFA_n, endTA_r, endTA_n, endRA_r, endRA_n, fltR, resultsA, resAs, resA, XA_block, XA_cond, pickX_t, pickX_f, pickX_b, XA_skip_blk, XA_skip_lp, XA_exit_seq, XA_exit_lp, XA_exit_blk, XA_exit_nil, load1, Ev.loadCells, objCells, bodyCells, setCells, AV.flat, AV.flat1, backR, backV, backCell, mapO, AV.cells, AV.atom, AV.tree, fillV, repeatL, treeCell, freezeAll, eqCells, callV_T, callV_F, passV, passCell, srcCells, sliceBounds, hiB, loB, thenQ_nA, thenQ_xA, thenQ_rA, runK_nA, runK_xA, runK_rA, wrap_i64, wrap_u64, wrap_u32, wrap_u8, wrap_u16, wideV, c, c1, c2, w1, w2]
  · have hab : absI s = s := by unfold absI; rw [if_neg c]
    simp [beqI, bneI, mm_min2, mm_max2, mm_min3, mm_max3, startE, lkE, lkX, lkE_rest, sx, substE, opVA, objs0, List.replicate, XA_seq, XA_region, XOA_go, goE_someA, opV, ev, putA, layAll, XOA_nil, XA_skip_seq, XA_skip_nil, XOA_gd, goG_tA, goG_uA, binV, bi_add, bi_sub, bi_mul, bi_quo, bi_rem, bi_eql, bi_neq, bi_lss, bi_leq, bi_gtr, bi_geq, bi_shl, bi_shr, bi_and, bi_or, bi_xor, unV, XA_ret_nil, XA_ret_cons, endFA_r, endFA_n, endTA_r, endTA_n, endRA_r, endRA_n, fltR, resultsA, resAs, resA, XA_block, XA_cond, pickX_t, pickX_f, pickX_b, XA_skip_blk, XA_skip_lp, XA_exit_seq, XA_exit_lp, XA_exit_blk, XA_exit_nil, load1, Ev.loadCells, objCells, bodyCells, setCells, AV.flat, AV.flat1, backR, backV, backCell, mapO, AV.cells, AV.atom, AV.tree, fillV, repeatL, treeCell, freezeAll, eqCells, callV_T, callV_F, passV, passCell, srcCells, sliceBounds, hiB, loB, thenQ_nA, thenQ_xA, thenQ_rA, runK_nA, runK_xA, runK_rA, wrap_i64, wrap_u64, wrap_u32, wrap_u8, wrap_u16, wideV, c, c1, c2, w1]
    exact hab
def sumA (v : List Int) : Int := (v.map absI).sum
theorem sum_abs (v : List Int) : -(sumA v) ≤ v.sum ∧ v.sum ≤ sumA v := by
  induction v with
  | nil => simp [sumA]
  | cons a v ih =>
    simp only [sumA, List.map_cons, List.sum_cons] at *
    unfold absI at *
    split <;> omega
theorem sumA_take (v : List Int) (j : Nat) : sumA (v.take j) ≤ sumA v := by
  induction v generalizing j with
  | nil => simp
  | cons a v ih =>
    cases j with
    | zero =>
      have : ∀ (v : List Int), 0 ≤ sumA v := by
        intro v
        induction v with
        | nil => simp [sumA]
        | cons a v ih => simp only [sumA, List.map_cons, List.sum_cons] at *; have := absI_nn a; omega
      simpa [sumA] using this (a :: v)
    | succ j =>
      have := ih j
      simp only [sumA, List.take_succ_cons, List.map_cons, List.sum_cons] at *
      omega
theorem absI_of {s m : Int} (h : -m ≤ s ∧ s ≤ m) : absI s ≤ m := by unfold absI; split <;> omega
theorem total_ev (v : List Int) (hl : v.length ≤ 1000000) (hv : sumA v ≤ MM) : cvF tab 13 [rI v] = some (.tup [.int .i64 v.sum, .bool true]) := by
  refine cvFA_R (mf := Mf.f13) rfl rfl (by kernel_rfl) ?_
  simp only [Mf.f13]
  simp [beqI, bneI, mm_min2, mm_max2, mm_min3, mm_max3, startE, lkE, lkX, lkE_rest, sx, substE, opVA, objs0, List.replicate, XA_seq, XA_region, XOA_go, goE_someA, opV, ev, putA, layAll, XOA_nil, XA_skip_seq, XA_skip_nil, XOA_gd, goG_tA, goG_uA, binV, bi_add, bi_sub, bi_mul, bi_quo, bi_rem, bi_eql, bi_neq, bi_lss, bi_leq, bi_gtr, bi_geq, bi_shl, bi_shr, bi_and, bi_or, bi_xor, unV, XA_ret_nil, XA_ret_cons, endFA_r, endFA_n, endTA_r, endTA_n, endRA_r, endRA_n, fltR, resultsA, resAs, resA, XA_block, XA_cond, pickX_t, pickX_f, pickX_b, XA_skip_blk, XA_skip_lp, XA_exit_seq, XA_exit_lp, XA_exit_blk, XA_exit_nil, load1, Ev.loadCells, objCells, bodyCells, setCells, AV.flat, AV.flat1, backR, backV, backCell, mapO, AV.cells, AV.atom, AV.tree, fillV, repeatL, treeCell, freezeAll, eqCells, callV_T, callV_F, passV, passCell, srcCells, sliceBounds, hiB, loB, thenQ_nA, thenQ_xA, thenQ_rA, runK_nA, runK_xA, runK_rA, wrap_i64, wrap_u64, wrap_u32, wrap_u8, wrap_u16, rI]
  refine XA_for (fun j => ⟨[(0, rI v), (4, .ptr 0 0 0), (5, .int .i64 j)], [⟨0, .var (wideV (v.take j).sum)⟩]⟩)
    (fun _ => True) v.length 0 (Nat.zero_le _) (by simp [AV.atom, normA, lkE, fixObjs, fixBody, fixV, fixCell, rI, wideV, absI]) trivial ?_ ?_
  · intro j _ hj _
    have hj' : (j : Int) < v.length := by omega
    have h1 := sumA_take v j
    have h2 := sumA_take v (j + 1)
    have h3 : sumA (v.take (j + 1)) = sumA (v.take j) + absI v[j] := by
      rw [List.take_succ_eq_append_getElem hj]
      simp only [sumA, List.map_append, List.sum_append, List.map_cons, List.map_nil, List.sum_cons, List.sum_nil]
      omega
    have h4 : (v.take (j + 1)).sum = (v.take j).sum + v[j] := by
      rw [List.take_succ_eq_append_getElem hj, List.sum_append]; simp only [List.sum_cons, List.sum_nil]; omega
    have h5 := sum_abs (v.take j)
    have h6 : 0 ≤ absI v[j] := absI_nn _
    have hA : absI (v.take j).sum ≤ MM := absI_of (by omega)
    have hB : absI v[j] ≤ MM := by omega
    have hB2 : inI v[j] := by unfold MM at hB; unfold absI at hB; unfold inI; split at hB <;> omega
    have e1 := plus_ev (v.take j).sum v[j] hA hB
    have e2 := of_ev v[j] hB2
    have ix := idxI v j hj
    have w := wrap_succ j v.length hj (by omega)
    rw [h4]
    generalize v[j] = y at *
    generalize (v.take j).sum = x at *
    unfold wideV at *
    simp [beqI, bneI, mm_min2, mm_max2, mm_min3, mm_max3, startE, lkE, lkX, lkE_rest, sx, substE, opVA, objs0, List.replicate, XA_seq, XA_region, XOA_go, goE_someA, opV, ev, putA, layAll, XOA_nil, XA_skip_seq, XA_skip_nil, XOA_gd, goG_tA, goG_uA, binV, bi_add, bi_sub, bi_mul, bi_quo, bi_rem, bi_eql, bi_neq, bi_lss, bi_leq, bi_gtr, bi_geq, bi_shl, bi_shr, bi_and, bi_or, bi_xor, unV, XA_ret_nil, XA_ret_cons, endFA_r, endFA_n, endTA_r, endTA_n, endRA_r, endRA_n, fltR, resultsA, resAs, resA, XA_block, XA_cond, pickX_t, pickX_f, pickX_b, XA_skip_blk, XA_skip_lp, XA_exit_seq, XA_exit_lp, XA_exit_blk, XA_exit_nil, load1, Ev.loadCells, objCells, bodyCells, setCells, AV.flat, AV.flat1, backR, backV, backCell, mapO, AV.cells, AV.atom, AV.tree, fillV, repeatL, treeCell, freezeAll, eqCells, callV_T, callV_F, passV, passCell, srcCells, sliceBounds, hiB, loB, thenQ_nA, thenQ_xA, thenQ_rA, runK_nA, runK_xA, runK_rA, wrap_i64, wrap_u64, wrap_u32, wrap_u8, wrap_u16, AV.atom, normA, lkE, fixObjs, fixBody, fixV, fixCell, rI, hj', ix, e1, e2, w]
  · intro _
    have h1 := absI_of (sum_abs v)
    have e := wback_ev v.sum (Int.le_trans h1 hv)
    rw [List.take_length]
    unfold wideV at *
    simp [beqI, bneI, mm_min2, mm_max2, mm_min3, mm_max3, startE, lkE, lkX, lkE_rest, sx, substE, opVA, objs0, List.replicate, XA_seq, XA_region, XOA_go, goE_someA, opV, ev, putA, layAll, XOA_nil, XA_skip_seq, XA_skip_nil, XOA_gd, goG_tA, goG_uA, binV, bi_add, bi_sub, bi_mul, bi_quo, bi_rem, bi_eql, bi_neq, bi_lss, bi_leq, bi_gtr, bi_geq, bi_shl, bi_shr, bi_and, bi_or, bi_xor, unV, XA_ret_nil, XA_ret_cons, endFA_r, endFA_n, endTA_r, endTA_n, endRA_r, endRA_n, fltR, resultsA, resAs, resA, XA_block, XA_cond, pickX_t, pickX_f, pickX_b, XA_skip_blk, XA_skip_lp, XA_exit_seq, XA_exit_lp, XA_exit_blk, XA_exit_nil, load1, Ev.loadCells, objCells, bodyCells, setCells, AV.flat, AV.flat1, backR, backV, backCell, mapO, AV.cells, AV.atom, AV.tree, fillV, repeatL, treeCell, freezeAll, eqCells, callV_T, callV_F, passV, passCell, srcCells, sliceBounds, hiB, loB, thenQ_nA, thenQ_xA, thenQ_rA, runK_nA, runK_xA, runK_rA, wrap_i64, wrap_u64, wrap_u32, wrap_u8, wrap_u16, AV.atom, normA, lkE, fixObjs, fixBody, fixV, fixCell, rI, e]
def gW (l : List Rw) (i : Nat) : Rw := l.getD i ⟨0, 0, 0, 0, 0, 0⟩
theorem gW_get (l : List Rw) (i : Nat) (h : i < l.length) : gW l i = l[i] := by
  rw [gW, List.getD_eq_getElem?_getD, List.getElem?_eq_getElem h]; rfl
def selN (f : Rw → Int) (l : List Rw) (p : List Bool) : Nat → List Int
  | 0 => []
  | j + 1 => selN f l p j ++ (if p.getD j false = true then [f (gW l j)] else [])
theorem selN_len (f : Rw → Int) (l : List Rw) (p : List Bool) : ∀ j, (selN f l p j).length ≤ j
  | 0 => by simp [selN]
  | j + 1 => by
    have := selN_len f l p j
    simp only [selN, List.length_append]
    split <;> simp <;> omega
theorem selN_sum (f : Rw → Int) (l : List Rw) (p : List Bool) : ∀ j, j ≤ l.length → sumA (selN f l p j) ≤ ((l.take j).map fun r => absI (f r)).sum
  | 0, _ => by simp [selN, sumA]
  | j + 1, h => by
    have h1 := selN_sum f l p j (by omega)
    have h2 := sum_snoc (fun r => absI (f r)) l j (by omega)
    have h3 := absI_nn (f l[j])
    have h4 := gW_get l j (by omega)
    simp only [selN]
    split
    · rw [h2, h4]
      simp only [sumA, List.map_append, List.sum_append, List.map_cons, List.map_nil, List.sum_cons, List.sum_nil] at *
      omega
    · rw [h2, List.append_nil]
      omega
def rBo (p : List Bool) : AV := .ro p.length (p.map .bool)
theorem rowSums_ev (l : List Rw) (p : List Bool) (hk : okL l) (hp : p.length ≤ 9223372036854775807) : cvF tab 5 [rW l, rBo p] = some (.bool true) := by
  refine cvFA_R (mf := Mf.f5) rfl rfl (by kernel_rfl) ?_
  simp only [Mf.f5]
  by_cases hl : l.length ≤ 200
  · have hl' : ¬ 200 < (l.length : Int) := by omega
    have e1 := mass_ev l (by omega) hk
    unfold massV at e1
    cases g : massG l with
    | false =>
      rw [g] at e1
      simp only [rW] at e1
      simp at e1
      simp [beqI, bneI, mm_min2, mm_max2, mm_min3, mm_max3, startE, lkE, lkX, lkE_rest, sx, substE, opVA, objs0, List.replicate, XA_seq, XA_region, XOA_go, goE_someA, opV, ev, putA, layAll, XOA_nil, XA_skip_seq, XA_skip_nil, XOA_gd, goG_tA, goG_uA, binV, bi_add, bi_sub, bi_mul, bi_quo, bi_rem, bi_eql, bi_neq, bi_lss, bi_leq, bi_gtr, bi_geq, bi_shl, bi_shr, bi_and, bi_or, bi_xor, unV, XA_ret_nil, XA_ret_cons, endFA_r, endFA_n, endTA_r, endTA_n, endRA_r, endRA_n, fltR, resultsA, resAs, resA, XA_block, XA_cond, pickX_t, pickX_f, pickX_b, XA_skip_blk, XA_skip_lp, XA_exit_seq, XA_exit_lp, XA_exit_blk, XA_exit_nil, load1, Ev.loadCells, objCells, bodyCells, setCells, AV.flat, AV.flat1, backR, backV, backCell, mapO, AV.cells, AV.atom, AV.tree, fillV, repeatL, treeCell, freezeAll, eqCells, callV_T, callV_F, passV, passCell, srcCells, sliceBounds, hiB, loB, thenQ_nA, thenQ_xA, thenQ_rA, runK_nA, runK_xA, runK_rA, wrap_i64, wrap_u64, wrap_u32, wrap_u8, wrap_u16, rW, hl', e1, wakes_ev]
    | true =>
      rw [g] at e1
      simp only [rW] at e1
      simp at e1
      have hX : sumX l ≤ MM := by unfold massG at g; simp at g; exact g.1
      have hY : sumY l ≤ MM := by unfold massG at g; simp at g; exact g.2
      simp [beqI, bneI, mm_min2, mm_max2, mm_min3, mm_max3, startE, lkE, lkX, lkE_rest, sx, substE, opVA, objs0, List.replicate, XA_seq, XA_region, XOA_go, goE_someA, opV, ev, putA, layAll, XOA_nil, XA_skip_seq, XA_skip_nil, XOA_gd, goG_tA, goG_uA, binV, bi_add, bi_sub, bi_mul, bi_quo, bi_rem, bi_eql, bi_neq, bi_lss, bi_leq, bi_gtr, bi_geq, bi_shl, bi_shr, bi_and, bi_or, bi_xor, unV, XA_ret_nil, XA_ret_cons, endFA_r, endFA_n, endTA_r, endTA_n, endRA_r, endRA_n, fltR, resultsA, resAs, resA, XA_block, XA_cond, pickX_t, pickX_f, pickX_b, XA_skip_blk, XA_skip_lp, XA_exit_seq, XA_exit_lp, XA_exit_blk, XA_exit_nil, load1, Ev.loadCells, objCells, bodyCells, setCells, AV.flat, AV.flat1, backR, backV, backCell, mapO, AV.cells, AV.atom, AV.tree, fillV, repeatL, treeCell, freezeAll, eqCells, callV_T, callV_F, passV, passCell, srcCells, sliceBounds, hiB, loB, thenQ_nA, thenQ_xA, thenQ_rA, runK_nA, runK_xA, runK_rA, wrap_i64, wrap_u64, wrap_u32, wrap_u8, wrap_u16, rW, rBo, hl', e1]
      refine XA_for (fun k => ⟨[(0, rW l), (1, rBo p), (5, .ptr 0 0 0), (7, .int .i64 k)], [⟨0, .var [.int .i64 (sumX l), .int .i64 (sumY l)]⟩, ⟨0, .none⟩]⟩)
        (fun _ => True) 2 0 (by omega) (by simp [AV.atom, normA, lkE, fixObjs, fixBody, fixV, fixCell, rW, rBo]) trivial ?_ ?_
      · intro k _ hk2 _
        have h01 : k = 0 ∨ k = 1 := by omega
        rcases h01 with rfl | rfl
        · simp [beqI, bneI, mm_min2, mm_max2, mm_min3, mm_max3, startE, lkE, lkX, lkE_rest, sx, substE, opVA, objs0, List.replicate, XA_seq, XA_region, XOA_go, goE_someA, opV, ev, putA, layAll, XOA_nil, XA_skip_seq, XA_skip_nil, XOA_gd, goG_tA, goG_uA, binV, bi_add, bi_sub, bi_mul, bi_quo, bi_rem, bi_eql, bi_neq, bi_lss, bi_leq, bi_gtr, bi_geq, bi_shl, bi_shr, bi_and, bi_or, bi_xor, unV, XA_ret_nil, XA_ret_cons, endFA_r, endFA_n, endTA_r, endTA_n, endRA_r, endRA_n, fltR, resultsA, resAs, resA, XA_block, XA_cond, pickX_t, pickX_f, pickX_b, XA_skip_blk, XA_skip_lp, XA_exit_seq, XA_exit_lp, XA_exit_blk, XA_exit_nil, load1, Ev.loadCells, objCells, bodyCells, setCells, AV.flat, AV.flat1, backR, backV, backCell, mapO, AV.cells, AV.atom, AV.tree, fillV, repeatL, treeCell, freezeAll, eqCells, callV_T, callV_F, passV, passCell, srcCells, sliceBounds, hiB, loB, thenQ_nA, thenQ_xA, thenQ_rA, runK_nA, runK_xA, runK_rA, wrap_i64, wrap_u64, wrap_u32, wrap_u8, wrap_u16, AV.atom, normA, lkE, fixObjs, fixBody, fixV, fixCell, rW]
          refine XA_for (fun j => ⟨[(0, rW l), (1, rBo p), (5, .ptr 0 0 0), (7, .int .i64 0), (8, .own 1 0 0 (selN Rw.x l p j).length 1), (9, .int .i64 j)], [⟨0, .var [.int .i64 (sumX l), .int .i64 (sumY l)]⟩, ⟨0, .row true 1 ((selN Rw.x l p j).map (.int .i64))⟩]⟩)
            (fun _ => True) l.length 0 (Nat.zero_le _) (by simp [AV.atom, normA, lkE, fixObjs, fixBody, fixV, fixCell, rW, rBo, selN]) trivial ?_ ?_
          · intro j _ hj _
            have hj' : (j : Int) < l.length := by omega
            have hd := dropW l j hj
            have hg := gW_get l j hj
            have hs := selN_len Rw.x l p j
            have w2 := wrap_succ j l.length hj (by omega)
            unfold rowC at hd
            have q1 : ((selN Rw.x l p j).length + 1) * 8 ≤ 140737488355328 := by omega
            have q2 : (selN Rw.x l p j).length + 1 < 4611686018427387904 := by omega
            by_cases cp : j < p.length
            · have cp' : (j : Int) < p.length := by omega
              have hp : (List.drop j (p.map AV.bool))[0]? = some (.bool p[j]) := by simp [cp]
              have hp2 : (p.map AV.bool)[j]? = some (.bool p[j]) := by simp [cp]
              have hpg : p.getD j false = p[j] := by rw [List.getD_eq_getElem?_getD, List.getElem?_eq_getElem cp]; rfl
              cases hb : p[j] with
              | true =>
                have hsel : selN Rw.x l p (j + 1) = selN Rw.x l p j ++ [Rw.x l[j]] := by simp only [selN]; rw [hpg, hb, if_pos rfl, hg]
                rw [hb] at hp hp2
                rw [hsel]
                generalize selN Rw.x l p j = S at *
                generalize l[j] = r at *
                simp [beqI, bneI, mm_min2, mm_max2, mm_min3, mm_max3, startE, lkE, lkX, lkE_rest, sx, substE, opVA, objs0, List.replicate, XA_seq, XA_region, XOA_go, goE_someA, opV, ev, putA, layAll, XOA_nil, XA_skip_seq, XA_skip_nil, XOA_gd, goG_tA, goG_uA, binV, bi_add, bi_sub, bi_mul, bi_quo, bi_rem, bi_eql, bi_neq, bi_lss, bi_leq, bi_gtr, bi_geq, bi_shl, bi_shr, bi_and, bi_or, bi_xor, unV, XA_ret_nil, XA_ret_cons, endFA_r, endFA_n, endTA_r, endTA_n, endRA_r, endRA_n, fltR, resultsA, resAs, resA, XA_block, XA_cond, pickX_t, pickX_f, pickX_b, XA_skip_blk, XA_skip_lp, XA_exit_seq, XA_exit_lp, XA_exit_blk, XA_exit_nil, load1, Ev.loadCells, objCells, bodyCells, setCells, AV.flat, AV.flat1, backR, backV, backCell, mapO, AV.cells, AV.atom, AV.tree, fillV, repeatL, treeCell, freezeAll, eqCells, callV_T, callV_F, passV, passCell, srcCells, sliceBounds, hiB, loB, thenQ_nA, thenQ_xA, thenQ_rA, runK_nA, runK_xA, runK_rA, wrap_i64, wrap_u64, wrap_u32, wrap_u8, wrap_u16, AV.atom, normA, lkE, fixObjs, fixBody, fixV, fixCell, rW, rBo, hj', cp', hd, hp, hp2, w2, q1, q2]
              | false =>
                have hsel : selN Rw.x l p (j + 1) = selN Rw.x l p j := by simp only [selN]; rw [hpg, hb]; simp
                rw [hb] at hp hp2
                rw [hsel]
                generalize selN Rw.x l p j = S at *
                simp [beqI, bneI, mm_min2, mm_max2, mm_min3, mm_max3, startE, lkE, lkX, lkE_rest, sx, substE, opVA, objs0, List.replicate, XA_seq, XA_region, XOA_go, goE_someA, opV, ev, putA, layAll, XOA_nil, XA_skip_seq, XA_skip_nil, XOA_gd, goG_tA, goG_uA, binV, bi_add, bi_sub, bi_mul, bi_quo, bi_rem, bi_eql, bi_neq, bi_lss, bi_leq, bi_gtr, bi_geq, bi_shl, bi_shr, bi_and, bi_or, bi_xor, unV, XA_ret_nil, XA_ret_cons, endFA_r, endFA_n, endTA_r, endTA_n, endRA_r, endRA_n, fltR, resultsA, resAs, resA, XA_block, XA_cond, pickX_t, pickX_f, pickX_b, XA_skip_blk, XA_skip_lp, XA_exit_seq, XA_exit_lp, XA_exit_blk, XA_exit_nil, load1, Ev.loadCells, objCells, bodyCells, setCells, AV.flat, AV.flat1, backR, backV, backCell, mapO, AV.cells, AV.atom, AV.tree, fillV, repeatL, treeCell, freezeAll, eqCells, callV_T, callV_F, passV, passCell, srcCells, sliceBounds, hiB, loB, thenQ_nA, thenQ_xA, thenQ_rA, runK_nA, runK_xA, runK_rA, wrap_i64, wrap_u64, wrap_u32, wrap_u8, wrap_u16, AV.atom, normA, lkE, fixObjs, fixBody, fixV, fixCell, rW, rBo, hj', cp', hp, hp2, w2]
            · have cp' : ¬ (j : Int) < p.length := by omega
              have hpg : p.getD j false = false := by rw [List.getD_eq_getElem?_getD, List.getElem?_eq_none (by omega)]; rfl
              have hsel : selN Rw.x l p (j + 1) = selN Rw.x l p j := by simp only [selN]; rw [hpg]; simp
              rw [hsel]
              generalize selN Rw.x l p j = S at *
              simp [beqI, bneI, mm_min2, mm_max2, mm_min3, mm_max3, startE, lkE, lkX, lkE_rest, sx, substE, opVA, objs0, List.replicate, XA_seq, XA_region, XOA_go, goE_someA, opV, ev, putA, layAll, XOA_nil, XA_skip_seq, XA_skip_nil, XOA_gd, goG_tA, goG_uA, binV, bi_add, bi_sub, bi_mul, bi_quo, bi_rem, bi_eql, bi_neq, bi_lss, bi_leq, bi_gtr, bi_geq, bi_shl, bi_shr, bi_and, bi_or, bi_xor, unV, XA_ret_nil, XA_ret_cons, endFA_r, endFA_n, endTA_r, endTA_n, endRA_r, endRA_n, fltR, resultsA, resAs, resA, XA_block, XA_cond, pickX_t, pickX_f, pickX_b, XA_skip_blk, XA_skip_lp, XA_exit_seq, XA_exit_lp, XA_exit_blk, XA_exit_nil, load1, Ev.loadCells, objCells, bodyCells, setCells, AV.flat, AV.flat1, backR, backV, backCell, mapO, AV.cells, AV.atom, AV.tree, fillV, repeatL, treeCell, freezeAll, eqCells, callV_T, callV_F, passV, passCell, srcCells, sliceBounds, hiB, loB, thenQ_nA, thenQ_xA, thenQ_rA, runK_nA, runK_xA, runK_rA, wrap_i64, wrap_u64, wrap_u32, wrap_u8, wrap_u16, AV.atom, normA, lkE, fixObjs, fixBody, fixV, fixCell, rW, rBo, hj', cp', w2]
          · intro _
            have hsum := selN_sum Rw.x l p l.length (Nat.le_refl _)
            rw [List.take_length] at hsum
            have hlen := selN_len Rw.x l p l.length
            have et := total_ev (selN Rw.x l p l.length) (by omega) (Int.le_trans hsum hX)
            have hb := sum_abs (selN Rw.x l p l.length)
            have hsm := hX
            have hnn : 0 ≤ sumX l := sum_nn _ (fun r => absI_nn _) l
            unfold MM at hsm
            change _ ≤ sumX l at hsum
            generalize selN Rw.x l p l.length = S at *
            have hneg : IntKind.i64.wrap (-(sumX l)) = -(sumX l) := wrap_i64 (by omega) (by omega)
            have c1 : ¬ sumX l < S.sum := by omega
            have c2 : ¬ S.sum < -(sumX l) := by omega
            have c3 : ¬ sumX l < 0 := by omega
            have c4 : ¬ 2305843009213693952 < sumX l := by omega
            have w2 := wrap_succ 0 2 (by omega) (by omega)
            simp at w2
            simp only [rI] at et
            have htk : List.take S.length (S.map (AV.int .i64)) = S.map (.int .i64) := List.take_of_length_le (by simp)
            simp [beqI, bneI, mm_min2, mm_max2, mm_min3, mm_max3, startE, lkE, lkX, lkE_rest, sx, substE, opVA, objs0, List.replicate, XA_seq, XA_region, XOA_go, goE_someA, opV, ev, putA, layAll, XOA_nil, XA_skip_seq, XA_skip_nil, XOA_gd, goG_tA, goG_uA, binV, bi_add, bi_sub, bi_mul, bi_quo, bi_rem, bi_eql, bi_neq, bi_lss, bi_leq, bi_gtr, bi_geq, bi_shl, bi_shr, bi_and, bi_or, bi_xor, unV, XA_ret_nil, XA_ret_cons, endFA_r, endFA_n, endTA_r, endTA_n, endRA_r, endRA_n, fltR, resultsA, resAs, resA, XA_block, XA_cond, pickX_t, pickX_f, pickX_b, XA_skip_blk, XA_skip_lp, XA_exit_seq, XA_exit_lp, XA_exit_blk, XA_exit_nil, load1, Ev.loadCells, objCells, bodyCells, setCells, AV.flat, AV.flat1, backR, backV, backCell, mapO, AV.cells, AV.atom, AV.tree, fillV, repeatL, treeCell, freezeAll, eqCells, callV_T, callV_F, passV, passCell, srcCells, sliceBounds, hiB, loB, thenQ_nA, thenQ_xA, thenQ_rA, runK_nA, runK_xA, runK_rA, wrap_i64, wrap_u64, wrap_u32, wrap_u8, wrap_u16, AV.atom, normA, lkE, fixObjs, fixBody, fixV, fixCell, rW, rBo, et, hneg, c1, c2, c3, c4, w2, htk]
        · simp [beqI, bneI, mm_min2, mm_max2, mm_min3, mm_max3, startE, lkE, lkX, lkE_rest, sx, substE, opVA, objs0, List.replicate, XA_seq, XA_region, XOA_go, goE_someA, opV, ev, putA, layAll, XOA_nil, XA_skip_seq, XA_skip_nil, XOA_gd, goG_tA, goG_uA, binV, bi_add, bi_sub, bi_mul, bi_quo, bi_rem, bi_eql, bi_neq, bi_lss, bi_leq, bi_gtr, bi_geq, bi_shl, bi_shr, bi_and, bi_or, bi_xor, unV, XA_ret_nil, XA_ret_cons, endFA_r, endFA_n, endTA_r, endTA_n, endRA_r, endRA_n, fltR, resultsA, resAs, resA, XA_block, XA_cond, pickX_t, pickX_f, pickX_b, XA_skip_blk, XA_skip_lp, XA_exit_seq, XA_exit_lp, XA_exit_blk, XA_exit_nil, load1, Ev.loadCells, objCells, bodyCells, setCells, AV.flat, AV.flat1, backR, backV, backCell, mapO, AV.cells, AV.atom, AV.tree, fillV, repeatL, treeCell, freezeAll, eqCells, callV_T, callV_F, passV, passCell, srcCells, sliceBounds, hiB, loB, thenQ_nA, thenQ_xA, thenQ_rA, runK_nA, runK_xA, runK_rA, wrap_i64, wrap_u64, wrap_u32, wrap_u8, wrap_u16, AV.atom, normA, lkE, fixObjs, fixBody, fixV, fixCell, rW]
          refine XA_for (fun j => ⟨[(0, rW l), (1, rBo p), (5, .ptr 0 0 0), (7, .int .i64 1), (8, .own 1 0 0 (selN Rw.y l p j).length 1), (9, .int .i64 j)], [⟨0, .var [.int .i64 (sumX l), .int .i64 (sumY l)]⟩, ⟨0, .row true 1 ((selN Rw.y l p j).map (.int .i64))⟩]⟩)
            (fun _ => True) l.length 0 (Nat.zero_le _) (by simp [AV.atom, normA, lkE, fixObjs, fixBody, fixV, fixCell, rW, rBo, selN]) trivial ?_ ?_
          · intro j _ hj _
            have hj' : (j : Int) < l.length := by omega
            have hd := dropW l j hj
            have hg := gW_get l j hj
            have hs := selN_len Rw.y l p j
            have w2 := wrap_succ j l.length hj (by omega)
            unfold rowC at hd
            have q1 : ((selN Rw.y l p j).length + 1) * 8 ≤ 140737488355328 := by omega
            have q2 : (selN Rw.y l p j).length + 1 < 4611686018427387904 := by omega
            by_cases cp : j < p.length
            · have cp' : (j : Int) < p.length := by omega
              have hp : (List.drop j (p.map AV.bool))[0]? = some (.bool p[j]) := by simp [cp]
              have hp2 : (p.map AV.bool)[j]? = some (.bool p[j]) := by simp [cp]
              have hpg : p.getD j false = p[j] := by rw [List.getD_eq_getElem?_getD, List.getElem?_eq_getElem cp]; rfl
              cases hb : p[j] with
              | true =>
                have hsel : selN Rw.y l p (j + 1) = selN Rw.y l p j ++ [Rw.y l[j]] := by simp only [selN]; rw [hpg, hb, if_pos rfl, hg]
                rw [hb] at hp hp2
                rw [hsel]
                generalize selN Rw.y l p j = S at *
                generalize l[j] = r at *
                simp [beqI, bneI, mm_min2, mm_max2, mm_min3, mm_max3, startE, lkE, lkX, lkE_rest, sx, substE, opVA, objs0, List.replicate, XA_seq, XA_region, XOA_go, goE_someA, opV, ev, putA, layAll, XOA_nil, XA_skip_seq, XA_skip_nil, XOA_gd, goG_tA, goG_uA, binV, bi_add, bi_sub, bi_mul, bi_quo, bi_rem, bi_eql, bi_neq, bi_lss, bi_leq, bi_gtr, bi_geq, bi_shl, bi_shr, bi_and, bi_or, bi_xor, unV, XA_ret_nil, XA_ret_cons, endFA_r, endFA_n, endTA_r, endTA_n, endRA_r, endRA_n, fltR, resultsA, resAs, resA, XA_block, XA_cond, pickX_t, pickX_f, pickX_b, XA_skip_blk, XA_skip_lp, XA_exit_seq, XA_exit_lp, XA_exit_blk, XA_exit_nil, load1, Ev.loadCells, objCells, bodyCells, setCells, AV.flat, AV.flat1, backR, backV, backCell, mapO, AV.cells, AV.atom, AV.tree, fillV, repeatL, treeCell, freezeAll, eqCells, callV_T, callV_F, passV, passCell, srcCells, sliceBounds, hiB, loB, thenQ_nA, thenQ_xA, thenQ_rA, runK_nA, runK_xA, runK_rA, wrap_i64, wrap_u64, wrap_u32, wrap_u8, wrap_u16, AV.atom, normA, lkE, fixObjs, fixBody, fixV, fixCell, rW, rBo, hj', cp', hd, hp, hp2, w2, q1, q2]
              | false =>
                have hsel : selN Rw.y l p (j + 1) = selN Rw.y l p j := by simp only [selN]; rw [hpg, hb]; simp
                rw [hb] at hp hp2
                rw [hsel]
                generalize selN Rw.y l p j = S at *
                simp [beqI, bneI, mm_min2, mm_max2, mm_min3, mm_max3, startE, lkE, lkX, lkE_rest, sx, substE, opVA, objs0, List.replicate, XA_seq, XA_region, XOA_go, goE_someA, opV, ev, putA, layAll, XOA_nil, XA_skip_seq, XA_skip_nil, XOA_gd, goG_tA, goG_uA, binV, bi_add, bi_sub, bi_mul, bi_quo, bi_rem, bi_eql, bi_neq, bi_lss, bi_leq, bi_gtr, bi_geq, bi_shl, bi_shr, bi_and, bi_or, bi_xor, unV, XA_ret_nil, XA_ret_cons, endFA_r, endFA_n, endTA_r, endTA_n, endRA_r, endRA_n, fltR, resultsA, resAs, resA, XA_block, XA_cond, pickX_t, pickX_f, pickX_b, XA_skip_blk, XA_skip_lp, XA_exit_seq, XA_exit_lp, XA_exit_blk, XA_exit_nil, load1, Ev.loadCells, objCells, bodyCells, setCells, AV.flat, AV.flat1, backR, backV, backCell, mapO, AV.cells, AV.atom, AV.tree, fillV, repeatL, treeCell, freezeAll, eqCells, callV_T, callV_F, passV, passCell, srcCells, sliceBounds, hiB, loB, thenQ_nA, thenQ_xA, thenQ_rA, runK_nA, runK_xA, runK_rA, wrap_i64, wrap_u64, wrap_u32, wrap_u8, wrap_u16, AV.atom, normA, lkE, fixObjs, fixBody, fixV, fixCell, rW, rBo, hj', cp', hp, hp2, w2]
            · have cp' : ¬ (j : Int) < p.length := by omega
              have hpg : p.getD j false = false := by rw [List.getD_eq_getElem?_getD, List.getElem?_eq_none (by omega)]; rfl
              have hsel : selN Rw.y l p (j + 1) = selN Rw.y l p j := by simp only [selN]; rw [hpg]; simp
              rw [hsel]
              generalize selN Rw.y l p j = S at *
              simp [beqI, bneI, mm_min2, mm_max2, mm_min3, mm_max3, startE, lkE, lkX, lkE_rest, sx, substE, opVA, objs0, List.replicate, XA_seq, XA_region, XOA_go, goE_someA, opV, ev, putA, layAll, XOA_nil, XA_skip_seq, XA_skip_nil, XOA_gd, goG_tA, goG_uA, binV, bi_add, bi_sub, bi_mul, bi_quo, bi_rem, bi_eql, bi_neq, bi_lss, bi_leq, bi_gtr, bi_geq, bi_shl, bi_shr, bi_and, bi_or, bi_xor, unV, XA_ret_nil, XA_ret_cons, endFA_r, endFA_n, endTA_r, endTA_n, endRA_r, endRA_n, fltR, resultsA, resAs, resA, XA_block, XA_cond, pickX_t, pickX_f, pickX_b, XA_skip_blk, XA_skip_lp, XA_exit_seq, XA_exit_lp, XA_exit_blk, XA_exit_nil, load1, Ev.loadCells, objCells, bodyCells, setCells, AV.flat, AV.flat1, backR, backV, backCell, mapO, AV.cells, AV.atom, AV.tree, fillV, repeatL, treeCell, freezeAll, eqCells, callV_T, callV_F, passV, passCell, srcCells, sliceBounds, hiB, loB, thenQ_nA, thenQ_xA, thenQ_rA, runK_nA, runK_xA, runK_rA, wrap_i64, wrap_u64, wrap_u32, wrap_u8, wrap_u16, AV.atom, normA, lkE, fixObjs, fixBody, fixV, fixCell, rW, rBo, hj', cp', w2]
          · intro _
            have hsum := selN_sum Rw.y l p l.length (Nat.le_refl _)
            rw [List.take_length] at hsum
            have hlen := selN_len Rw.y l p l.length
            have et := total_ev (selN Rw.y l p l.length) (by omega) (Int.le_trans hsum hY)
            have hb := sum_abs (selN Rw.y l p l.length)
            have hsm := hY
            have hnn : 0 ≤ sumY l := sum_nn _ (fun r => absI_nn _) l
            unfold MM at hsm
            change _ ≤ sumY l at hsum
            generalize selN Rw.y l p l.length = S at *
            have hneg : IntKind.i64.wrap (-(sumY l)) = -(sumY l) := wrap_i64 (by omega) (by omega)
            have c1 : ¬ sumY l < S.sum := by omega
            have c2 : ¬ S.sum < -(sumY l) := by omega
            have c3 : ¬ sumY l < 0 := by omega
            have c4 : ¬ 2305843009213693952 < sumY l := by omega
            have w2 := wrap_succ 1 2 (by omega) (by omega)
            simp at w2
            simp only [rI] at et
            have htk : List.take S.length (S.map (AV.int .i64)) = S.map (.int .i64) := List.take_of_length_le (by simp)
            simp [beqI, bneI, mm_min2, mm_max2, mm_min3, mm_max3, startE, lkE, lkX, lkE_rest, sx, substE, opVA, objs0, List.replicate, XA_seq, XA_region, XOA_go, goE_someA, opV, ev, putA, layAll, XOA_nil, XA_skip_seq, XA_skip_nil, XOA_gd, goG_tA, goG_uA, binV, bi_add, bi_sub, bi_mul, bi_quo, bi_rem, bi_eql, bi_neq, bi_lss, bi_leq, bi_gtr, bi_geq, bi_shl, bi_shr, bi_and, bi_or, bi_xor, unV, XA_ret_nil, XA_ret_cons, endFA_r, endFA_n, endTA_r, endTA_n, endRA_r, endRA_n, fltR, resultsA, resAs, resA, XA_block, XA_cond, pickX_t, pickX_f, pickX_b, XA_skip_blk, XA_skip_lp, XA_exit_seq, XA_exit_lp, XA_exit_blk, XA_exit_nil, load1, Ev.loadCells, objCells, bodyCells, setCells, AV.flat, AV.flat1, backR, backV, backCell, mapO, AV.cells, AV.atom, AV.tree, fillV, repeatL, treeCell, freezeAll, eqCells, callV_T, callV_F, passV, passCell, srcCells, sliceBounds, hiB, loB, thenQ_nA, thenQ_xA, thenQ_rA, runK_nA, runK_xA, runK_rA, wrap_i64, wrap_u64, wrap_u32, wrap_u8, wrap_u16, AV.atom, normA, lkE, fixObjs, fixBody, fixV, fixCell, rW, rBo, et, hneg, c1, c2, c3, c4, w2, htk]
      · intro _
        simp [beqI, bneI, mm_min2, mm_max2, mm_min3, mm_max3, startE, lkE, lkX, lkE_rest, sx, substE, opVA, objs0, List.replicate, XA_seq, XA_region, XOA_go, goE_someA, opV, ev, putA, layAll, XOA_nil, XA_skip_seq, XA_skip_nil, XOA_gd, goG_tA, goG_uA, binV, bi_add, bi_sub, bi_mul, bi_quo, bi_rem, bi_eql, bi_neq, bi_lss, bi_leq, bi_gtr, bi_geq, bi_shl, bi_shr, bi_and, bi_or, bi_xor, unV, XA_ret_nil, XA_ret_cons, endFA_r, endFA_n, endTA_r, endTA_n, endRA_r, endRA_n, fltR, resultsA, resAs, resA, XA_block, XA_cond, pickX_t, pickX_f, pickX_b, XA_skip_blk, XA_skip_lp, XA_exit_seq, XA_exit_lp, XA_exit_blk, XA_exit_nil, load1, Ev.loadCells, objCells, bodyCells, setCells, AV.flat, AV.flat1, backR, backV, backCell, mapO, AV.cells, AV.atom, AV.tree, fillV, repeatL, treeCell, freezeAll, eqCells, callV_T, callV_F, passV, passCell, srcCells, sliceBounds, hiB, loB, thenQ_nA, thenQ_xA, thenQ_rA, runK_nA, runK_xA, runK_rA, wrap_i64, wrap_u64, wrap_u32, wrap_u8, wrap_u16, AV.atom, normA, lkE, fixObjs, fixBody, fixV, fixCell, wakes_ev]
  · have hl' : 200 < (l.length : Int) := by omega
    simp [beqI, bneI, mm_min2, mm_max2, mm_min3, mm_max3, startE, lkE, lkX, lkE_rest, sx, substE, opVA, objs0, List.replicate, XA_seq, XA_region, XOA_go, goE_someA, opV, ev, putA, layAll, XOA_nil, XA_skip_seq, XA_skip_nil, XOA_gd, goG_tA, goG_uA, binV, bi_add, bi_sub, bi_mul, bi_quo, bi_rem, bi_eql, bi_neq, bi_lss, bi_leq, bi_gtr, bi_geq, bi_shl, bi_shr, bi_and, bi_or, bi_xor, unV, XA_ret_nil, XA_ret_cons, endFA_r, endFA_n, endTA_r, endTA_n, endRA_r, endRA_n, fltR, resultsA, resAs, resA, XA_block, XA_cond, pickX_t, pickX_f, pickX_b, XA_skip_blk, XA_skip_lp, XA_exit_seq, XA_exit_lp, XA_exit_blk, XA_exit_nil, load1, Ev.loadCells, objCells, bodyCells, setCells, AV.flat, AV.flat1, backR, backV, backCell, mapO, AV.cells, AV.atom, AV.tree, fillV, repeatL, treeCell, freezeAll, eqCells, callV_T, callV_F, passV, passCell, srcCells, sliceBounds, hiB, loB, thenQ_nA, thenQ_xA, thenQ_rA, runK_nA, runK_xA, runK_rA, wrap_i64, wrap_u64, wrap_u32, wrap_u8, wrap_u16, rW, hl', wakes_ev]
theorem rd_boo {cs : List AV} (h : RD .bool cs) : ∃ b : Bool, cs = [.bool b] := h
theorem rdarg_boos {a : AV} (h : RDarg (.slice .bool) a) : ∃ p : List Bool, a = rBo p ∧ p.length ≤ 9223372036854775807 := by
  simp only [RDarg, isAggG] at h
  obtain ⟨l, h1, h2, _⟩ := rd_slice (P := fun _ => True) (f := AV.bool) (fun cs h => by obtain ⟨b, rfl⟩ := rd_boo h; exact ⟨b, rfl, trivial⟩) h
  simp at h1
  exact ⟨l, h1, h2⟩
theorem rowSums_law (l : List AV) (h : RDargs [.slice gRow, .slice .bool] l) : ∃ H1, cfT tab 5 l [] = some (.bool true, H1) := by
  obtain ⟨x, r, rfl, hx, y, r, rfl, hy, rfl⟩ := h
  obtain ⟨l, rfl, hk⟩ := rdarg_rows hx
  obtain ⟨p, rfl, hp⟩ := rdarg_boos hy
  exact cvF_bool (rowSums_ev l p hk hp)
theorem rowSums_lifted (os : Os) (started : os.Started) (H : Type) (enc : TypeId × Value → H) :
    ReturnsInHanded {} Try.checked os 5 .any (Rows.rowSumsSpec.pre6 enc Try.prog Try.f5 Rows.rowSumsRow.domain false) (Rows.rowSumsSpec.post enc Try.prog Try.f5 false true false false) := by
  refine returnsInHanded_of_change (C := Try.checked) Try.own started (by kernel_rfl) Try.func5
    (ChangeSpec.witness6 (enc := enc) (C := Try.checked) false ⟨#[], #[.slice none 0 0, .slice none 0 0], []⟩ 8 (by kernel_rfl) (by kernel_rfl) (by kernel_rfl) (by kernel_rfl)) ?_
  intro W base args ds gs before hval hW hcnd _
  have hval' : ∀ (j : Nat) (t : TypeId) (v : Value), Try.f5.params.toList[j]? = some t → args[j]? = some v → Value.okWide Try.prog W .any base t v := fun j t v h1 h2 => hval j t v (by simpa using h1) h2
  obtain ⟨p, q, hA, hV, hpq, _, _⟩ := id hW
  have hg : gtsB Try.prog [.slice gRow, .slice .bool] Try.f5.params.toList = true := by kernel_rfl
  refine (law_calls' tab_ok hg rowSums_law hval' hA).mono fun e W' ⟨he, hb⟩ => ?_
  subst he
  refine ⟨_, rfl, post_true Try.laidOut (rt := 4) (fun ds h => ?_) rfl (by kernel_rfl) (by kernel_rfl) (by kernel_rfl) hW hb⟩
  match ds, h with
  | [_, _], _ => rfl
theorem rowSums_holds : Rows.RowSumsSaid :=
  OpenClaim.holds_of_wide 5 Try.f5 rfl rfl rfl rfl rfl rfl rfl ⟨rfl, rfl, rfl, rfl, rfl⟩ rfl rfl rfl rfl rfl (by kernel_rfl) Try.func5 (by kernel_rfl)
    (of_decide_eq_true (by kernel_rfl)) (by unfold Func.isWrapper; first | (rw [if_pos (by decide +kernel)]; kernel_rfl) | (rw [if_neg (by decide +kernel)]; exact ⟨rfl, rfl⟩))
    (fun os started H enc _ => rowSums_lifted os started H enc)
end Go.Proofs.Ytnlihobhbbopfaa
