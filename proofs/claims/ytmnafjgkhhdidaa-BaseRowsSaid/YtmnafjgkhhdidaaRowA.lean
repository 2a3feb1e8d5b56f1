/- Rows: how two stand to each other. -/
import Derived.Test.YtmnafjgkhhdidaaCodeA
import Derived.Test.YtmnafjgkhhdidaaCat
set_option linter.unusedSimpArgs false
set_option linter.unusedVariables false
set_option maxHeartbeats 4000000
set_option maxRecDepth 100000
namespace Go.Proofs.Ytmnafjgkhhdidaa
open Go.Ev
structure Rw where
  a : Int
  b : Int
  c : Int
  d : Int
  x : Int
  y : Int
  deriving DecidableEq
structure okW (r : Rw) : Prop where
  a : byte r.a
  b : byte r.b
  c : byte r.c
  d : byte r.d
  x : inI r.x
  y : inI r.y
def rowC (r : Rw) : List AV := [.int .u8 r.a, .int .u8 r.b, .int .u8 r.c, .int .u8 r.d, .int .i64 r.x, .int .i64 r.y]
def gRow : GT := .pair (.arr 4 (.int .u8)) (.pair (.arr 2 (.int .i64)) .unit)
theorem rd_row {cs : List AV} (h : RD gRow cs) : ∃ r, cs = rowC r ∧ okW r := by
  obtain ⟨p, q, rfl, ⟨L, hL, rfl, hx⟩, s, t, rfl, ⟨K, hK, rfl, hy⟩, rfl⟩ := h
  match L, hL, hx, K, hK, hy with
  | [l1, l2, l3, l4], _, hx, [k1, k2], _, hy =>
    obtain ⟨a, rfl, ha⟩ := rd_u8 (hx l1 (by simp))
    obtain ⟨b, rfl, hb⟩ := rd_u8 (hx l2 (by simp))
    obtain ⟨c, rfl, hc⟩ := rd_u8 (hx l3 (by simp))
    obtain ⟨d, rfl, hd⟩ := rd_u8 (hx l4 (by simp))
    obtain ⟨x, rfl, hx'⟩ := rd_i64 (hy k1 (by simp))
    obtain ⟨y, rfl, hy'⟩ := rd_i64 (hy k2 (by simp))
    exact ⟨⟨a, b, c, d, x, y⟩, rfl, ⟨ha, hb, hc, hd, hx', hy'⟩⟩
theorem rdarg_row {a : AV} (h : RDarg gRow a) : ∃ r, a = .agg (rowC r) ∧ okW r := by
  simp only [RDarg, gRow, isAggG, if_true] at h
  obtain ⟨cs, rfl, h⟩ := h
  obtain ⟨r, rfl, h2⟩ := rd_row h
  exact ⟨r, rfl, h2⟩
def flatW (l : List Rw) : List AV := l.flatMap rowC
def rW (l : List Rw) : AV := .ro l.length (flatW l)
def okL (l : List Rw) : Prop := ∀ r ∈ l, okW r
theorem rdarg_rows {a : AV} (h : RDarg (.slice gRow) a) : ∃ l, a = rW l ∧ okL l := by
  simp only [RDarg, isAggG] at h
  obtain ⟨L, h1, h2, h3⟩ := h
  simp at h1
  subst h1
  have key : ∀ (L : List (List AV)), (∀ x ∈ L, RD gRow x) → ∃ l : List Rw, L.length = l.length ∧ L.flatten = flatW l ∧ okL l := by
    intro L
    induction L with
    | nil => intro _; exact ⟨[], rfl, rfl, fun d hd => by cases hd⟩
    | cons c L ih =>
      intro h
      obtain ⟨r, rfl, hr⟩ := rd_row (h c (by simp))
      obtain ⟨l, h1, h2, h3⟩ := ih fun x hx => h x (by simp [hx])
      refine ⟨r :: l, by simp [h1], by simp [h2, flatW], fun d hd => ?_⟩
      rcases List.mem_cons.1 hd with rfl | hd
      · exact hr
      · exact h3 d hd
  obtain ⟨l, h4, h5, h6⟩ := key L h3
  exact ⟨l, by rw [h4, h5]; rfl, h6⟩
theorem flatW_len (l : List Rw) : (flatW l).length = l.length * 6 := by
  induction l with
  | nil => rfl
  | cons r l ih =>
    simp only [flatW, List.flatMap_cons, List.length_append] at *
    rw [ih]
    simp [rowC]; omega
theorem flatW_append (a b : List Rw) : flatW (a ++ b) = flatW a ++ flatW b := List.flatMap_append ..
theorem flatW_drop (l : List Rw) (i : Nat) : (flatW l).drop (i * 6) = flatW (l.drop i) := by
  induction l generalizing i with
  | nil => simp [flatW]
  | cons r l ih =>
    cases i with
    | zero => simp
    | succ i =>
      rw [show (i + 1) * 6 = i * 6 + 6 from by omega]
      simp only [flatW, List.flatMap_cons, rowC, List.cons_append, List.nil_append, List.drop_succ_cons]
      exact ih i
theorem flatW_take (l : List Rw) (i : Nat) : (flatW l).take (i * 6) = flatW (l.take i) := by
  induction l generalizing i with
  | nil => simp [flatW]
  | cons r l ih =>
    cases i with
    | zero => simp [flatW]
    | succ i =>
      rw [show (i + 1) * 6 = i * 6 + 6 from by omega]
      simp only [flatW, List.flatMap_cons, rowC, List.cons_append, List.nil_append, List.take_succ_cons]
      exact congrArg _ (congrArg _ (congrArg _ (congrArg _ (congrArg _ (congrArg _ (ih i))))))
theorem dropW (l : List Rw) (i : Nat) (h : i < l.length) : (flatW l).drop (i * 6) = rowC l[i] ++ flatW (l.drop (i + 1)) := by
  rw [flatW_drop, List.drop_eq_getElem_cons h]
  rfl
theorem flatW_tree (l : List Rw) : (flatW l).all AV.tree = true := by
  refine List.all_eq_true.2 fun x hx => ?_
  obtain ⟨r, _, h⟩ := List.mem_flatMap.1 hx
  simp only [rowC, List.mem_cons, List.not_mem_nil, or_false] at h
  rcases h with rfl | rfl | rfl | rfl | rfl | rfl <;> rfl
/-! ### How they stand -/
def cmpI (x y : Int) : Int := if x < y then -1 else if y < x then 1 else 0
theorem nan32_ev (x : Int) : cvF tab 72 [.int .u32 x] = some (.bool false) := by
  refine cvFA_R (mf := Mf.f72) rfl rfl (by kernel_rfl) ?_
  simp only [Mf.f72]
  simp [beqI, bneI, mm_min2, mm_max2, mm_min3, mm_max3, startE, lkE, lkX, lkE_rest, sx, substE, opVA, objs0, List.replicate, XA_seq, XA_region, XOA_go, goE_someA, opV, ev, putA, layAll, XOA_nil, XA_skip_seq, XA_skip_nil, XOA_gd, goG_tA, goG_uA, binV, bi_add, bi_sub, bi_mul, bi_quo, bi_rem, bi_eql, bi_neq, bi_lss, bi_leq, bi_gtr, bi_geq, bi_shl, bi_shr, bi_and, bi_or, bi_xor, unV, XA_ret_nil, XA_ret_cons, endFA_r, endFA_n, endTA_r, endTA_n, endRA_r, endRA_n, endEA_r, endEA_n, List.take, fltR, resultsA, resAs, resA, XA_block, XA_cond, pickX_t, pickX_f, pickX_b, XA_skip_blk, XA_skip_lp, XA_exit_seq, XA_exit_lp, XA_exit_blk, XA_exit_nil, load1, Ev.loadCells, objCells, bodyCells, setCells, AV.flat, AV.flat1, backR, backV, backCell, mapO, AV.cells, AV.atom, AV.tree, fillV, repeatL, treeCell, freezeAll, eqCells, callV_T, callV_F, passN, passV, passCell, srcCells, sliceBounds, hiB, loB, thenQ_nA, thenQ_xA, thenQ_rA, runK_nA, runK_xA, runK_rA, wrap_i64, wrap_u64, wrap_u32, wrap_u8, wrap_u16]
theorem nan64_ev (x : Int) : cvF tab 87 [.int .i64 x] = some (.bool false) := by
  refine cvFA_R (mf := Mf.f87) rfl rfl (by kernel_rfl) ?_
  simp only [Mf.f87]
  simp [beqI, bneI, mm_min2, mm_max2, mm_min3, mm_max3, startE, lkE, lkX, lkE_rest, sx, substE, opVA, objs0, List.replicate, XA_seq, XA_region, XOA_go, goE_someA, opV, ev, putA, layAll, XOA_nil, XA_skip_seq, XA_skip_nil, XOA_gd, goG_tA, goG_uA, binV, bi_add, bi_sub, bi_mul, bi_quo, bi_rem, bi_eql, bi_neq, bi_lss, bi_leq, bi_gtr, bi_geq, bi_shl, bi_shr, bi_and, bi_or, bi_xor, unV, XA_ret_nil, XA_ret_cons, endFA_r, endFA_n, endTA_r, endTA_n, endRA_r, endRA_n, endEA_r, endEA_n, List.take, fltR, resultsA, resAs, resA, XA_block, XA_cond, pickX_t, pickX_f, pickX_b, XA_skip_blk, XA_skip_lp, XA_exit_seq, XA_exit_lp, XA_exit_blk, XA_exit_nil, load1, Ev.loadCells, objCells, bodyCells, setCells, AV.flat, AV.flat1, backR, backV, backCell, mapO, AV.cells, AV.atom, AV.tree, fillV, repeatL, treeCell, freezeAll, eqCells, callV_T, callV_F, passN, passV, passCell, srcCells, sliceBounds, hiB, loB, thenQ_nA, thenQ_xA, thenQ_rA, runK_nA, runK_xA, runK_rA, wrap_i64, wrap_u64, wrap_u32, wrap_u8, wrap_u16]
theorem cmp32_ev (x y : Int) : cvF tab 56 [.int .u32 x, .int .u32 y] = some (.int .i64 (cmpI x y)) := by
  refine cvFA_R (mf := Mf.f56) rfl rfl (by kernel_rfl) ?_
  simp only [Mf.f56]
  unfold cmpI
  by_cases h1 : x < y
  · simp [beqI, bneI, mm_min2, mm_max2, mm_min3, mm_max3, startE, lkE, lkX, lkE_rest, sx, substE, opVA, objs0, List.replicate, XA_seq, XA_region, XOA_go, goE_someA, opV, ev, putA, layAll, XOA_nil, XA_skip_seq, XA_skip_nil, XOA_gd, goG_tA, goG_uA, binV, bi_add, bi_sub, bi_mul, bi_quo, bi_rem, bi_eql, bi_neq, bi_lss, bi_leq, bi_gtr, bi_geq, bi_shl, bi_shr, bi_and, bi_or, bi_xor, unV, XA_ret_nil, XA_ret_cons, endFA_r, endFA_n, endTA_r, endTA_n, endRA_r, endRA_n, endEA_r, endEA_n, List.take, fltR, resultsA, resAs, resA, XA_block, XA_cond, pickX_t, pickX_f, pickX_b, XA_skip_blk, XA_skip_lp, XA_exit_seq, XA_exit_lp, XA_exit_blk, XA_exit_nil, load1, Ev.loadCells, objCells, bodyCells, setCells, AV.flat, AV.flat1, backR, backV, backCell, mapO, AV.cells, AV.atom, AV.tree, fillV, repeatL, treeCell, freezeAll, eqCells, callV_T, callV_F, passN, passV, passCell, srcCells, sliceBounds, hiB, loB, thenQ_nA, thenQ_xA, thenQ_rA, runK_nA, runK_xA, runK_rA, wrap_i64, wrap_u64, wrap_u32, wrap_u8, wrap_u16, nan32_ev, h1]
  · by_cases h2 : y < x <;> simp [beqI, bneI, mm_min2, mm_max2, mm_min3, mm_max3, startE, lkE, lkX, lkE_rest, sx, substE, opVA, objs0, List.replicate, XA_seq, XA_region, XOA_go, goE_someA, opV, ev, putA, layAll, XOA_nil, XA_skip_seq, XA_skip_nil, XOA_gd, goG_tA, goG_uA, binV, bi_add, bi_sub, bi_mul, bi_quo, bi_rem, bi_eql, bi_neq, bi_lss, bi_leq, bi_gtr, bi_geq, bi_shl, bi_shr, bi_and, bi_or, bi_xor, unV, XA_ret_nil, XA_ret_cons, endFA_r, endFA_n, endTA_r, endTA_n, endRA_r, endRA_n, endEA_r, endEA_n, List.take, fltR, resultsA, resAs, resA, XA_block, XA_cond, pickX_t, pickX_f, pickX_b, XA_skip_blk, XA_skip_lp, XA_exit_seq, XA_exit_lp, XA_exit_blk, XA_exit_nil, load1, Ev.loadCells, objCells, bodyCells, setCells, AV.flat, AV.flat1, backR, backV, backCell, mapO, AV.cells, AV.atom, AV.tree, fillV, repeatL, treeCell, freezeAll, eqCells, callV_T, callV_F, passN, passV, passCell, srcCells, sliceBounds, hiB, loB, thenQ_nA, thenQ_xA, thenQ_rA, runK_nA, runK_xA, runK_rA, wrap_i64, wrap_u64, wrap_u32, wrap_u8, wrap_u16, nan32_ev, h1, h2]
theorem cmp64_ev (x y : Int) : cvF tab 73 [.int .i64 x, .int .i64 y] = some (.int .i64 (cmpI x y)) := by
  refine cvFA_R (mf := Mf.f73) rfl rfl (by kernel_rfl) ?_
  simp only [Mf.f73]
  unfold cmpI
  by_cases h1 : x < y
  · simp [beqI, bneI, mm_min2, mm_max2, mm_min3, mm_max3, startE, lkE, lkX, lkE_rest, sx, substE, opVA, objs0, List.replicate, XA_seq, XA_region, XOA_go, goE_someA, opV, ev, putA, layAll, XOA_nil, XA_skip_seq, XA_skip_nil, XOA_gd, goG_tA, goG_uA, binV, bi_add, bi_sub, bi_mul, bi_quo, bi_rem, bi_eql, bi_neq, bi_lss, bi_leq, bi_gtr, bi_geq, bi_shl, bi_shr, bi_and, bi_or, bi_xor, unV, XA_ret_nil, XA_ret_cons, endFA_r, endFA_n, endTA_r, endTA_n, endRA_r, endRA_n, endEA_r, endEA_n, List.take, fltR, resultsA, resAs, resA, XA_block, XA_cond, pickX_t, pickX_f, pickX_b, XA_skip_blk, XA_skip_lp, XA_exit_seq, XA_exit_lp, XA_exit_blk, XA_exit_nil, load1, Ev.loadCells, objCells, bodyCells, setCells, AV.flat, AV.flat1, backR, backV, backCell, mapO, AV.cells, AV.atom, AV.tree, fillV, repeatL, treeCell, freezeAll, eqCells, callV_T, callV_F, passN, passV, passCell, srcCells, sliceBounds, hiB, loB, thenQ_nA, thenQ_xA, thenQ_rA, runK_nA, runK_xA, runK_rA, wrap_i64, wrap_u64, wrap_u32, wrap_u8, wrap_u16, nan64_ev, h1]
  · by_cases h2 : y < x <;> simp [beqI, bneI, mm_min2, mm_max2, mm_min3, mm_max3, startE, lkE, lkX, lkE_rest, sx, substE, opVA, objs0, List.replicate, XA_seq, XA_region, XOA_go, goE_someA, opV, ev, putA, layAll, XOA_nil, XA_skip_seq, XA_skip_nil, XOA_gd, goG_tA, goG_uA, binV, bi_add, bi_sub, bi_mul, bi_quo, bi_rem, bi_eql, bi_neq, bi_lss, bi_leq, bi_gtr, bi_geq, bi_shl, bi_shr, bi_and, bi_or, bi_xor, unV, XA_ret_nil, XA_ret_cons, endFA_r, endFA_n, endTA_r, endTA_n, endRA_r, endRA_n, endEA_r, endEA_n, List.take, fltR, resultsA, resAs, resA, XA_block, XA_cond, pickX_t, pickX_f, pickX_b, XA_skip_blk, XA_skip_lp, XA_exit_seq, XA_exit_lp, XA_exit_blk, XA_exit_nil, load1, Ev.loadCells, objCells, bodyCells, setCells, AV.flat, AV.flat1, backR, backV, backCell, mapO, AV.cells, AV.atom, AV.tree, fillV, repeatL, treeCell, freezeAll, eqCells, callV_T, callV_F, passN, passV, passCell, srcCells, sliceBounds, hiB, loB, thenQ_nA, thenQ_xA, thenQ_rA, runK_nA, runK_xA, runK_rA, wrap_i64, wrap_u64, wrap_u32, wrap_u8, wrap_u16, nan64_ev, h1, h2]
theorem scmp_ev (x y u v : Int) : cvF tab 58 [.ro 2 [.int .i64 x, .int .i64 y], .ro 2 [.int .i64 u, .int .i64 v]] = some (.int .i64 (if cmpI x u = 0 then cmpI y v else cmpI x u)) := by
  refine cvFA_R (mf := Mf.f58) rfl rfl (by kernel_rfl) ?_
  simp only [Mf.f58]
  have e1 := cmp64_ev x u
  have e2 := cmp64_ev y v
  simp [beqI, bneI, mm_min2, mm_max2, mm_min3, mm_max3, startE, lkE, lkX, lkE_rest, sx, substE, opVA, objs0, List.replicate, XA_seq, XA_region, XOA_go, goE_someA, opV, ev, putA, layAll, XOA_nil, XA_skip_seq, XA_skip_nil, XOA_gd, goG_tA, goG_uA, binV, bi_add, bi_sub, bi_mul, bi_quo, bi_rem, bi_eql, bi_neq, bi_lss, bi_leq, bi_gtr, bi_geq, bi_shl, bi_shr, bi_and, bi_or, bi_xor, unV, XA_ret_nil, XA_ret_cons, endFA_r, endFA_n, endTA_r, endTA_n, endRA_r, endRA_n, endEA_r, endEA_n, List.take, fltR, resultsA, resAs, resA, XA_block, XA_cond, pickX_t, pickX_f, pickX_b, XA_skip_blk, XA_skip_lp, XA_exit_seq, XA_exit_lp, XA_exit_blk, XA_exit_nil, load1, Ev.loadCells, objCells, bodyCells, setCells, AV.flat, AV.flat1, backR, backV, backCell, mapO, AV.cells, AV.atom, AV.tree, fillV, repeatL, treeCell, freezeAll, eqCells, callV_T, callV_F, passN, passV, passCell, srcCells, sliceBounds, hiB, loB, thenQ_nA, thenQ_xA, thenQ_rA, runK_nA, runK_xA, runK_rA, wrap_i64, wrap_u64, wrap_u32, wrap_u8, wrap_u16]
  refine XA_for (fun i => ⟨[(0, .ro 2 [.int .i64 x, .int .i64 y]), (1, .ro 2 [.int .i64 u, .int .i64 v]), (9, .ro 2 [.int .i64 x, .int .i64 y]), (10, .int .i64 2), (11, .int .i64 i)], []⟩)
    (fun i => (0 < i → cmpI x u = 0) ∧ (1 < i → cmpI y v = 0)) 2 0 (by omega) (by simp [AV.atom, normA, lkE, fixObjs, fixBody, fixV, fixCell]) (by omega) ?_ ?_
  · intro i _ hi hJ
    have h01 : i = 0 ∨ i = 1 := by omega
    rcases h01 with rfl | rfl
    · by_cases c : cmpI x u = 0
      · have w := wrap_succ 0 2 (by omega) (by omega)
        simp at w
        rw [c] at e1
        simp [beqI, bneI, mm_min2, mm_max2, mm_min3, mm_max3, startE, lkE, lkX, lkE_rest, sx, substE, opVA, objs0, List.replicate, XA_seq, XA_region, XOA_go, goE_someA, opV, ev, putA, layAll, XOA_nil, XA_skip_seq, XA_skip_nil, XOA_gd, goG_tA, goG_uA, binV, bi_add, bi_sub, bi_mul, bi_quo, bi_rem, bi_eql, bi_neq, bi_lss, bi_leq, bi_gtr, bi_geq, bi_shl, bi_shr, bi_and, bi_or, bi_xor, unV, XA_ret_nil, XA_ret_cons, endFA_r, endFA_n, endTA_r, endTA_n, endRA_r, endRA_n, endEA_r, endEA_n, List.take, fltR, resultsA, resAs, resA, XA_block, XA_cond, pickX_t, pickX_f, pickX_b, XA_skip_blk, XA_skip_lp, XA_exit_seq, XA_exit_lp, XA_exit_blk, XA_exit_nil, load1, Ev.loadCells, objCells, bodyCells, setCells, AV.flat, AV.flat1, backR, backV, backCell, mapO, AV.cells, AV.atom, AV.tree, fillV, repeatL, treeCell, freezeAll, eqCells, callV_T, callV_F, passN, passV, passCell, srcCells, sliceBounds, hiB, loB, thenQ_nA, thenQ_xA, thenQ_rA, runK_nA, runK_xA, runK_rA, wrap_i64, wrap_u64, wrap_u32, wrap_u8, wrap_u16, AV.atom, normA, lkE, fixObjs, fixBody, fixV, fixCell, e1, w, c]
      · simp [beqI, bneI, mm_min2, mm_max2, mm_min3, mm_max3, startE, lkE, lkX, lkE_rest, sx, substE, opVA, objs0, List.replicate, XA_seq, XA_region, XOA_go, goE_someA, opV, ev, putA, layAll, XOA_nil, XA_skip_seq, XA_skip_nil, XOA_gd, goG_tA, goG_uA, binV, bi_add, bi_sub, bi_mul, bi_quo, bi_rem, bi_eql, bi_neq, bi_lss, bi_leq, bi_gtr, bi_geq, bi_shl, bi_shr, bi_and, bi_or, bi_xor, unV, XA_ret_nil, XA_ret_cons, endFA_r, endFA_n, endTA_r, endTA_n, endRA_r, endRA_n, endEA_r, endEA_n, List.take, fltR, resultsA, resAs, resA, XA_block, XA_cond, pickX_t, pickX_f, pickX_b, XA_skip_blk, XA_skip_lp, XA_exit_seq, XA_exit_lp, XA_exit_blk, XA_exit_nil, load1, Ev.loadCells, objCells, bodyCells, setCells, AV.flat, AV.flat1, backR, backV, backCell, mapO, AV.cells, AV.atom, AV.tree, fillV, repeatL, treeCell, freezeAll, eqCells, callV_T, callV_F, passN, passV, passCell, srcCells, sliceBounds, hiB, loB, thenQ_nA, thenQ_xA, thenQ_rA, runK_nA, runK_xA, runK_rA, wrap_i64, wrap_u64, wrap_u32, wrap_u8, wrap_u16, AV.atom, normA, lkE, fixObjs, fixBody, fixV, fixCell, e1, c]
    · have c := hJ.1 (by omega)
      by_cases c2 : cmpI y v = 0
      · have w := wrap_succ 1 2 (by omega) (by omega)
        simp at w
        rw [c2] at e2
        simp [beqI, bneI, mm_min2, mm_max2, mm_min3, mm_max3, startE, lkE, lkX, lkE_rest, sx, substE, opVA, objs0, List.replicate, XA_seq, XA_region, XOA_go, goE_someA, opV, ev, putA, layAll, XOA_nil, XA_skip_seq, XA_skip_nil, XOA_gd, goG_tA, goG_uA, binV, bi_add, bi_sub, bi_mul, bi_quo, bi_rem, bi_eql, bi_neq, bi_lss, bi_leq, bi_gtr, bi_geq, bi_shl, bi_shr, bi_and, bi_or, bi_xor, unV, XA_ret_nil, XA_ret_cons, endFA_r, endFA_n, endTA_r, endTA_n, endRA_r, endRA_n, endEA_r, endEA_n, List.take, fltR, resultsA, resAs, resA, XA_block, XA_cond, pickX_t, pickX_f, pickX_b, XA_skip_blk, XA_skip_lp, XA_exit_seq, XA_exit_lp, XA_exit_blk, XA_exit_nil, load1, Ev.loadCells, objCells, bodyCells, setCells, AV.flat, AV.flat1, backR, backV, backCell, mapO, AV.cells, AV.atom, AV.tree, fillV, repeatL, treeCell, freezeAll, eqCells, callV_T, callV_F, passN, passV, passCell, srcCells, sliceBounds, hiB, loB, thenQ_nA, thenQ_xA, thenQ_rA, runK_nA, runK_xA, runK_rA, wrap_i64, wrap_u64, wrap_u32, wrap_u8, wrap_u16, AV.atom, normA, lkE, fixObjs, fixBody, fixV, fixCell, e2, w, c, c2]
      · simp [beqI, bneI, mm_min2, mm_max2, mm_min3, mm_max3, startE, lkE, lkX, lkE_rest, sx, substE, opVA, objs0, List.replicate, XA_seq, XA_region, XOA_go, goE_someA, opV, ev, putA, layAll, XOA_nil, XA_skip_seq, XA_skip_nil, XOA_gd, goG_tA, goG_uA, binV, bi_add, bi_sub, bi_mul, bi_quo, bi_rem, bi_eql, bi_neq, bi_lss, bi_leq, bi_gtr, bi_geq, bi_shl, bi_shr, bi_and, bi_or, bi_xor, unV, XA_ret_nil, XA_ret_cons, endFA_r, endFA_n, endTA_r, endTA_n, endRA_r, endRA_n, endEA_r, endEA_n, List.take, fltR, resultsA, resAs, resA, XA_block, XA_cond, pickX_t, pickX_f, pickX_b, XA_skip_blk, XA_skip_lp, XA_exit_seq, XA_exit_lp, XA_exit_blk, XA_exit_nil, load1, Ev.loadCells, objCells, bodyCells, setCells, AV.flat, AV.flat1, backR, backV, backCell, mapO, AV.cells, AV.atom, AV.tree, fillV, repeatL, treeCell, freezeAll, eqCells, callV_T, callV_F, passN, passV, passCell, srcCells, sliceBounds, hiB, loB, thenQ_nA, thenQ_xA, thenQ_rA, runK_nA, runK_xA, runK_rA, wrap_i64, wrap_u64, wrap_u32, wrap_u8, wrap_u16, AV.atom, normA, lkE, fixObjs, fixBody, fixV, fixCell, e2, c, c2]
  · intro hJ
    have c := hJ.1 (by omega)
    have c2 := hJ.2 (by omega)
    simp [beqI, bneI, mm_min2, mm_max2, mm_min3, mm_max3, startE, lkE, lkX, lkE_rest, sx, substE, opVA, objs0, List.replicate, XA_seq, XA_region, XOA_go, goE_someA, opV, ev, putA, layAll, XOA_nil, XA_skip_seq, XA_skip_nil, XOA_gd, goG_tA, goG_uA, binV, bi_add, bi_sub, bi_mul, bi_quo, bi_rem, bi_eql, bi_neq, bi_lss, bi_leq, bi_gtr, bi_geq, bi_shl, bi_shr, bi_and, bi_or, bi_xor, unV, XA_ret_nil, XA_ret_cons, endFA_r, endFA_n, endTA_r, endTA_n, endRA_r, endRA_n, endEA_r, endEA_n, List.take, fltR, resultsA, resAs, resA, XA_block, XA_cond, pickX_t, pickX_f, pickX_b, XA_skip_blk, XA_skip_lp, XA_exit_seq, XA_exit_lp, XA_exit_blk, XA_exit_nil, load1, Ev.loadCells, objCells, bodyCells, setCells, AV.flat, AV.flat1, backR, backV, backCell, mapO, AV.cells, AV.atom, AV.tree, fillV, repeatL, treeCell, freezeAll, eqCells, callV_T, callV_F, passN, passV, passCell, srcCells, sliceBounds, hiB, loB, thenQ_nA, thenQ_xA, thenQ_rA, runK_nA, runK_xA, runK_rA, wrap_i64, wrap_u64, wrap_u32, wrap_u8, wrap_u16, AV.atom, normA, lkE, fixObjs, fixBody, fixV, fixCell, c, c2]
theorem or_ev (x y : Int) : cvF tab 55 [.ro 2 [.int .i64 x, .int .i64 y]] = some (.int .i64 (if x = 0 then y else x)) := by
  refine cvFA_R (mf := Mf.f55) rfl rfl (by kernel_rfl) ?_
  simp only [Mf.f55]
  simp [beqI, bneI, mm_min2, mm_max2, mm_min3, mm_max3, startE, lkE, lkX, lkE_rest, sx, substE, opVA, objs0, List.replicate, XA_seq, XA_region, XOA_go, goE_someA, opV, ev, putA, layAll, XOA_nil, XA_skip_seq, XA_skip_nil, XOA_gd, goG_tA, goG_uA, binV, bi_add, bi_sub, bi_mul, bi_quo, bi_rem, bi_eql, bi_neq, bi_lss, bi_leq, bi_gtr, bi_geq, bi_shl, bi_shr, bi_and, bi_or, bi_xor, unV, XA_ret_nil, XA_ret_cons, endFA_r, endFA_n, endTA_r, endTA_n, endRA_r, endRA_n, endEA_r, endEA_n, List.take, fltR, resultsA, resAs, resA, XA_block, XA_cond, pickX_t, pickX_f, pickX_b, XA_skip_blk, XA_skip_lp, XA_exit_seq, XA_exit_lp, XA_exit_blk, XA_exit_nil, load1, Ev.loadCells, objCells, bodyCells, setCells, AV.flat, AV.flat1, backR, backV, backCell, mapO, AV.cells, AV.atom, AV.tree, fillV, repeatL, treeCell, freezeAll, eqCells, callV_T, callV_F, passN, passV, passCell, srcCells, sliceBounds, hiB, loB, thenQ_nA, thenQ_xA, thenQ_rA, runK_nA, runK_xA, runK_rA, wrap_i64, wrap_u64, wrap_u32, wrap_u8, wrap_u16]
  refine XA_for (fun i => ⟨[(3, .int .i64 0), (6, .ro 2 [.int .i64 x, .int .i64 y]), (7, .int .i64 2), (8, .int .i64 i)], []⟩)
    (fun i => (0 < i → x = 0) ∧ (1 < i → y = 0)) 2 0 (by omega) (by simp [AV.atom, normA, lkE, fixObjs, fixBody, fixV, fixCell]) (by omega) ?_ ?_
  · intro i _ hi hJ
    have h01 : i = 0 ∨ i = 1 := by omega
    rcases h01 with rfl | rfl
    · by_cases c : x = 0
      · have w := wrap_succ 0 2 (by omega) (by omega)
        simp at w
        simp [beqI, bneI, mm_min2, mm_max2, mm_min3, mm_max3, startE, lkE, lkX, lkE_rest, sx, substE, opVA, objs0, List.replicate, XA_seq, XA_region, XOA_go, goE_someA, opV, ev, putA, layAll, XOA_nil, XA_skip_seq, XA_skip_nil, XOA_gd, goG_tA, goG_uA, binV, bi_add, bi_sub, bi_mul, bi_quo, bi_rem, bi_eql, bi_neq, bi_lss, bi_leq, bi_gtr, bi_geq, bi_shl, bi_shr, bi_and, bi_or, bi_xor, unV, XA_ret_nil, XA_ret_cons, endFA_r, endFA_n, endTA_r, endTA_n, endRA_r, endRA_n, endEA_r, endEA_n, List.take, fltR, resultsA, resAs, resA, XA_block, XA_cond, pickX_t, pickX_f, pickX_b, XA_skip_blk, XA_skip_lp, XA_exit_seq, XA_exit_lp, XA_exit_blk, XA_exit_nil, load1, Ev.loadCells, objCells, bodyCells, setCells, AV.flat, AV.flat1, backR, backV, backCell, mapO, AV.cells, AV.atom, AV.tree, fillV, repeatL, treeCell, freezeAll, eqCells, callV_T, callV_F, passN, passV, passCell, srcCells, sliceBounds, hiB, loB, thenQ_nA, thenQ_xA, thenQ_rA, runK_nA, runK_xA, runK_rA, wrap_i64, wrap_u64, wrap_u32, wrap_u8, wrap_u16, AV.atom, normA, lkE, fixObjs, fixBody, fixV, fixCell, w, c]
      · simp [beqI, bneI, mm_min2, mm_max2, mm_min3, mm_max3, startE, lkE, lkX, lkE_rest, sx, substE, opVA, objs0, List.replicate, XA_seq, XA_region, XOA_go, goE_someA, opV, ev, putA, layAll, XOA_nil, XA_skip_seq, XA_skip_nil, XOA_gd, goG_tA, goG_uA, binV, bi_add, bi_sub, bi_mul, bi_quo, bi_rem, bi_eql, bi_neq, bi_lss, bi_leq, bi_gtr, bi_geq, bi_shl, bi_shr, bi_and, bi_or, bi_xor, unV, XA_ret_nil, XA_ret_cons, endFA_r, endFA_n, endTA_r, endTA_n, endRA_r, endRA_n, endEA_r, endEA_n, List.take, fltR, resultsA, resAs, resA, XA_block, XA_cond, pickX_t, pickX_f, pickX_b, XA_skip_blk, XA_skip_lp, XA_exit_seq, XA_exit_lp, XA_exit_blk, XA_exit_nil, load1, Ev.loadCells, objCells, bodyCells, setCells, AV.flat, AV.flat1, backR, backV, backCell, mapO, AV.cells, AV.atom, AV.tree, fillV, repeatL, treeCell, freezeAll, eqCells, callV_T, callV_F, passN, passV, passCell, srcCells, sliceBounds, hiB, loB, thenQ_nA, thenQ_xA, thenQ_rA, runK_nA, runK_xA, runK_rA, wrap_i64, wrap_u64, wrap_u32, wrap_u8, wrap_u16, AV.atom, normA, lkE, fixObjs, fixBody, fixV, fixCell, c]
    · have c := hJ.1 (by omega)
      by_cases c2 : y = 0
      · have w := wrap_succ 1 2 (by omega) (by omega)
        simp at w
        simp [beqI, bneI, mm_min2, mm_max2, mm_min3, mm_max3, startE, lkE, lkX, lkE_rest, sx, substE, opVA, objs0, List.replicate, XA_seq, XA_region, XOA_go, goE_someA, opV, ev, putA, layAll, XOA_nil, XA_skip_seq, XA_skip_nil, XOA_gd, goG_tA, goG_uA, binV, bi_add, bi_sub, bi_mul, bi_quo, bi_rem, bi_eql, bi_neq, bi_lss, bi_leq, bi_gtr, bi_geq, bi_shl, bi_shr, bi_and, bi_or, bi_xor, unV, XA_ret_nil, XA_ret_cons, endFA_r, endFA_n, endTA_r, endTA_n, endRA_r, endRA_n, endEA_r, endEA_n, List.take, fltR, resultsA, resAs, resA, XA_block, XA_cond, pickX_t, pickX_f, pickX_b, XA_skip_blk, XA_skip_lp, XA_exit_seq, XA_exit_lp, XA_exit_blk, XA_exit_nil, load1, Ev.loadCells, objCells, bodyCells, setCells, AV.flat, AV.flat1, backR, backV, backCell, mapO, AV.cells, AV.atom, AV.tree, fillV, repeatL, treeCell, freezeAll, eqCells, callV_T, callV_F, passN, passV, passCell, srcCells, sliceBounds, hiB, loB, thenQ_nA, thenQ_xA, thenQ_rA, runK_nA, runK_xA, runK_rA, wrap_i64, wrap_u64, wrap_u32, wrap_u8, wrap_u16, AV.atom, normA, lkE, fixObjs, fixBody, fixV, fixCell, w, c, c2]
      · simp [beqI, bneI, mm_min2, mm_max2, mm_min3, mm_max3, startE, lkE, lkX, lkE_rest, sx, substE, opVA, objs0, List.replicate, XA_seq, XA_region, XOA_go, goE_someA, opV, ev, putA, layAll, XOA_nil, XA_skip_seq, XA_skip_nil, XOA_gd, goG_tA, goG_uA, binV, bi_add, bi_sub, bi_mul, bi_quo, bi_rem, bi_eql, bi_neq, bi_lss, bi_leq, bi_gtr, bi_geq, bi_shl, bi_shr, bi_and, bi_or, bi_xor, unV, XA_ret_nil, XA_ret_cons, endFA_r, endFA_n, endTA_r, endTA_n, endRA_r, endRA_n, endEA_r, endEA_n, List.take, fltR, resultsA, resAs, resA, XA_block, XA_cond, pickX_t, pickX_f, pickX_b, XA_skip_blk, XA_skip_lp, XA_exit_seq, XA_exit_lp, XA_exit_blk, XA_exit_nil, load1, Ev.loadCells, objCells, bodyCells, setCells, AV.flat, AV.flat1, backR, backV, backCell, mapO, AV.cells, AV.atom, AV.tree, fillV, repeatL, treeCell, freezeAll, eqCells, callV_T, callV_F, passN, passV, passCell, srcCells, sliceBounds, hiB, loB, thenQ_nA, thenQ_xA, thenQ_rA, runK_nA, runK_xA, runK_rA, wrap_i64, wrap_u64, wrap_u32, wrap_u8, wrap_u16, AV.atom, normA, lkE, fixObjs, fixBody, fixV, fixCell, c, c2]
  · intro hJ
    have c := hJ.1 (by omega)
    have c2 := hJ.2 (by omega)
    simp [beqI, bneI, mm_min2, mm_max2, mm_min3, mm_max3, startE, lkE, lkX, lkE_rest, sx, substE, opVA, objs0, List.replicate, XA_seq, XA_region, XOA_go, goE_someA, opV, ev, putA, layAll, XOA_nil, XA_skip_seq, XA_skip_nil, XOA_gd, goG_tA, goG_uA, binV, bi_add, bi_sub, bi_mul, bi_quo, bi_rem, bi_eql, bi_neq, bi_lss, bi_leq, bi_gtr, bi_geq, bi_shl, bi_shr, bi_and, bi_or, bi_xor, unV, XA_ret_nil, XA_ret_cons, endFA_r, endFA_n, endTA_r, endTA_n, endRA_r, endRA_n, endEA_r, endEA_n, List.take, fltR, resultsA, resAs, resA, XA_block, XA_cond, pickX_t, pickX_f, pickX_b, XA_skip_blk, XA_skip_lp, XA_exit_seq, XA_exit_lp, XA_exit_blk, XA_exit_nil, load1, Ev.loadCells, objCells, bodyCells, setCells, AV.flat, AV.flat1, backR, backV, backCell, mapO, AV.cells, AV.atom, AV.tree, fillV, repeatL, treeCell, freezeAll, eqCells, callV_T, callV_F, passN, passV, passCell, srcCells, sliceBounds, hiB, loB, thenQ_nA, thenQ_xA, thenQ_rA, runK_nA, runK_xA, runK_rA, wrap_i64, wrap_u64, wrap_u32, wrap_u8, wrap_u16, AV.atom, normA, lkE, fixObjs, fixBody, fixV, fixCell, c, c2]
def keyR (r : Rw) : Int := key4 r.a r.b r.c r.d
def cmpR (r s : Rw) : Int := if cmpI (keyR r) (keyR s) = 0 then (if cmpI r.x s.x = 0 then cmpI r.y s.y else cmpI r.x s.x) else cmpI (keyR r) (keyR s)
theorem compare_ev (r s : Rw) (hr : okW r) (hs : okW s) : cvF tab 39 [.agg (rowC r), .agg (rowC s)] = some (.int .i64 (cmpR r s)) := by
  refine cvFA_R (mf := Mf.f39) rfl rfl (by kernel_rfl) ?_
  simp only [Mf.f39]
  have e1 := key_ev r.a r.b r.c r.d hr.a hr.b hr.c hr.d
  have e2 := key_ev s.a s.b s.c s.d hs.a hs.b hs.c hs.d
  have e3 := cmp32_ev (keyR r) (keyR s)
  have e4 := scmp_ev r.x r.y s.x s.y
  have e5 := or_ev (cmpI (keyR r) (keyR s)) (if cmpI r.x s.x = 0 then cmpI r.y s.y else cmpI r.x s.x)
  unfold cmpR
  generalize (if cmpI r.x s.x = 0 then cmpI r.y s.y else cmpI r.x s.x) = z at *
  unfold keyR at *
  simp [beqI, bneI, mm_min2, mm_max2, mm_min3, mm_max3, startE, lkE, lkX, lkE_rest, sx, substE, opVA, objs0, List.replicate, XA_seq, XA_region, XOA_go, goE_someA, opV, ev, putA, layAll, XOA_nil, XA_skip_seq, XA_skip_nil, XOA_gd, goG_tA, goG_uA, binV, bi_add, bi_sub, bi_mul, bi_quo, bi_rem, bi_eql, bi_neq, bi_lss, bi_leq, bi_gtr, bi_geq, bi_shl, bi_shr, bi_and, bi_or, bi_xor, unV, XA_ret_nil, XA_ret_cons, endFA_r, endFA_n, endTA_r, endTA_n, endRA_r, endRA_n, endEA_r, endEA_n, List.take, fltR, resultsA, resAs, resA, XA_block, XA_cond, pickX_t, pickX_f, pickX_b, XA_skip_blk, XA_skip_lp, XA_exit_seq, XA_exit_lp, XA_exit_blk, XA_exit_nil, load1, Ev.loadCells, objCells, bodyCells, setCells, AV.flat, AV.flat1, backR, backV, backCell, mapO, AV.cells, AV.atom, AV.tree, fillV, repeatL, treeCell, freezeAll, eqCells, callV_T, callV_F, passN, passV, passCell, srcCells, sliceBounds, hiB, loB, thenQ_nA, thenQ_xA, thenQ_rA, runK_nA, runK_xA, runK_rA, wrap_i64, wrap_u64, wrap_u32, wrap_u8, wrap_u16, rowC, e1, e2, e3, e4, e5]
/-- A row stands ahead of another one. -/
def ltR (r s : Rw) : Prop := keyR r < keyR s ∨ (keyR r = keyR s ∧ (r.x < s.x ∨ (r.x = s.x ∧ r.y < s.y)))
instance (r s : Rw) : Decidable (ltR r s) := by unfold ltR; exact inferInstance
theorem cmpR_lt (r s : Rw) : cmpR r s < 0 ↔ ltR r s := by
  unfold cmpR ltR cmpI
  repeat' split
  all_goals omega
theorem less_ev (r s : Rw) (hr : okW r) (hs : okW s) : cvF tab 25 [.agg (rowC r), .agg (rowC s)] = some (.bool (decide (ltR r s))) := by
  refine cvFA_R (mf := Mf.f25) rfl rfl (by kernel_rfl) ?_
  simp only [Mf.f25]
  have e := compare_ev r s hr hs
  have h := cmpR_lt r s
  simp only [rowC] at e
  simp [beqI, bneI, mm_min2, mm_max2, mm_min3, mm_max3, startE, lkE, lkX, lkE_rest, sx, substE, opVA, objs0, List.replicate, XA_seq, XA_region, XOA_go, goE_someA, opV, ev, putA, layAll, XOA_nil, XA_skip_seq, XA_skip_nil, XOA_gd, goG_tA, goG_uA, binV, bi_add, bi_sub, bi_mul, bi_quo, bi_rem, bi_eql, bi_neq, bi_lss, bi_leq, bi_gtr, bi_geq, bi_shl, bi_shr, bi_and, bi_or, bi_xor, unV, XA_ret_nil, XA_ret_cons, endFA_r, endFA_n, endTA_r, endTA_n, endRA_r, endRA_n, endEA_r, endEA_n, List.take, fltR, resultsA, resAs, resA, XA_block, XA_cond, pickX_t, pickX_f, pickX_b, XA_skip_blk, XA_skip_lp, XA_exit_seq, XA_exit_lp, XA_exit_blk, XA_exit_nil, load1, Ev.loadCells, objCells, bodyCells, setCells, AV.flat, AV.flat1, backR, backV, backCell, mapO, AV.cells, AV.atom, AV.tree, fillV, repeatL, treeCell, freezeAll, eqCells, callV_T, callV_F, passN, passV, passCell, srcCells, sliceBounds, hiB, loB, thenQ_nA, thenQ_xA, thenQ_rA, runK_nA, runK_xA, runK_rA, wrap_i64, wrap_u64, wrap_u32, wrap_u8, wrap_u16, rowC, e, h]
theorem keyR_inj {r s : Rw} (hr : okW r) (hs : okW s) (h : keyR r = keyR s) : r.a = s.a ∧ r.b = s.b ∧ r.c = s.c ∧ r.d = s.d := by
  obtain ⟨h1, h2, h3, h4, _, _⟩ := hr
  obtain ⟨g1, g2, g3, g4, _, _⟩ := hs
  unfold keyR key4 at h
  unfold byte at *
  omega
theorem ltR_irrefl (r : Rw) : ¬ ltR r r := by unfold ltR; omega
theorem ltR_trans {r s t : Rw} (h1 : ltR r s) (h2 : ltR s t) : ltR r t := by unfold ltR at *; omega
theorem ltR_tri {r s : Rw} (hr : okW r) (hs : okW s) (h : r ≠ s) : ltR r s ∨ ltR s r := by
  by_cases c : ltR r s ∨ ltR s r
  · exact c
  · exfalso
    unfold ltR at c
    have hk : keyR r = keyR s := by omega
    have hi := keyR_inj hr hs hk
    have hx : r.x = s.x := by omega
    have hy : r.y = s.y := by omega
    apply h
    cases r; cases s
    simp only at hi hx hy
    obtain ⟨rfl, rfl, rfl, rfl⟩ := hi
    subst hx; subst hy; rfl
theorem eq_rowB (r s : Rw) : (decide (r.a = s.a) && (decide (r.b = s.b) && (decide (r.c = s.c) && (decide (r.d = s.d) && (decide (r.x = s.x) && decide (r.y = s.y)))))) = decide (r = s) := by
  cases r; cases s
  simp only [Rw.mk.injEq, Bool.decide_and]
theorem eq_rowC (r s : Rw) : eqCells [some .u8, some .u8, some .u8, some .u8, some .i64, some .i64] (rowC r) (rowC s) = some (decide (r = s)) := by
  have : decide (r = s) = ((r.a == s.a) && ((r.b == s.b) && ((r.c == s.c) && ((r.d == s.d) && ((r.x == s.x) && ((r.y == s.y) && true)))))) := by
    cases r; cases s
    simp only [Rw.mk.injEq, Bool.decide_and]
    simp [beqI]
  rw [this]
  simp [rowC, eqCells]
end Go.Proofs.Ytmnafjgkhhdidaa
