/- What a node covers lies one above it; from the base to each node there is a way of covers, as many as its rank. -/
import Derived.Test.YtldijlajoaddnaaLatCom
set_option linter.unusedSimpArgs false
set_option linter.unusedVariables false
set_option maxHeartbeats 4000000
set_option maxRecDepth 100000
namespace Go.Proofs.Ytldijlajoaddnaa
open Go.Ev
structure I4 where
  a : Int
  b : Int
  c : Int
  d : Int
theorem covers_el {ds : List Dm} (hn : ds.length ≤ 4) {a b c d : Int} {x : List Int} (h : x ∈ coversP ds [a, b, c, d] ds.length) :
    (x = [a + 1, b, c, d] ∧ a < wOf ds 0) ∨ (x = [a, b + 1, c, d] ∧ b < wOf ds 1) ∨ (x = [a, b, c + 1, d] ∧ c < wOf ds 2) ∨ (x = [a, b, c, d + 1] ∧ d < wOf ds 3) := by
  unfold coversP at h
  obtain ⟨i, hi, rfl⟩ := List.mem_map.1 h
  rw [List.mem_filter, List.mem_range, decide_eq_true_eq] at hi
  have : i = 0 ∨ i = 1 ∨ i = 2 ∨ i = 3 := by omega
  rcases this with rfl | rfl | rfl | rfl
  · exact .inl ⟨rfl, hi.2⟩
  · exact .inr (.inl ⟨rfl, hi.2⟩)
  · exact .inr (.inr (.inl ⟨rfl, hi.2⟩))
  · exact .inr (.inr (.inr ⟨rfl, hi.2⟩))
theorem covers_mem {ds : List Dm} {v : List Int} {i : Nat} (hi : i < ds.length) (h : gI v i < wOf ds i) : v.set i (gI v i + 1) ∈ coversP ds v ds.length :=
  List.mem_map.2 ⟨i, List.mem_filter.2 ⟨List.mem_range.2 hi, by simpa using h⟩, rfl⟩
theorem in_of_w {ds : List Dm} {i : Nat} (h : 0 < wOf ds i) : i < ds.length := by
  unfold wOf at h
  by_cases c : i < ds.length
  · exact c
  · rw [if_neg c] at h; omega
theorem latticeCovers_ev (ds : List Dm) (m : Int) (v : List Int) (hC : okC ds) (hv : okN v) : cvF tab 6 [.agg [.ro ds.length (flatD ds), .int .i64 m], .agg (v.map (.int .u8))] = some (.bool true) := by
  refine cvFA_R (mf := Mf.f6) rfl rfl (by kernel_rfl) ?_
  simp only [Mf.f6]
  have egv := rGood_ev ds m v hC hv
  have ecov := covers_ev ds m v hC hv
  have erk := rank_ev v hv
  have hgi := fun g : goodN ds m v = true => (goodN_iff (goodN_good g) hv).1 g
  have hv' := hv
  obtain ⟨v0, v1, v2, v3, rfl, hv0, hv1, hv2, hv3⟩ := four hv
  simp only [List.map] at egv ecov erk
  cases g : goodN ds m [v0, v1, v2, v3] with
  | false => simp [beqI, bneI, mm_min2, mm_max2, mm_min3, mm_max3, startE, lkE, lkX, lkE_rest, sx, substE, opVA, objs0, List.replicate, XA_seq, XA_region, XOA_go, goE_someA, opV, ev, putA, layAll, XOA_nil, XA_skip_seq, XA_skip_nil, XOA_gd, goG_tA, goG_uA, binV, binInt, unV, XA_ret_nil, XA_ret_cons, endFA_r, endFA_n, endTA_r, endTA_n, endRA_r, endRA_n, fltR, resultsA, resAs, resA, XA_block, XA_cond, pickX_t, pickX_f, pickX_b, XA_skip_blk, XA_skip_lp, XA_exit_seq, XA_exit_lp, XA_exit_blk, XA_exit_nil, load1, Ev.loadCells, objCells, bodyCells, setCells, AV.flat, AV.flat1, backR, backV, backCell, mapO, AV.cells, AV.atom, AV.tree, fillV, repeatL, treeCell, freezeAll, eqCells, callV_T, callV_F, passV, passCell, srcCells, sliceBounds, hiB, loB, thenQ_nA, thenQ_xA, thenQ_rA, runK_nA, runK_xA, runK_rA, wrap_i64, wrap_u64, wrap_u32, wrap_u8, wrap_u16, egv, g, wakes_ev]
  | true =>
    have gc := goodN_good g
    have hl := goodC_len gc
    have b0 := wOf_le gc 0
    have b1 := wOf_le gc 1
    have b2 := wOf_le gc 2
    have b3 := wOf_le gc 3
    have hgi := hgi g
    simp only [gI, List.getD_cons_zero, List.getD_cons_succ] at hgi
    have ewh := whole_ev ds m hC
    unfold wholeN at ewh
    rw [if_pos gc] at ewh
    have hup : coversN ds m [v0, v1, v2, v3] = coversP ds [v0, v1, v2, v3] ds.length := by unfold coversN; rw [if_pos g]
    rw [hup] at ecov
    simp only [List.map, rN] at ewh ecov
    unfold byte at *
    simp [rankN] at erk
    have hlen0 : ((coversP ds [v0, v1, v2, v3] ds.length).length = 0) ↔ (v0 = wOf ds 0 ∧ v1 = wOf ds 1 ∧ v2 = wOf ds 2 ∧ v3 = wOf ds 3) := by
      rw [List.length_eq_zero_iff]
      constructor
      · intro h
        refine ⟨?_, ?_, ?_, ?_⟩
        · by_cases c : v0 < wOf ds 0
          · have := covers_mem (v := [v0, v1, v2, v3]) (in_of_w (ds := ds) (i := 0) (by omega)) c
            rw [h] at this; cases this
          · omega
        · by_cases c : v1 < wOf ds 1
          · have := covers_mem (v := [v0, v1, v2, v3]) (in_of_w (ds := ds) (i := 1) (by omega)) c
            rw [h] at this; cases this
          · omega
        · by_cases c : v2 < wOf ds 2
          · have := covers_mem (v := [v0, v1, v2, v3]) (in_of_w (ds := ds) (i := 2) (by omega)) c
            rw [h] at this; cases this
          · omega
        · by_cases c : v3 < wOf ds 3
          · have := covers_mem (v := [v0, v1, v2, v3]) (in_of_w (ds := ds) (i := 3) (by omega)) c
            rw [h] at this; cases this
          · omega
      · intro h
        rw [List.eq_nil_iff_forall_not_mem]
        intro x hx
        have := covers_el hl.2.1 hx
        omega
    have hupl := coversP_len ds [v0, v1, v2, v3] ds.length
    have hup4 := coversP_len4 ds (v := [v0, v1, v2, v3]) rfl ds.length
    have hupe := fun x hx => covers_el (ds := ds) (a := v0) (b := v1) (c := v2) (d := v3) (x := x) hl.2.1 hx
    simp [beqI, bneI, mm_min2, mm_max2, mm_min3, mm_max3, startE, lkE, lkX, lkE_rest, sx, substE, opVA, objs0, List.replicate, XA_seq, XA_region, XOA_go, goE_someA, opV, ev, putA, layAll, XOA_nil, XA_skip_seq, XA_skip_nil, XOA_gd, goG_tA, goG_uA, binV, binInt, unV, XA_ret_nil, XA_ret_cons, endFA_r, endFA_n, endTA_r, endTA_n, endRA_r, endRA_n, fltR, resultsA, resAs, resA, XA_block, XA_cond, pickX_t, pickX_f, pickX_b, XA_skip_blk, XA_skip_lp, XA_exit_seq, XA_exit_lp, XA_exit_blk, XA_exit_nil, load1, Ev.loadCells, objCells, bodyCells, setCells, AV.flat, AV.flat1, backR, backV, backCell, mapO, AV.cells, AV.atom, AV.tree, fillV, repeatL, treeCell, freezeAll, eqCells, callV_T, callV_F, passV, passCell, srcCells, sliceBounds, hiB, loB, thenQ_nA, thenQ_xA, thenQ_rA, runK_nA, runK_xA, runK_rA, wrap_i64, wrap_u64, wrap_u32, wrap_u8, wrap_u16, egv, g, ecov]
    generalize coversP ds [v0, v1, v2, v3] ds.length = up at *
    refine XA_for (fun i => ⟨[(2, .ptr 0 0 0), (3, .ptr 1 0 0), (5, .ro up.length (flatN up)), (6, .int .i64 i)], [⟨0, .var [.ro ds.length (flatD ds), .int .i64 m]⟩, ⟨0, .var [.int .u8 v0, .int .u8 v1, .int .u8 v2, .int .u8 v3]⟩, ⟨0, .none⟩]⟩)
      (fun _ => True) up.length 0 (Nat.zero_le _) (by simp [AV.atom, normA, lkE, fixObjs, fixBody, fixV, fixCell]) trivial ?_ ?_
    · intro i _ hi _
      have hi' : (i : Int) < up.length := by omega
      have hdr := dropN hup4 hi
      have hel := hupe _ (gR_mem hi)
      have hw1 : IntKind.i64.wrap (v0 + (v1 + (v2 + v3)) + 1) = v0 + (v1 + (v2 + v3)) + 1 := wrap_i64 (by omega) (by omega)
      have hws := wrap_succ i up.length hi (by omega)
      rcases hel with ⟨hx, hlt⟩ | ⟨hx, hlt⟩ | ⟨hx, hlt⟩ | ⟨hx, hlt⟩
      · rw [hx] at hdr
        have hox : okN [v0 + 1, v1, v2, v3] := okN4 ⟨by omega, by omega⟩ ⟨by omega, by omega⟩ ⟨by omega, by omega⟩ ⟨by omega, by omega⟩
        have f1 := lgood_ev ds m _ hC hox
        have f2 := below_ev _ _ hv' hox
        have f3 := rank_ev _ hox
        rw [(goodN_iff gc hox).2 (by simp only [gI, List.getD_cons_zero, List.getD_cons_succ]; omega)] at f1
        rw [show belowN [v0, v1, v2, v3] [v0 + 1, v1, v2, v3] = true from by simp [belowN]; try omega] at f2
        rw [show rankN [v0 + 1, v1, v2, v3] = v0 + (v1 + (v2 + v3)) + 1 from by simp [rankN]; omega] at f3
        simp [gI] at hdr f1 f2 f3
        simp [beqI, bneI, mm_min2, mm_max2, mm_min3, mm_max3, startE, lkE, lkX, lkE_rest, sx, substE, opVA, objs0, List.replicate, XA_seq, XA_region, XOA_go, goE_someA, opV, ev, putA, layAll, XOA_nil, XA_skip_seq, XA_skip_nil, XOA_gd, goG_tA, goG_uA, binV, binInt, unV, XA_ret_nil, XA_ret_cons, endFA_r, endFA_n, endTA_r, endTA_n, endRA_r, endRA_n, fltR, resultsA, resAs, resA, XA_block, XA_cond, pickX_t, pickX_f, pickX_b, XA_skip_blk, XA_skip_lp, XA_exit_seq, XA_exit_lp, XA_exit_blk, XA_exit_nil, load1, Ev.loadCells, objCells, bodyCells, setCells, AV.flat, AV.flat1, backR, backV, backCell, mapO, AV.cells, AV.atom, AV.tree, fillV, repeatL, treeCell, freezeAll, eqCells, callV_T, callV_F, passV, passCell, srcCells, sliceBounds, hiB, loB, thenQ_nA, thenQ_xA, thenQ_rA, runK_nA, runK_xA, runK_rA, wrap_i64, wrap_u64, wrap_u32, wrap_u8, wrap_u16, AV.atom, normA, lkE, fixObjs, fixBody, fixV, fixCell, hi', hdr, f1, f2, f3, erk, hw1, hws]
      · rw [hx] at hdr
        have hox : okN [v0, v1 + 1, v2, v3] := okN4 ⟨by omega, by omega⟩ ⟨by omega, by omega⟩ ⟨by omega, by omega⟩ ⟨by omega, by omega⟩
        have f1 := lgood_ev ds m _ hC hox
        have f2 := below_ev _ _ hv' hox
        have f3 := rank_ev _ hox
        rw [(goodN_iff gc hox).2 (by simp only [gI, List.getD_cons_zero, List.getD_cons_succ]; omega)] at f1
        rw [show belowN [v0, v1, v2, v3] [v0, v1 + 1, v2, v3] = true from by simp [belowN]; try omega] at f2
        rw [show rankN [v0, v1 + 1, v2, v3] = v0 + (v1 + (v2 + v3)) + 1 from by simp [rankN]; omega] at f3
        simp [gI] at hdr f1 f2 f3
        simp [beqI, bneI, mm_min2, mm_max2, mm_min3, mm_max3, startE, lkE, lkX, lkE_rest, sx, substE, opVA, objs0, List.replicate, XA_seq, XA_region, XOA_go, goE_someA, opV, ev, putA, layAll, XOA_nil, XA_skip_seq, XA_skip_nil, XOA_gd, goG_tA, goG_uA, binV, binInt, unV, XA_ret_nil, XA_ret_cons, endFA_r, endFA_n, endTA_r, endTA_n, endRA_r, endRA_n, fltR, resultsA, resAs, resA, XA_block, XA_cond, pickX_t, pickX_f, pickX_b, XA_skip_blk, XA_skip_lp, XA_exit_seq, XA_exit_lp, XA_exit_blk, XA_exit_nil, load1, Ev.loadCells, objCells, bodyCells, setCells, AV.flat, AV.flat1, backR, backV, backCell, mapO, AV.cells, AV.atom, AV.tree, fillV, repeatL, treeCell, freezeAll, eqCells, callV_T, callV_F, passV, passCell, srcCells, sliceBounds, hiB, loB, thenQ_nA, thenQ_xA, thenQ_rA, runK_nA, runK_xA, runK_rA, wrap_i64, wrap_u64, wrap_u32, wrap_u8, wrap_u16, AV.atom, normA, lkE, fixObjs, fixBody, fixV, fixCell, hi', hdr, f1, f2, f3, erk, hw1, hws]
      · rw [hx] at hdr
        have hox : okN [v0, v1, v2 + 1, v3] := okN4 ⟨by omega, by omega⟩ ⟨by omega, by omega⟩ ⟨by omega, by omega⟩ ⟨by omega, by omega⟩
        have f1 := lgood_ev ds m _ hC hox
        have f2 := below_ev _ _ hv' hox
        have f3 := rank_ev _ hox
        rw [(goodN_iff gc hox).2 (by simp only [gI, List.getD_cons_zero, List.getD_cons_succ]; omega)] at f1
        rw [show belowN [v0, v1, v2, v3] [v0, v1, v2 + 1, v3] = true from by simp [belowN]; try omega] at f2
        rw [show rankN [v0, v1, v2 + 1, v3] = v0 + (v1 + (v2 + v3)) + 1 from by simp [rankN]; omega] at f3
        simp [gI] at hdr f1 f2 f3
        simp [beqI, bneI, mm_min2, mm_max2, mm_min3, mm_max3, startE, lkE, lkX, lkE_rest, sx, substE, opVA, objs0, List.replicate, XA_seq, XA_region, XOA_go, goE_someA, opV, ev, putA, layAll, XOA_nil, XA_skip_seq, XA_skip_nil, XOA_gd, goG_tA, goG_uA, binV, binInt, unV, XA_ret_nil, XA_ret_cons, endFA_r, endFA_n, endTA_r, endTA_n, endRA_r, endRA_n, fltR, resultsA, resAs, resA, XA_block, XA_cond, pickX_t, pickX_f, pickX_b, XA_skip_blk, XA_skip_lp, XA_exit_seq, XA_exit_lp, XA_exit_blk, XA_exit_nil, load1, Ev.loadCells, objCells, bodyCells, setCells, AV.flat, AV.flat1, backR, backV, backCell, mapO, AV.cells, AV.atom, AV.tree, fillV, repeatL, treeCell, freezeAll, eqCells, callV_T, callV_F, passV, passCell, srcCells, sliceBounds, hiB, loB, thenQ_nA, thenQ_xA, thenQ_rA, runK_nA, runK_xA, runK_rA, wrap_i64, wrap_u64, wrap_u32, wrap_u8, wrap_u16, AV.atom, normA, lkE, fixObjs, fixBody, fixV, fixCell, hi', hdr, f1, f2, f3, erk, hw1, hws]
      · rw [hx] at hdr
        have hox : okN [v0, v1, v2, v3 + 1] := okN4 ⟨by omega, by omega⟩ ⟨by omega, by omega⟩ ⟨by omega, by omega⟩ ⟨by omega, by omega⟩
        have f1 := lgood_ev ds m _ hC hox
        have f2 := below_ev _ _ hv' hox
        have f3 := rank_ev _ hox
        rw [(goodN_iff gc hox).2 (by simp only [gI, List.getD_cons_zero, List.getD_cons_succ]; omega)] at f1
        rw [show belowN [v0, v1, v2, v3] [v0, v1, v2, v3 + 1] = true from by simp [belowN]; try omega] at f2
        rw [show rankN [v0, v1, v2, v3 + 1] = v0 + (v1 + (v2 + v3)) + 1 from by simp [rankN]; omega] at f3
        simp [gI] at hdr f1 f2 f3
        simp [beqI, bneI, mm_min2, mm_max2, mm_min3, mm_max3, startE, lkE, lkX, lkE_rest, sx, substE, opVA, objs0, List.replicate, XA_seq, XA_region, XOA_go, goE_someA, opV, ev, putA, layAll, XOA_nil, XA_skip_seq, XA_skip_nil, XOA_gd, goG_tA, goG_uA, binV, binInt, unV, XA_ret_nil, XA_ret_cons, endFA_r, endFA_n, endTA_r, endTA_n, endRA_r, endRA_n, fltR, resultsA, resAs, resA, XA_block, XA_cond, pickX_t, pickX_f, pickX_b, XA_skip_blk, XA_skip_lp, XA_exit_seq, XA_exit_lp, XA_exit_blk, XA_exit_nil, load1, Ev.loadCells, objCells, bodyCells, setCells, AV.flat, AV.flat1, backR, backV, backCell, mapO, AV.cells, AV.atom, AV.tree, fillV, repeatL, treeCell, freezeAll, eqCells, callV_T, callV_F, passV, passCell, srcCells, sliceBounds, hiB, loB, thenQ_nA, thenQ_xA, thenQ_rA, runK_nA, runK_xA, runK_rA, wrap_i64, wrap_u64, wrap_u32, wrap_u8, wrap_u16, AV.atom, normA, lkE, fixObjs, fixBody, fixV, fixCell, hi', hdr, f1, f2, f3, erk, hw1, hws]
    · intro _
      simp [beqI, bneI, mm_min2, mm_max2, mm_min3, mm_max3, startE, lkE, lkX, lkE_rest, sx, substE, opVA, objs0, List.replicate, XA_seq, XA_region, XOA_go, goE_someA, opV, ev, putA, layAll, XOA_nil, XA_skip_seq, XA_skip_nil, XOA_gd, goG_tA, goG_uA, binV, binInt, unV, XA_ret_nil, XA_ret_cons, endFA_r, endFA_n, endTA_r, endTA_n, endRA_r, endRA_n, fltR, resultsA, resAs, resA, XA_block, XA_cond, pickX_t, pickX_f, pickX_b, XA_skip_blk, XA_skip_lp, XA_exit_seq, XA_exit_lp, XA_exit_blk, XA_exit_nil, load1, Ev.loadCells, objCells, bodyCells, setCells, AV.flat, AV.flat1, backR, backV, backCell, mapO, AV.cells, AV.atom, AV.tree, fillV, repeatL, treeCell, freezeAll, eqCells, callV_T, callV_F, passV, passCell, srcCells, sliceBounds, hiB, loB, thenQ_nA, thenQ_xA, thenQ_rA, runK_nA, runK_xA, runK_rA, wrap_i64, wrap_u64, wrap_u32, wrap_u8, wrap_u16, AV.atom, normA, lkE, fixObjs, fixBody, fixV, fixCell, base_ev]
      refine XA_loop (α := I4) (fun x => ⟨[(2, .ptr 0 0 0), (3, .ptr 1 0 0), (5, .ro up.length (flatN up)), (7, .int .i64 (x.a + (x.b + (x.c + x.d)))), (8, .ptr 2 0 0)], [⟨0, .var [.ro ds.length (flatD ds), .int .i64 m]⟩, ⟨0, .var [.int .u8 v0, .int .u8 v1, .int .u8 v2, .int .u8 v3]⟩, ⟨0, .var [.int .u8 x.a, .int .u8 x.b, .int .u8 x.c, .int .u8 x.d]⟩]⟩)
        (fun x => (0 ≤ x.a ∧ x.a ≤ v0) ∧ (0 ≤ x.b ∧ x.b ≤ v1) ∧ (0 ≤ x.c ∧ x.c ≤ v2) ∧ (0 ≤ x.d ∧ x.d ≤ v3)) (fun x => (v0 + v1 + v2 + v3 - (x.a + x.b + x.c + x.d)).toNat) ⟨0, 0, 0, 0⟩ (by simp [AV.atom, normA, lkE, fixObjs, fixBody, fixV, fixCell]) (by simp; omega) ?_
      rintro ⟨a, b, c, d⟩ ⟨⟨ha, ha'⟩, ⟨hb, hb'⟩, ⟨hc, hc'⟩, ⟨hd, hd'⟩⟩
      simp only at ha ha' hb hb' hc hc' hd hd'
      have hn100 : a + (b + (c + d)) < 100 := by omega
      have how : okN [a, b, c, d] := okN4 ⟨by omega, by omega⟩ ⟨by omega, by omega⟩ ⟨by omega, by omega⟩ ⟨by omega, by omega⟩
      by_cases heq : a = v0 ∧ b = v1 ∧ c = v2 ∧ d = v3
      · obtain ⟨rfl, rfl, rfl, rfl⟩ := heq
        by_cases hz : up.length = 0
        · obtain ⟨z0, z1, z2, z3⟩ := hlen0.1 hz
          have hz' : (up.length : Int) = 0 := by omega
          have hemp : up = [] := List.length_eq_zero_iff.1 hz
          subst hemp
          simp [beqI, bneI, mm_min2, mm_max2, mm_min3, mm_max3, startE, lkE, lkX, lkE_rest, sx, substE, opVA, objs0, List.replicate, XA_seq, XA_region, XOA_go, goE_someA, opV, ev, putA, layAll, XOA_nil, XA_skip_seq, XA_skip_nil, XOA_gd, goG_tA, goG_uA, binV, binInt, unV, XA_ret_nil, XA_ret_cons, endFA_r, endFA_n, endTA_r, endTA_n, endRA_r, endRA_n, fltR, resultsA, resAs, resA, XA_block, XA_cond, pickX_t, pickX_f, pickX_b, XA_skip_blk, XA_skip_lp, XA_exit_seq, XA_exit_lp, XA_exit_blk, XA_exit_nil, load1, Ev.loadCells, objCells, bodyCells, setCells, AV.flat, AV.flat1, backR, backV, backCell, mapO, AV.cells, AV.atom, AV.tree, fillV, repeatL, treeCell, freezeAll, eqCells, callV_T, callV_F, passV, passCell, srcCells, sliceBounds, hiB, loB, thenQ_nA, thenQ_xA, thenQ_rA, runK_nA, runK_xA, runK_rA, wrap_i64, wrap_u64, wrap_u32, wrap_u8, wrap_u16, AV.atom, normA, lkE, fixObjs, fixBody, fixV, fixCell, hn100, erk, ewh, z0.symm, z1.symm, z2.symm, z3.symm, wakes_ev]
        · have hz' : ¬ (up.length : Int) = 0 := by omega
          have hne : ¬ up = [] := fun c => hz (by rw [c]; rfl)
          have hb : (decide (a = (wOf ds 0 : Int)) && (decide (b = (wOf ds 1 : Int)) && (decide (c = (wOf ds 2 : Int)) && decide (d = (wOf ds 3 : Int))))) = false := by
            rw [Bool.eq_false_iff]
            intro h
            simp only [Bool.and_eq_true, decide_eq_true_eq] at h
            exact hz (hlen0.2 h)
          simp [beqI, bneI, mm_min2, mm_max2, mm_min3, mm_max3, startE, lkE, lkX, lkE_rest, sx, substE, opVA, objs0, List.replicate, XA_seq, XA_region, XOA_go, goE_someA, opV, ev, putA, layAll, XOA_nil, XA_skip_seq, XA_skip_nil, XOA_gd, goG_tA, goG_uA, binV, binInt, unV, XA_ret_nil, XA_ret_cons, endFA_r, endFA_n, endTA_r, endTA_n, endRA_r, endRA_n, fltR, resultsA, resAs, resA, XA_block, XA_cond, pickX_t, pickX_f, pickX_b, XA_skip_blk, XA_skip_lp, XA_exit_seq, XA_exit_lp, XA_exit_blk, XA_exit_nil, load1, Ev.loadCells, objCells, bodyCells, setCells, AV.flat, AV.flat1, backR, backV, backCell, mapO, AV.cells, AV.atom, AV.tree, fillV, repeatL, treeCell, freezeAll, eqCells, callV_T, callV_F, passV, passCell, srcCells, sliceBounds, hiB, loB, thenQ_nA, thenQ_xA, thenQ_rA, runK_nA, runK_xA, runK_rA, wrap_i64, wrap_u64, wrap_u32, wrap_u8, wrap_u16, AV.atom, normA, lkE, fixObjs, fixBody, fixV, fixCell, hn100, erk, ewh, hz', hne, hb, wakes_ev]
      · have hneq : (decide (a = v0) && (decide (b = v1) && (decide (c = v2) && decide (d = v3)))) = false := by
          rw [Bool.eq_false_iff]
          intro h
          simp only [Bool.and_eq_true, decide_eq_true_eq] at h
          exact heq h
        have ecw := covers_ev ds m _ hC how
        have gw : goodN ds m [a, b, c, d] = true := (goodN_iff gc how).2 (by simp only [gI, List.getD_cons_zero, List.getD_cons_succ]; omega)
        rw [show coversN ds m [a, b, c, d] = coversP ds [a, b, c, d] ds.length from by unfold coversN; rw [if_pos gw]] at ecw
        simp only [List.map, rN] at ecw
        have hex : ∃ x ∈ coversP ds [a, b, c, d] ds.length, belowN x [v0, v1, v2, v3] = true := by
          by_cases c0 : a < v0
          · exact ⟨_, covers_mem (v := [a, b, c, d]) (in_of_w (ds := ds) (i := 0) (by omega)) (show a < wOf ds 0 by omega), by simp [belowN, gI]; omega⟩
          · by_cases c1 : b < v1
            · exact ⟨_, covers_mem (v := [a, b, c, d]) (in_of_w (ds := ds) (i := 1) (by omega)) (show b < wOf ds 1 by omega), by simp [belowN, gI]; omega⟩
            · by_cases c2 : c < v2
              · exact ⟨_, covers_mem (v := [a, b, c, d]) (in_of_w (ds := ds) (i := 2) (by omega)) (show c < wOf ds 2 by omega), by simp [belowN, gI]; omega⟩
              · exact ⟨_, covers_mem (v := [a, b, c, d]) (in_of_w (ds := ds) (i := 3) (by omega)) (show d < wOf ds 3 by omega), by simp [belowN, gI]; omega⟩
        have hnl := coversP_len ds [a, b, c, d] ds.length
        have hn4 := coversP_len4 ds (v := [a, b, c, d]) rfl ds.length
        have hne := fun x hx => covers_el (ds := ds) (a := a) (b := b) (c := c) (d := d) (x := x) hl.2.1 hx
        simp [beqI, bneI, mm_min2, mm_max2, mm_min3, mm_max3, startE, lkE, lkX, lkE_rest, sx, substE, opVA, objs0, List.replicate, XA_seq, XA_region, XOA_go, goE_someA, opV, ev, putA, layAll, XOA_nil, XA_skip_seq, XA_skip_nil, XOA_gd, goG_tA, goG_uA, binV, binInt, unV, XA_ret_nil, XA_ret_cons, endFA_r, endFA_n, endTA_r, endTA_n, endRA_r, endRA_n, fltR, resultsA, resAs, resA, XA_block, XA_cond, pickX_t, pickX_f, pickX_b, XA_skip_blk, XA_skip_lp, XA_exit_seq, XA_exit_lp, XA_exit_blk, XA_exit_nil, load1, Ev.loadCells, objCells, bodyCells, setCells, AV.flat, AV.flat1, backR, backV, backCell, mapO, AV.cells, AV.atom, AV.tree, fillV, repeatL, treeCell, freezeAll, eqCells, callV_T, callV_F, passV, passCell, srcCells, sliceBounds, hiB, loB, thenQ_nA, thenQ_xA, thenQ_rA, runK_nA, runK_xA, runK_rA, wrap_i64, wrap_u64, wrap_u32, wrap_u8, wrap_u16, AV.atom, normA, lkE, fixObjs, fixBody, fixV, fixCell, hn100, hneq, ecw]
        generalize coversP ds [a, b, c, d] ds.length = nx at *
        refine XA_for (fun k => ⟨[(2, .ptr 0 0 0), (3, .ptr 1 0 0), (5, .ro up.length (flatN up)), (7, .int .i64 (a + (b + (c + d)))), (8, .ptr 2 0 0), (9, .ro nx.length (flatN nx)), (10, .int .i64 k)], [⟨0, .var [.ro ds.length (flatD ds), .int .i64 m]⟩, ⟨0, .var [.int .u8 v0, .int .u8 v1, .int .u8 v2, .int .u8 v3]⟩, ⟨0, .var [.int .u8 a, .int .u8 b, .int .u8 c, .int .u8 d]⟩]⟩)
          (fun k => ∀ x ∈ nx.take k, belowN x [v0, v1, v2, v3] = false) nx.length 0 (Nat.zero_le _) (by simp [AV.atom, normA, lkE, fixObjs, fixBody, fixV, fixCell]) (by simp) ?_ ?_
        · intro k _ hk hJ
          have hk' : (k : Int) < nx.length := by omega
          have hk2 : ¬ (nx.length : Int) ≤ (k : Int) := by omega
          have hdr := dropN hn4 hk
          have hws := wrap_succ k nx.length hk (by omega)
          have hw1 : IntKind.i64.wrap (a + (b + (c + d)) + 1) = a + (b + (c + d)) + 1 := wrap_i64 (by omega) (by omega)
          have htk : nx.take (k + 1) = nx.take k ++ [gR nx k] := by
            rw [List.take_succ_eq_append_getElem hk, gR_get _ _ hk]
          have hel := hne _ (gR_mem hk)
          have hJ1 : belowN (gR nx k) [v0, v1, v2, v3] = false → ∀ x ∈ nx.take (k + 1), belowN x [v0, v1, v2, v3] = false := fun h x hx => by
            rw [htk] at hx
            rcases List.mem_append.1 hx with hx | hx
            · exact hJ x hx
            · rw [List.mem_singleton] at hx
              rw [hx]; exact h
          have hx4 : okN (gR nx k) := by
            rcases hel with ⟨hx, hlt⟩ | ⟨hx, hlt⟩ | ⟨hx, hlt⟩ | ⟨hx, hlt⟩ <;> rw [hx] <;> exact okN4 ⟨by omega, by omega⟩ ⟨by omega, by omega⟩ ⟨by omega, by omega⟩ ⟨by omega, by omega⟩
          have f2 := below_ev _ _ hx4 hv'
          cases hbl : belowN (gR nx k) [v0, v1, v2, v3] with
          | false =>
            rw [hbl] at f2
            have hJ2 := hJ1 hbl
            rw [list4 hx4.1] at f2
            simp only [List.map] at f2
            simp [beqI, bneI, mm_min2, mm_max2, mm_min3, mm_max3, startE, lkE, lkX, lkE_rest, sx, substE, opVA, objs0, List.replicate, XA_seq, XA_region, XOA_go, goE_someA, opV, ev, putA, layAll, XOA_nil, XA_skip_seq, XA_skip_nil, XOA_gd, goG_tA, goG_uA, binV, binInt, unV, XA_ret_nil, XA_ret_cons, endFA_r, endFA_n, endTA_r, endTA_n, endRA_r, endRA_n, fltR, resultsA, resAs, resA, XA_block, XA_cond, pickX_t, pickX_f, pickX_b, XA_skip_blk, XA_skip_lp, XA_exit_seq, XA_exit_lp, XA_exit_blk, XA_exit_nil, load1, Ev.loadCells, objCells, bodyCells, setCells, AV.flat, AV.flat1, backR, backV, backCell, mapO, AV.cells, AV.atom, AV.tree, fillV, repeatL, treeCell, freezeAll, eqCells, callV_T, callV_F, passV, passCell, srcCells, sliceBounds, hiB, loB, thenQ_nA, thenQ_xA, thenQ_rA, runK_nA, runK_xA, runK_rA, wrap_i64, wrap_u64, wrap_u32, wrap_u8, wrap_u16, AV.atom, normA, lkE, fixObjs, fixBody, fixV, fixCell, hk', hdr, f2, hws]
            exact hJ2
          | true =>
            rw [hbl] at f2
            rcases hel with ⟨hx, hlt⟩ | ⟨hx, hlt⟩ | ⟨hx, hlt⟩ | ⟨hx, hlt⟩
            · rw [hx] at hdr f2 hbl
              simp [gI, belowN] at hdr f2 hbl
              simp [beqI, bneI, mm_min2, mm_max2, mm_min3, mm_max3, startE, lkE, lkX, lkE_rest, sx, substE, opVA, objs0, List.replicate, XA_seq, XA_region, XOA_go, goE_someA, opV, ev, putA, layAll, XOA_nil, XA_skip_seq, XA_skip_nil, XOA_gd, goG_tA, goG_uA, binV, binInt, unV, XA_ret_nil, XA_ret_cons, endFA_r, endFA_n, endTA_r, endTA_n, endRA_r, endRA_n, fltR, resultsA, resAs, resA, XA_block, XA_cond, pickX_t, pickX_f, pickX_b, XA_skip_blk, XA_skip_lp, XA_exit_seq, XA_exit_lp, XA_exit_blk, XA_exit_nil, load1, Ev.loadCells, objCells, bodyCells, setCells, AV.flat, AV.flat1, backR, backV, backCell, mapO, AV.cells, AV.atom, AV.tree, fillV, repeatL, treeCell, freezeAll, eqCells, callV_T, callV_F, passV, passCell, srcCells, sliceBounds, hiB, loB, thenQ_nA, thenQ_xA, thenQ_rA, runK_nA, runK_xA, runK_rA, wrap_i64, wrap_u64, wrap_u32, wrap_u8, wrap_u16, AV.atom, normA, lkE, fixObjs, fixBody, fixV, fixCell, hk', hk2, hdr, f2, hw1]
              exact ⟨⟨a + 1, b, c, d⟩, by simp; omega⟩
            · rw [hx] at hdr f2 hbl
              simp [gI, belowN] at hdr f2 hbl
              simp [beqI, bneI, mm_min2, mm_max2, mm_min3, mm_max3, startE, lkE, lkX, lkE_rest, sx, substE, opVA, objs0, List.replicate, XA_seq, XA_region, XOA_go, goE_someA, opV, ev, putA, layAll, XOA_nil, XA_skip_seq, XA_skip_nil, XOA_gd, goG_tA, goG_uA, binV, binInt, unV, XA_ret_nil, XA_ret_cons, endFA_r, endFA_n, endTA_r, endTA_n, endRA_r, endRA_n, fltR, resultsA, resAs, resA, XA_block, XA_cond, pickX_t, pickX_f, pickX_b, XA_skip_blk, XA_skip_lp, XA_exit_seq, XA_exit_lp, XA_exit_blk, XA_exit_nil, load1, Ev.loadCells, objCells, bodyCells, setCells, AV.flat, AV.flat1, backR, backV, backCell, mapO, AV.cells, AV.atom, AV.tree, fillV, repeatL, treeCell, freezeAll, eqCells, callV_T, callV_F, passV, passCell, srcCells, sliceBounds, hiB, loB, thenQ_nA, thenQ_xA, thenQ_rA, runK_nA, runK_xA, runK_rA, wrap_i64, wrap_u64, wrap_u32, wrap_u8, wrap_u16, AV.atom, normA, lkE, fixObjs, fixBody, fixV, fixCell, hk', hk2, hdr, f2, hw1]
              exact ⟨⟨a, b + 1, c, d⟩, by simp; omega⟩
            · rw [hx] at hdr f2 hbl
              simp [gI, belowN] at hdr f2 hbl
              simp [beqI, bneI, mm_min2, mm_max2, mm_min3, mm_max3, startE, lkE, lkX, lkE_rest, sx, substE, opVA, objs0, List.replicate, XA_seq, XA_region, XOA_go, goE_someA, opV, ev, putA, layAll, XOA_nil, XA_skip_seq, XA_skip_nil, XOA_gd, goG_tA, goG_uA, binV, binInt, unV, XA_ret_nil, XA_ret_cons, endFA_r, endFA_n, endTA_r, endTA_n, endRA_r, endRA_n, fltR, resultsA, resAs, resA, XA_block, XA_cond, pickX_t, pickX_f, pickX_b, XA_skip_blk, XA_skip_lp, XA_exit_seq, XA_exit_lp, XA_exit_blk, XA_exit_nil, load1, Ev.loadCells, objCells, bodyCells, setCells, AV.flat, AV.flat1, backR, backV, backCell, mapO, AV.cells, AV.atom, AV.tree, fillV, repeatL, treeCell, freezeAll, eqCells, callV_T, callV_F, passV, passCell, srcCells, sliceBounds, hiB, loB, thenQ_nA, thenQ_xA, thenQ_rA, runK_nA, runK_xA, runK_rA, wrap_i64, wrap_u64, wrap_u32, wrap_u8, wrap_u16, AV.atom, normA, lkE, fixObjs, fixBody, fixV, fixCell, hk', hk2, hdr, f2, hw1]
              exact ⟨⟨a, b, c + 1, d⟩, by simp; omega⟩
            · rw [hx] at hdr f2 hbl
              simp [gI, belowN] at hdr f2 hbl
              simp [beqI, bneI, mm_min2, mm_max2, mm_min3, mm_max3, startE, lkE, lkX, lkE_rest, sx, substE, opVA, objs0, List.replicate, XA_seq, XA_region, XOA_go, goE_someA, opV, ev, putA, layAll, XOA_nil, XA_skip_seq, XA_skip_nil, XOA_gd, goG_tA, goG_uA, binV, binInt, unV, XA_ret_nil, XA_ret_cons, endFA_r, endFA_n, endTA_r, endTA_n, endRA_r, endRA_n, fltR, resultsA, resAs, resA, XA_block, XA_cond, pickX_t, pickX_f, pickX_b, XA_skip_blk, XA_skip_lp, XA_exit_seq, XA_exit_lp, XA_exit_blk, XA_exit_nil, load1, Ev.loadCells, objCells, bodyCells, setCells, AV.flat, AV.flat1, backR, backV, backCell, mapO, AV.cells, AV.atom, AV.tree, fillV, repeatL, treeCell, freezeAll, eqCells, callV_T, callV_F, passV, passCell, srcCells, sliceBounds, hiB, loB, thenQ_nA, thenQ_xA, thenQ_rA, runK_nA, runK_xA, runK_rA, wrap_i64, wrap_u64, wrap_u32, wrap_u8, wrap_u16, AV.atom, normA, lkE, fixObjs, fixBody, fixV, fixCell, hk', hk2, hdr, f2, hw1]
              exact ⟨⟨a, b, c, d + 1⟩, by simp; omega⟩
        · intro hJ
          rw [List.take_length] at hJ
          obtain ⟨x, hx, hbx⟩ := hex
          rw [hJ x hx] at hbx
          cases hbx
theorem latticeCovers_law (l : List AV) (h : RDargs [gCat, gN] l) : ∃ H1, cfT tab 6 l [] = some (.bool true, H1) := by
  obtain ⟨c, r, rfl, hc, v, r, rfl, hv, rfl⟩ := h
  obtain ⟨ds, m, rfl, hC, hm⟩ := rdarg_cat hc
  obtain ⟨v, rfl, hv'⟩ := rdarg_n hv
  exact cvF_bool (latticeCovers_ev ds m v hC hv')
theorem latticeCovers_lifted (os : Os) (started : os.Started) (H : Type) (enc : TypeId × Value → H) :
    ReturnsInHanded {} Try.checked os 6 .any (Rows.latticeCoversSpec.pre6 enc Try.prog Try.f6 Rows.latticeCoversRow.domain false) (Rows.latticeCoversSpec.post enc Try.prog Try.f6 false true false false) := by
  refine returnsInHanded_of_change (C := Try.checked) Try.own started (by kernel_rfl) Try.func6
    (ChangeSpec.witness6 (enc := enc) (C := Try.checked) false ⟨#[], #[.agg #[.slice none 0 0, .int .i64 0], .agg #[.int .u8 0, .int .u8 0, .int .u8 0, .int .u8 0]], []⟩ 8 (by kernel_rfl) (by kernel_rfl) (by kernel_rfl) (by kernel_rfl)) ?_
  intro W base args ds gs before hval hW hcnd _
  have hval' : ∀ (j : Nat) (t : TypeId) (v : Value), Try.f6.params.toList[j]? = some t → args[j]? = some v → Value.okWide Try.prog W .any base t v := fun j t v h1 h2 => hval j t v (by simpa using h1) h2
  obtain ⟨p, q, hA, hV, hpq, _, _⟩ := id hW
  have hg : gtsB Try.prog [gCat, gN] Try.f6.params.toList = true := by kernel_rfl
  refine (law_calls' tab_ok hg latticeCovers_law hval' hA).mono fun e W' ⟨he, hb⟩ => ?_
  subst he
  refine ⟨_, rfl, post_true Try.laidOut (rt := 4) (fun ds h => ?_) rfl (by kernel_rfl) (by kernel_rfl) (by kernel_rfl) hW hb⟩
  match ds, h with
  | [_, _], _ => rfl
theorem latticeCovers_holds : Rows.LatticeCoversSaid :=
  OpenClaim.holds_of_wide 6 Try.f6 rfl rfl rfl rfl rfl rfl rfl ⟨rfl, rfl, rfl, rfl, rfl⟩ rfl rfl rfl rfl rfl (by kernel_rfl) Try.func6 (by kernel_rfl)
    (of_decide_eq_true (by kernel_rfl)) (by unfold Func.isWrapper; first | (rw [if_pos (by decide +kernel)]; kernel_rfl) | (rw [if_neg (by decide +kernel)]; exact ⟨rfl, rfl⟩))
    (fun os started H enc _ => latticeCovers_lifted os started H enc)
end Go.Proofs.Ytldijlajoaddnaa
