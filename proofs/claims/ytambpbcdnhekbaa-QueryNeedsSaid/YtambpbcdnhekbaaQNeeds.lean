/- What a query needs lies below its node, and below the level of each of its fixes; all nodes that do so lie below that one. -/
import Derived.Test.YtambpbcdnhekbaaQO
import Derived.Test.YtambpbcdnhekbaaQW
set_option linter.unusedSimpArgs false
set_option linter.unusedVariables false
set_option maxHeartbeats 16000000
set_option maxRecDepth 100000
namespace Go.Proofs.Ytambpbcdnhekbaa
open Go.Ev
theorem below_need {v w : List Int} {f : Fx} (hv : okN v) (hw : okN w) (h : f.d.toNat < 4) : belowN v (needS w f) = (belowN v w && decide (gI v f.d.toNat ≤ f.l)) := by
  unfold needS
  generalize f.d.toNat = k at *
  obtain ⟨a, b, c, d, rfl, -, -, -, -⟩ := four hv
  obtain ⟨a', b', c', d', rfl, -, -, -, -⟩ := four hw
  have h4 : k = 0 ∨ k = 1 ∨ k = 2 ∨ k = 3 := by omega
  have hm : ∀ x y : Int, decide (x ≤ min y f.l) = (decide (x ≤ y) && decide (x ≤ f.l)) := fun x y => by
    rw [← Bool.decide_and]; exact decide_eq_decide.2 (by omega)
  rcases h4 with rfl | rfl | rfl | rfl <;> simp [belowN, gI, hm] <;> generalize decide (a ≤ a') = r1 <;> generalize decide (b ≤ b') = r2 <;> generalize decide (c ≤ c') = r3 <;> generalize decide (d ≤ d') = r4 <;> cases r1 <;> cases r2 <;> cases r3 <;> cases r4 <;> simp
def lowF (v : List Int) (f : Fx) : Bool := decide (gI v f.d.toNat ≤ f.l)
theorem below_needF {ds : List Dm} {m : Int} (g : goodC ds m = true) {v : List Int} (hv : okN v) : ∀ {F : List Fx} {w : List Int}, (∀ f ∈ F, fixG ds f = true) → okN w → belowN v (needF F w) = (belowN v w && F.all (lowF v))
  | [], w, _, _ => by simp [needF]
  | f :: F, w, h, hw => by
    have h1 := h f (by simp)
    have e := below_needF g hv (F := F) (w := needS w f) (fun x hx => h x (by simp [hx])) (needS_ok g h1 hw)
    rw [show needF (f :: F) w = needF F (needS w f) from rfl, e, below_need hv hw (fixG_lt g h1).1, List.all_cons, Bool.and_assoc]
    rfl
theorem need_good {ds : List Dm} {m : Int} : ∀ {F : List Fx} {w : List Int}, (∀ f ∈ F, fixG ds f = true) → okN w → goodN ds m w = true → goodN ds m (needF F w) = true
  | [], w, _, _, h => h
  | f :: F, w, hF, hw, h => by
    have gc := goodN_good h
    have h1 := hF f (by simp)
    have h2 := fixG_lt gc h1
    have hb := hw.at h2.1
    have hle : gI w f.d.toNat ≤ wOf ds f.d.toNat := by
      have h3 := (goodN_iff gc hw).1 h
      have h4 : f.d.toNat = 0 ∨ f.d.toNat = 1 ∨ f.d.toNat = 2 ∨ f.d.toNat = 3 := by omega
      rcases h4 with h4 | h4 | h4 | h4 <;> rw [h4]
      · exact h3.1
      · exact h3.2.1
      · exact h3.2.2.1
      · exact h3.2.2.2
    have := hb.1
    exact need_good (F := F) (fun x hx => hF x (by simp [hx])) (needS_ok gc h1 hw) (goodN_set h hw h2.1 (by omega) (by omega))
theorem queryNeeds_ev (ds : List Dm) (m : Int) (q : Qy) (hC : okC ds) (hq : okQ q) :
    cvF tab 8 [.agg (.ro ds.length (flatD ds) :: .int .i64 m :: qyC q)] = some (.bool true) := by
  refine cvFA_R (mf := Mf.f8) rfl rfl (by kernel_rfl) ?_
  simp only [Mf.f8]
  have e1 := light_ask ds m q hq
  have e2 := rqgood_ev ds m q hC hq
  cases gl : (lightC ds && lightQ q) with
  | false =>
    rw [gl] at e1
    clear hq e2 gl
    obtain ⟨a, b, c, e, F, t, me, fn, li⟩ := q
    simp only [qyC] at e1 ⊢
    simp [beqI, bneI, mm_min2, mm_max2, mm_min3, mm_max3, startE, lkE, lkX, lkE_rest, sx, substE, opVA, objs0, List.replicate, XA_seq, XA_region, XOA_go, goE_someA, opV, ev, putA, layAll, XOA_nil, XA_skip_seq, XA_skip_nil, XOA_gd, goG_tA, goG_uA, binV, bi_add, bi_sub, bi_mul, bi_quo, bi_rem, bi_eql, bi_neq, bi_lss, bi_leq, bi_gtr, bi_geq, bi_shl, bi_shr, bi_and, bi_or, bi_xor, unV, XA_ret_nil, XA_ret_cons, endFA_r, endFA_n, endTA_r, endTA_n, endRA_r, endRA_n, fltR, resultsA, resAs, resA, XA_block, XA_cond, pickX_t, pickX_f, pickX_b, XA_skip_blk, XA_skip_lp, XA_exit_seq, XA_exit_lp, XA_exit_blk, XA_exit_nil, load1, Ev.loadCells, objCells, bodyCells, setCells, AV.flat, AV.flat1, backR, backV, backCell, mapO, AV.cells, AV.atom, AV.tree, fillV, repeatL, treeCell, freezeAll, eqCells, callV_T, callV_F, passN, passV, passCell, srcCells, sliceBounds, hiB, loB, thenQ_nA, thenQ_xA, thenQ_rA, runK_nA, runK_xA, runK_rA, wrap_i64, wrap_u64, wrap_u32, wrap_u8, wrap_u16, e1, wakes_ev]
  | true =>
    rw [gl] at e1
    clear gl
    cases g : goodQ ds m q with
    | false =>
      rw [g] at e2
      clear hq g
      obtain ⟨a, b, c, e, F, t, me, fn, li⟩ := q
      simp only [qyC] at e1 e2 ⊢
      simp [beqI, bneI, mm_min2, mm_max2, mm_min3, mm_max3, startE, lkE, lkX, lkE_rest, sx, substE, opVA, objs0, List.replicate, XA_seq, XA_region, XOA_go, goE_someA, opV, ev, putA, layAll, XOA_nil, XA_skip_seq, XA_skip_nil, XOA_gd, goG_tA, goG_uA, binV, bi_add, bi_sub, bi_mul, bi_quo, bi_rem, bi_eql, bi_neq, bi_lss, bi_leq, bi_gtr, bi_geq, bi_shl, bi_shr, bi_and, bi_or, bi_xor, unV, XA_ret_nil, XA_ret_cons, endFA_r, endFA_n, endTA_r, endTA_n, endRA_r, endRA_n, fltR, resultsA, resAs, resA, XA_block, XA_cond, pickX_t, pickX_f, pickX_b, XA_skip_blk, XA_skip_lp, XA_exit_seq, XA_exit_lp, XA_exit_blk, XA_exit_nil, load1, Ev.loadCells, objCells, bodyCells, setCells, AV.flat, AV.flat1, backR, backV, backCell, mapO, AV.cells, AV.atom, AV.tree, fillV, repeatL, treeCell, freezeAll, eqCells, callV_T, callV_F, passN, passV, passCell, srcCells, sliceBounds, hiB, loB, thenQ_nA, thenQ_xA, thenQ_rA, runK_nA, runK_xA, runK_rA, wrap_i64, wrap_u64, wrap_u32, wrap_u8, wrap_u16, e1, e2, wakes_ev]
    | true =>
      rw [g] at e2
      obtain ⟨g1, g2, g3, -⟩ := goodQ_parts g
      have gc := goodN_good g1
      have hlen := goodC_len gc
      have e3 := need_ev ds m q hC hq
      have e4 := rall_ev ds m hC
      have e5 := qgood_ev ds m q hC hq
      rw [g] at e5
      have hN : needQ ds m q = needF q.F q.n := by unfold needQ; rw [if_pos g]
      rw [hN] at e3
      have hNo := needF_ok gc g3 hq.n
      have e6 := rGood_ev ds m _ hC hNo
      rw [need_good g3 hq.n g1] at e6
      have hbn := fun (v : List Int) (hv : okN v) => below_needF gc hv g3 hq.n
      have hrb := fun (v : List Int) (hv : okN v) => rbelow_ev v (needF q.F q.n) hv hNo
      have hrb2 := fun (v : List Int) (hv : okN v) => rbelow_ev v q.n hv hq.n
      have hAok : ∀ v ∈ allN ds m, okN v := by
        intro v hv
        unfold allN at hv
        rw [if_pos gc, mem_allQ] at hv
        obtain ⟨x0, x1, x2, x3, rfl, h0, h1, h2, h3⟩ := hv
        have b0 := wOf_le gc 0
        have b1 := wOf_le gc 1
        have b2 := wOf_le gc 2
        have b3 := wOf_le gc 3
        exact okN4 ⟨by omega, by omega⟩ ⟨by omega, by omega⟩ ⟨by omega, by omega⟩ ⟨by omega, by omega⟩
      have hAl : (allN ds m).length ≤ 625 := by
        unfold allN
        rw [if_pos gc]
        exact allQ_le (wOf_le gc 0) (wOf_le gc 1) (wOf_le gc 2) (wOf_le gc 3)
      have hFlt := fun (i : Nat) (h : i < q.F.length) => fixG_lt gc (g3 _ (List.getElem_mem h))
      generalize allN ds m = A at *
      generalize needF q.F q.n = N at *
      obtain ⟨n0, n1, n2, n3, rfl, -, -, -, -⟩ := four hNo
      have hA4 : ∀ v ∈ A, v.length = 4 := fun v hv => (hAok v hv).1
      clear hq g hN g1 g3
      obtain ⟨a, b, c, e, F, t, me, fn, li⟩ := q
      simp only [Qy.n] at *
      simp only [qyC, rN, List.map] at e1 e2 e3 e4 e5 e6 hrb hrb2 ⊢
      simp [beqI, bneI, mm_min2, mm_max2, mm_min3, mm_max3, startE, lkE, lkX, lkE_rest, sx, substE, opVA, objs0, List.replicate, XA_seq, XA_region, XOA_go, goE_someA, opV, ev, putA, layAll, XOA_nil, XA_skip_seq, XA_skip_nil, XOA_gd, goG_tA, goG_uA, binV, bi_add, bi_sub, bi_mul, bi_quo, bi_rem, bi_eql, bi_neq, bi_lss, bi_leq, bi_gtr, bi_geq, bi_shl, bi_shr, bi_and, bi_or, bi_xor, unV, XA_ret_nil, XA_ret_cons, endFA_r, endFA_n, endTA_r, endTA_n, endRA_r, endRA_n, fltR, resultsA, resAs, resA, XA_block, XA_cond, pickX_t, pickX_f, pickX_b, XA_skip_blk, XA_skip_lp, XA_exit_seq, XA_exit_lp, XA_exit_blk, XA_exit_nil, load1, Ev.loadCells, objCells, bodyCells, setCells, AV.flat, AV.flat1, backR, backV, backCell, mapO, AV.cells, AV.atom, AV.tree, fillV, repeatL, treeCell, freezeAll, eqCells, callV_T, callV_F, passN, passV, passCell, srcCells, sliceBounds, hiB, loB, thenQ_nA, thenQ_xA, thenQ_rA, runK_nA, runK_xA, runK_rA, wrap_i64, wrap_u64, wrap_u32, wrap_u8, wrap_u16, e1, e2, e3, e4]
      refine XA_for (fun i => ⟨[(1, .ptr 0 0 0), (3, .ptr 1 0 0), (4, .ro A.length (flatN A)), (5, .int .i64 i)], [⟨0, .var [.ro ds.length (flatD ds), .int .i64 m, .int .u8 a, .int .u8 b, .int .u8 c, .int .u8 e, .ro F.length (flatF F), .int .i64 t, .int .i64 me, .int .i64 fn, .int .i64 li]⟩, ⟨0, .var [.int .u8 n0, .int .u8 n1, .int .u8 n2, .int .u8 n3]⟩]⟩)
        (fun i => True) A.length 0 (Nat.zero_le _) (by simp [AV.atom, normA, lkE, fixObjs, fixBody, fixV, fixCell]) trivial ?_ ?_
      · intro i _ hi _
        have hi' : (i : Int) < A.length := by omega
        have hdr := dropN hA4 hi
        have hvo := hAok _ (gR_mem hi)
        have hws := wrap_succ i A.length hi (by omega)
        have r1 := hrb _ hvo
        have r2 := hrb2 _ hvo
        have hb := hbn _ hvo
        generalize gR A i = v at *
        obtain ⟨v0, v1, v2, v3, rfl, y0, y1, y2, y3⟩ := four hvo
        simp only [List.map] at r1 r2
        simp only [gI, List.getD_cons_zero, List.getD_cons_succ] at hdr
        unfold byte at y0 y1 y2 y3
        have z0 : IntKind.i64.wrap v0 = v0 := wrap_i64 (by omega) (by omega)
        have z1 : IntKind.i64.wrap v1 = v1 := wrap_i64 (by omega) (by omega)
        have z2 : IntKind.i64.wrap v2 = v2 := wrap_i64 (by omega) (by omega)
        have z3 : IntKind.i64.wrap v3 = v3 := wrap_i64 (by omega) (by omega)
        generalize belowN [v0, v1, v2, v3] [a, b, c, e] = B0 at *
        generalize belowN [v0, v1, v2, v3] [n0, n1, n2, n3] = B1 at *
        generalize A.length = n at *
        generalize flatN A = fa at *
        simp [beqI, bneI, mm_min2, mm_max2, mm_min3, mm_max3, startE, lkE, lkX, lkE_rest, sx, substE, opVA, objs0, List.replicate, XA_seq, XA_region, XOA_go, goE_someA, opV, ev, putA, layAll, XOA_nil, XA_skip_seq, XA_skip_nil, XOA_gd, goG_tA, goG_uA, binV, bi_add, bi_sub, bi_mul, bi_quo, bi_rem, bi_eql, bi_neq, bi_lss, bi_leq, bi_gtr, bi_geq, bi_shl, bi_shr, bi_and, bi_or, bi_xor, unV, XA_ret_nil, XA_ret_cons, endFA_r, endFA_n, endTA_r, endTA_n, endRA_r, endRA_n, fltR, resultsA, resAs, resA, XA_block, XA_cond, pickX_t, pickX_f, pickX_b, XA_skip_blk, XA_skip_lp, XA_exit_seq, XA_exit_lp, XA_exit_blk, XA_exit_nil, load1, Ev.loadCells, objCells, bodyCells, setCells, AV.flat, AV.flat1, backR, backV, backCell, mapO, AV.cells, AV.atom, AV.tree, fillV, repeatL, treeCell, freezeAll, eqCells, callV_T, callV_F, passN, passV, passCell, srcCells, sliceBounds, hiB, loB, thenQ_nA, thenQ_xA, thenQ_rA, runK_nA, runK_xA, runK_rA, wrap_i64, wrap_u64, wrap_u32, wrap_u8, wrap_u16, AV.atom, normA, lkE, fixObjs, fixBody, fixV, fixCell, hi', hi, hdr, r2]
        refine XA_for (fun k => ⟨[(1, .ptr 0 0 0), (3, .ptr 1 0 0), (4, .ro n fa), (5, .int .i64 i), (6, .bool (B0 && (F.take k).all (lowF [v0, v1, v2, v3]))), (7, .int .i64 k)], [⟨0, .var [.ro ds.length (flatD ds), .int .i64 m, .int .u8 a, .int .u8 b, .int .u8 c, .int .u8 e, .ro F.length (flatF F), .int .i64 t, .int .i64 me, .int .i64 fn, .int .i64 li]⟩, ⟨0, .var [.int .u8 n0, .int .u8 n1, .int .u8 n2, .int .u8 n3]⟩]⟩)
          (fun k => True) F.length 0 (Nat.zero_le _) (by simp [AV.atom, normA, lkE, fixObjs, fixBody, fixV, fixCell]) trivial ?_ ?_
        · intro k _ hk _
          have hk' : (k : Int) < F.length := by omega
          have hfr := dropF' F k hk
          have hwk := wrap_succ k F.length hk (by omega)
          have hlt := hFlt k hk
          rw [all_take_succ (lowF [v0, v1, v2, v3]) F k hk, ← Bool.and_assoc]
          generalize (B0 && (F.take k).all (lowF [v0, v1, v2, v3])) = P at *
          generalize F[k] = f at *
          obtain ⟨d, l, ms⟩ := f
          simp only at hlt hfr
          unfold lowF
          simp only
          obtain ⟨h1, h2, h3, h4⟩ := hlt
          generalize d.toNat = kd at *
          subst h2
          simp only [rI] at hfr
          have h4 : kd = 0 ∨ kd = 1 ∨ kd = 2 ∨ kd = 3 := by omega
          cases P with
          | false => simp [beqI, bneI, mm_min2, mm_max2, mm_min3, mm_max3, startE, lkE, lkX, lkE_rest, sx, substE, opVA, objs0, List.replicate, XA_seq, XA_region, XOA_go, goE_someA, opV, ev, putA, layAll, XOA_nil, XA_skip_seq, XA_skip_nil, XOA_gd, goG_tA, goG_uA, binV, bi_add, bi_sub, bi_mul, bi_quo, bi_rem, bi_eql, bi_neq, bi_lss, bi_leq, bi_gtr, bi_geq, bi_shl, bi_shr, bi_and, bi_or, bi_xor, unV, XA_ret_nil, XA_ret_cons, endFA_r, endFA_n, endTA_r, endTA_n, endRA_r, endRA_n, fltR, resultsA, resAs, resA, XA_block, XA_cond, pickX_t, pickX_f, pickX_b, XA_skip_blk, XA_skip_lp, XA_exit_seq, XA_exit_lp, XA_exit_blk, XA_exit_nil, load1, Ev.loadCells, objCells, bodyCells, setCells, AV.flat, AV.flat1, backR, backV, backCell, mapO, AV.cells, AV.atom, AV.tree, fillV, repeatL, treeCell, freezeAll, eqCells, callV_T, callV_F, passN, passV, passCell, srcCells, sliceBounds, hiB, loB, thenQ_nA, thenQ_xA, thenQ_rA, runK_nA, runK_xA, runK_rA, wrap_i64, wrap_u64, wrap_u32, wrap_u8, wrap_u16, AV.atom, normA, lkE, fixObjs, fixBody, fixV, fixCell, hk', hwk]
          | true => rcases h4 with rfl | rfl | rfl | rfl <;> simp at hfr <;> simp [beqI, bneI, mm_min2, mm_max2, mm_min3, mm_max3, startE, lkE, lkX, lkE_rest, sx, substE, opVA, objs0, List.replicate, XA_seq, XA_region, XOA_go, goE_someA, opV, ev, putA, layAll, XOA_nil, XA_skip_seq, XA_skip_nil, XOA_gd, goG_tA, goG_uA, binV, bi_add, bi_sub, bi_mul, bi_quo, bi_rem, bi_eql, bi_neq, bi_lss, bi_leq, bi_gtr, bi_geq, bi_shl, bi_shr, bi_and, bi_or, bi_xor, unV, XA_ret_nil, XA_ret_cons, endFA_r, endFA_n, endTA_r, endTA_n, endRA_r, endRA_n, fltR, resultsA, resAs, resA, XA_block, XA_cond, pickX_t, pickX_f, pickX_b, XA_skip_blk, XA_skip_lp, XA_exit_seq, XA_exit_lp, XA_exit_blk, XA_exit_nil, load1, Ev.loadCells, objCells, bodyCells, setCells, AV.flat, AV.flat1, backR, backV, backCell, mapO, AV.cells, AV.atom, AV.tree, fillV, repeatL, treeCell, freezeAll, eqCells, callV_T, callV_F, passN, passV, passCell, srcCells, sliceBounds, hiB, loB, thenQ_nA, thenQ_xA, thenQ_rA, runK_nA, runK_xA, runK_rA, wrap_i64, wrap_u64, wrap_u32, wrap_u8, wrap_u16, AV.atom, normA, lkE, fixObjs, fixBody, fixV, fixCell, hk', hk, hi', hi, hdr, hfr, hwk, z0, z1, z2, z3, gI]
        · intro _
          rw [List.take_length, ← hb]
          simp [beqI, bneI, mm_min2, mm_max2, mm_min3, mm_max3, startE, lkE, lkX, lkE_rest, sx, substE, opVA, objs0, List.replicate, XA_seq, XA_region, XOA_go, goE_someA, opV, ev, putA, layAll, XOA_nil, XA_skip_seq, XA_skip_nil, XOA_gd, goG_tA, goG_uA, binV, bi_add, bi_sub, bi_mul, bi_quo, bi_rem, bi_eql, bi_neq, bi_lss, bi_leq, bi_gtr, bi_geq, bi_shl, bi_shr, bi_and, bi_or, bi_xor, unV, XA_ret_nil, XA_ret_cons, endFA_r, endFA_n, endTA_r, endTA_n, endRA_r, endRA_n, fltR, resultsA, resAs, resA, XA_block, XA_cond, pickX_t, pickX_f, pickX_b, XA_skip_blk, XA_skip_lp, XA_exit_seq, XA_exit_lp, XA_exit_blk, XA_exit_nil, load1, Ev.loadCells, objCells, bodyCells, setCells, AV.flat, AV.flat1, backR, backV, backCell, mapO, AV.cells, AV.atom, AV.tree, fillV, repeatL, treeCell, freezeAll, eqCells, callV_T, callV_F, passN, passV, passCell, srcCells, sliceBounds, hiB, loB, thenQ_nA, thenQ_xA, thenQ_rA, runK_nA, runK_xA, runK_rA, wrap_i64, wrap_u64, wrap_u32, wrap_u8, wrap_u16, AV.atom, normA, lkE, fixObjs, fixBody, fixV, fixCell, hi', hi, hdr, r1, hws]
      · intro _
        simp [beqI, bneI, mm_min2, mm_max2, mm_min3, mm_max3, startE, lkE, lkX, lkE_rest, sx, substE, opVA, objs0, List.replicate, XA_seq, XA_region, XOA_go, goE_someA, opV, ev, putA, layAll, XOA_nil, XA_skip_seq, XA_skip_nil, XOA_gd, goG_tA, goG_uA, binV, bi_add, bi_sub, bi_mul, bi_quo, bi_rem, bi_eql, bi_neq, bi_lss, bi_leq, bi_gtr, bi_geq, bi_shl, bi_shr, bi_and, bi_or, bi_xor, unV, XA_ret_nil, XA_ret_cons, endFA_r, endFA_n, endTA_r, endTA_n, endRA_r, endRA_n, fltR, resultsA, resAs, resA, XA_block, XA_cond, pickX_t, pickX_f, pickX_b, XA_skip_blk, XA_skip_lp, XA_exit_seq, XA_exit_lp, XA_exit_blk, XA_exit_nil, load1, Ev.loadCells, objCells, bodyCells, setCells, AV.flat, AV.flat1, backR, backV, backCell, mapO, AV.cells, AV.atom, AV.tree, fillV, repeatL, treeCell, freezeAll, eqCells, callV_T, callV_F, passN, passV, passCell, srcCells, sliceBounds, hiB, loB, thenQ_nA, thenQ_xA, thenQ_rA, runK_nA, runK_xA, runK_rA, wrap_i64, wrap_u64, wrap_u32, wrap_u8, wrap_u16, AV.atom, normA, lkE, fixObjs, fixBody, fixV, fixCell, e5, e6, wakes_ev]
theorem queryNeeds_law (l : List AV) (h : RDargs [gAsk] l) : ∃ H1, cfT tab 8 l [] = some (.bool true, H1) := by
  obtain ⟨x, r, rfl, hx, rfl⟩ := h
  obtain ⟨ds, m, q, rfl, hC, hm, hq⟩ := rdarg_ask hx
  exact cvF_bool (queryNeeds_ev ds m q hC hq)
theorem queryNeeds_lifted (os : Os) (started : os.Started) (H : Type) (enc : TypeId × Value → H) :
    ReturnsInHanded {} Try.checked os 8 .any (Rows.queryNeedsSpec.pre6 enc Try.prog Try.f8 Rows.queryNeedsRow.domain false) (Rows.queryNeedsSpec.post enc Try.prog Try.f8 false true false false) := by
  refine returnsInHanded_of_change (C := Try.checked) Try.own started (by kernel_rfl) Try.func8
    (ChangeSpec.witness6 (enc := enc) (C := Try.checked) false ⟨#[], #[.agg #[.slice none 0 0, .int .i64 0, .int .u8 0, .int .u8 0, .int .u8 0, .int .u8 0, .slice none 0 0, .int .i64 0, .int .i64 0, .int .i64 0, .int .i64 0]], []⟩ 8 (by kernel_rfl) (by kernel_rfl) (by kernel_rfl) (by kernel_rfl)) ?_
  intro W base args ds gs before hval hW hcnd _
  have hval' : ∀ (j : Nat) (t : TypeId) (v : Value), Try.f8.params.toList[j]? = some t → args[j]? = some v → Value.okWide Try.prog W .any base t v := fun j t v h1 h2 => hval j t v (by simpa using h1) h2
  obtain ⟨p, q, hA, hV, hpq, _, _⟩ := id hW
  have hg : gtsB Try.prog [gAsk] Try.f8.params.toList = true := by kernel_rfl
  refine (law_calls' tab_ok hg queryNeeds_law hval' hA).mono fun e W' ⟨he, hb⟩ => ?_
  subst he
  refine ⟨_, rfl, post_true Try.laidOut (rt := 4) (fun ds h => ?_) rfl (by kernel_rfl) (by kernel_rfl) (by kernel_rfl) hW hb⟩
  match ds, h with
  | [_], _ => rfl
theorem queryNeeds_holds : Rows.QueryNeedsSaid :=
  OpenClaim.holds_of_wide 8 Try.f8 rfl rfl rfl rfl rfl rfl rfl ⟨rfl, rfl, rfl, rfl, rfl⟩ rfl rfl rfl rfl rfl (by kernel_rfl) Try.func8 (by kernel_rfl)
    (of_decide_eq_true (by kernel_rfl)) (by unfold Func.isWrapper; first | (rw [if_pos (by decide +kernel)]; kernel_rfl) | (rw [if_neg (by decide +kernel)]; exact ⟨rfl, rfl⟩))
    (fun os started H enc _ => queryNeeds_lifted os started H enc)
end Go.Proofs.Ytambpbcdnhekbaa
