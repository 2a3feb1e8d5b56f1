/- Carried twice is carried once; to its own node a place is itself; in the whole all are one. -/
import Derived.Test.YtafjljlcdfccjaaLiftCom
import Derived.Test.YtafjljlcdfccjaaLatLem
set_option linter.unusedSimpArgs false
set_option linter.unusedVariables false
set_option maxHeartbeats 4000000
set_option maxRecDepth 100000
namespace Go.Proofs.Ytafjljlcdfccjaa
open Go.Ev
theorem toOk_of {ds : List Dm} {m : Int} {f t a : List Int} (h1 : rightC ds m f a = true) (h2 : goodN ds m t = true) (h3 : belowN f t = true) : toOk ds m f t a = true := by
  simp [toOk, h1, h2, h3]
theorem below_meet1 {v w : List Int} (hv : okN v) (hw : okN w) : belowN (meetN v w) v = true :=
  belowN_of (ok_meet hv hw) hv fun i hi => by rw [gI_meet hv hw hi]; omega
theorem below_trans {u v w : List Int} (hu : okN u) (hv : okN v) (hw : okN w) (h1 : belowN u v = true) (h2 : belowN v w = true) : belowN u w = true :=
  belowN_of hu hw fun i hi => Int.le_trans (belowN_at hu hv h1 hi) (belowN_at hv hw h2 hi)
theorem below_self {v : List Int} (hv : okN v) : belowN v v = true := belowN_of hv hv fun i _ => Int.le_refl _
theorem toL_congr {ds : List Dm} {f t a f' t' a' : List Int} (h : ∀ i, i < ds.length → toI ds f t a i = toI ds f' t' a' i) : toL ds f t a ds.length = toL ds f' t' a' ds.length := by
  have hj : ∀ i, toJ ds f t a ds.length i = toJ ds f' t' a' ds.length i := fun i => by
    unfold toJ
    by_cases c : i < ds.length
    · rw [if_pos c, if_pos c, h i c]
    · rw [if_neg c, if_neg c]
  simp only [toL, hj]
theorem to_twice {ds : List Dm} {m : Int} {a b c p : List Int} (ha : okN a) (hb : okN b) (hc : okN c) (hp : okN p) (h1 : toOk ds m a b p = true) (h2 : toOk ds m b c (toP ds m a b p) = true) (h3 : toOk ds m a c p = true) :
    toP ds m b c (toP ds m a b p) = toP ds m a c p := by
  have hl := goodC_len (rightC_good (show rightC ds m a p = true by unfold toOk at h1; simp only [Bool.and_eq_true] at h1; exact h1.1))
  rw [toP_eq h2, toP_eq h3]
  refine toL_congr fun i hi => ?_
  have hi4 : i < 4 := by omega
  have hy : gI (toP ds m a b p) i = toI ds a b p i := by
    rw [toP_eq h1, gI_toL ds a b p _ hi4]
    unfold toJ
    rw [if_pos hi]
  unfold toOk at h1 h2
  simp only [Bool.and_eq_true] at h1 h2
  have g := rightC_good h1.1
  have q1 := belowN_at ha hb h1.2.2 hi4
  have q2 := belowN_at hb hc h2.2.2 hi4
  have q3 := goodN_at h2.2.1 hc hi
  have k1 := ha.at hi4
  have k2 := hb.at hi4
  have k3 := hc.at hi4
  unfold byte at k1 k2 k3
  unfold toI at hy ⊢
  rw [hy]
  exact liftD_comp _ (by omega) (by omega) (by omega)
theorem to_self {ds : List Dm} {m : Int} {a p : List Int} (ha : okN a) (hp : okN p) (h : toOk ds m a a p = true) : toP ds m a a p = p := by
  have h' := h
  unfold toOk at h'
  simp only [Bool.and_eq_true] at h'
  have g := rightC_good h'.1
  have hl := goodC_len g
  have key : ∀ i, i < 4 → toJ ds a a p ds.length i = gI p i := fun i hi4 => by
    unfold toJ
    by_cases c : i < ds.length
    · rw [if_pos c]
      have k1 := ha.at hi4
      have k2 := hp.at hi4
      unfold byte at k1 k2
      have q := goodN_at h'.2.1 ha c
      have hs := rightC_at h'.1 c
      exact liftD_self (goodC_at g c) (by omega) k2.1 (by rw [Int.toNat_of_nonneg k1.1]; exact hs)
    · rw [if_neg c, (rightC_out h'.1 c hi4).2]
  rw [toP_eq h]
  unfold toL
  rw [key 0 (by omega), key 1 (by omega), key 2 (by omega), key 3 (by omega), ← list4 hp.1]
theorem to_whole {ds : List Dm} {m : Int} {a p : List Int} (h : toOk ds m a (wholeN ds m) p = true) : toP ds m a (wholeN ds m) p = zero4 := by
  have h' := h
  unfold toOk at h'
  simp only [Bool.and_eq_true] at h'
  have g := rightC_good h'.1
  have hl := goodC_len g
  have key : ∀ i, i < 4 → toJ ds a (wholeN ds m) p ds.length i = 0 := fun i hi4 => by
    unfold toJ
    by_cases c : i < ds.length
    · rw [if_pos c]
      have e : gI (wholeN ds m) i = ((gD ds i).S.length : Int) := by
        have e : (wOf ds i : Int) = ((gD ds i).S.length : Int) := by unfold wOf; rw [if_pos c]
        rw [← e]
        unfold wholeN
        rw [if_pos g]
        have : i = 0 ∨ i = 1 ∨ i = 2 ∨ i = 3 := by omega
        rcases this with rfl | rfl | rfl | rfl <;> rfl
      unfold toI liftD
      rw [e, Int.toNat_natCast, if_pos rfl]
    · rw [if_neg c]
  rw [toP_eq h]
  unfold toL
  rw [key 0 (by omega), key 1 (by omega), key 2 (by omega), key 3 (by omega)]
  rfl
theorem liftTwice_ev (ds : List Dm) (m : Int) (u v w p : List Int) (hC : okC ds) (hu : okN u) (hv : okN v) (hw : okN w) (hp : okN p) :
    cvF tab 4 [wayV ds m u v w p] = some (.bool true) := by
  refine cvFA_R (mf := Mf.f4) rfl rfl (by kernel_rfl) ?_
  simp only [Mf.f4]
  have hb := ok_meet hu hv
  have ha := ok_meet hb hw
  have e1 := rmeet_ev u v hu hv
  have e2 := rmeet_ev _ w hb hw
  have e3 := rGood_ev ds m u hC hu
  have e4 := rGood_ev ds m v hC hv
  have e5 := rright_ev ds m _ p hC ha hp
  have e6 := rwhole_ev ds m hC
  have hwh := ok_whole ds m
  have b1 := below_meet1 hu hv
  have b2 := below_meet1 hb hw
  have b3 := below_trans ha hb hu b2 b1
  have b4 := below_self ha
  have gb := fun gu gv => good_meet (ds := ds) (m := m) gu gv hu hv
  have t1 := To_ev ds m (meetN (meetN u v) w) (meetN u v) p hC ha hb hp
  have hyok := toP_ok (ds := ds) (m := m) ha hb hp
  have t2 := To_ev ds m (meetN u v) u _ hC hb hu hyok
  have t3 := To_ev ds m (meetN (meetN u v) w) u p hC ha hu hp
  have t4 := To_ev ds m (meetN (meetN u v) w) (meetN (meetN u v) w) p hC ha ha hp
  have t5 := To_ev ds m (meetN (meetN u v) w) (wholeN ds m) p hC ha hwh hp
  have s1 := fun h1 h2 h3 => to_twice (ds := ds) (m := m) ha hb hu hp h1 h2 h3
  have s2 := fun h => to_self (ds := ds) (m := m) ha hp h
  have s3 := fun h => to_whole (ds := ds) (m := m) (a := meetN (meetN u v) w) (p := p) h
  have s4 := fun h => toP_right (ds := ds) (m := m) ha hb hp h
  have bw := fun (gn : goodN ds m (meetN (meetN u v) w) = true) => belowN_of ha hwh fun i hi => by
    have g := goodN_good gn
    have h := (goodN_iff g ha).1 gn
    unfold wholeN
    rw [if_pos g]
    have : i = 0 ∨ i = 1 ∨ i = 2 ∨ i = 3 := by omega
    rcases this with rfl | rfl | rfl | rfl
    · exact h.1
    · exact h.2.1
    · exact h.2.2.1
    · exact h.2.2.2
  have nd := fun (h : rightC ds m (meetN (meetN u v) w) p = true) => rightC_node h ha hp
  have gwh := fun (h : rightC ds m (meetN (meetN u v) w) p = true) => good_whole (rightC_good h)
  have wz : toP ds m (meetN u v) u (toP ds m (meetN (meetN u v) w) (meetN u v) p) = toP ds m (meetN u v) u (toP ds m (meetN (meetN u v) w) (meetN u v) p) := rfl
  have l2 := toP_ok (ds := ds) (m := m) hb hu hyok
  generalize meetN (meetN u v) w = a at *
  generalize meetN u v = b at *
  generalize wholeN ds m = wh at *
  cases gu : goodN ds m u with
  | false =>
    obtain ⟨u0, u1, u2, u3, rfl, -, -, -, -⟩ := four hu
    obtain ⟨v0, v1, v2, v3, rfl, -, -, -, -⟩ := four hv
    obtain ⟨w0, w1, w2, w3, rfl, -, -, -, -⟩ := four hw
    obtain ⟨p0, p1, p2, p3, rfl, -, -, -, -⟩ := four hp
    obtain ⟨a0, a1, a2, a3, rfl, -, -, -, -⟩ := four ha
    obtain ⟨x0, x1, x2, x3, rfl, -, -, -, -⟩ := four hb
    rw [gu] at e3
    simp only [List.map] at e1 e2 e3
    simp [beqI, bneI, mm_min2, mm_max2, mm_min3, mm_max3, startE, lkE, lkX, lkE_rest, sx, substE, opVA, objs0, List.replicate, XA_seq, XA_region, XOA_go, goE_someA, opV, ev, putA, layAll, XOA_nil, XA_skip_seq, XA_skip_nil, XOA_gd, goG_tA, goG_uA, binV, binInt, unV, XA_ret_nil, XA_ret_cons, endFA_r, endFA_n, endTA_r, endTA_n, endRA_r, endRA_n, fltR, resultsA, resAs, resA, XA_block, XA_cond, pickX_t, pickX_f, pickX_b, XA_skip_blk, XA_skip_lp, XA_exit_seq, XA_exit_lp, XA_exit_blk, XA_exit_nil, load1, Ev.loadCells, objCells, bodyCells, setCells, AV.flat, AV.flat1, backR, backV, backCell, mapO, AV.cells, AV.atom, AV.tree, fillV, repeatL, treeCell, freezeAll, eqCells, callV_T, callV_F, passV, passCell, srcCells, sliceBounds, hiB, loB, thenQ_nA, thenQ_xA, thenQ_rA, runK_nA, runK_xA, runK_rA, wrap_i64, wrap_u64, wrap_u32, wrap_u8, wrap_u16, wayV, e1, e2, e3, wakes_ev]
  | true =>
    cases gv : goodN ds m v with
    | false =>
      obtain ⟨u0, u1, u2, u3, rfl, -, -, -, -⟩ := four hu
      obtain ⟨v0, v1, v2, v3, rfl, -, -, -, -⟩ := four hv
      obtain ⟨w0, w1, w2, w3, rfl, -, -, -, -⟩ := four hw
      obtain ⟨p0, p1, p2, p3, rfl, -, -, -, -⟩ := four hp
      obtain ⟨a0, a1, a2, a3, rfl, -, -, -, -⟩ := four ha
      obtain ⟨x0, x1, x2, x3, rfl, -, -, -, -⟩ := four hb
      rw [gu] at e3
      rw [gv] at e4
      simp only [List.map] at e1 e2 e3 e4
      simp [beqI, bneI, mm_min2, mm_max2, mm_min3, mm_max3, startE, lkE, lkX, lkE_rest, sx, substE, opVA, objs0, List.replicate, XA_seq, XA_region, XOA_go, goE_someA, opV, ev, putA, layAll, XOA_nil, XA_skip_seq, XA_skip_nil, XOA_gd, goG_tA, goG_uA, binV, binInt, unV, XA_ret_nil, XA_ret_cons, endFA_r, endFA_n, endTA_r, endTA_n, endRA_r, endRA_n, fltR, resultsA, resAs, resA, XA_block, XA_cond, pickX_t, pickX_f, pickX_b, XA_skip_blk, XA_skip_lp, XA_exit_seq, XA_exit_lp, XA_exit_blk, XA_exit_nil, load1, Ev.loadCells, objCells, bodyCells, setCells, AV.flat, AV.flat1, backR, backV, backCell, mapO, AV.cells, AV.atom, AV.tree, fillV, repeatL, treeCell, freezeAll, eqCells, callV_T, callV_F, passV, passCell, srcCells, sliceBounds, hiB, loB, thenQ_nA, thenQ_xA, thenQ_rA, runK_nA, runK_xA, runK_rA, wrap_i64, wrap_u64, wrap_u32, wrap_u8, wrap_u16, wayV, e1, e2, e3, e4, wakes_ev]
    | true =>
      cases gr : rightC ds m a p with
      | false =>
        obtain ⟨u0, u1, u2, u3, rfl, -, -, -, -⟩ := four hu
        obtain ⟨v0, v1, v2, v3, rfl, -, -, -, -⟩ := four hv
        obtain ⟨w0, w1, w2, w3, rfl, -, -, -, -⟩ := four hw
        obtain ⟨p0, p1, p2, p3, rfl, -, -, -, -⟩ := four hp
        obtain ⟨a0, a1, a2, a3, rfl, -, -, -, -⟩ := four ha
        obtain ⟨x0, x1, x2, x3, rfl, -, -, -, -⟩ := four hb
        rw [gu] at e3
        rw [gv] at e4
        rw [gr] at e5
        simp only [List.map] at e1 e2 e3 e4 e5
        simp [beqI, bneI, mm_min2, mm_max2, mm_min3, mm_max3, startE, lkE, lkX, lkE_rest, sx, substE, opVA, objs0, List.replicate, XA_seq, XA_region, XOA_go, goE_someA, opV, ev, putA, layAll, XOA_nil, XA_skip_seq, XA_skip_nil, XOA_gd, goG_tA, goG_uA, binV, binInt, unV, XA_ret_nil, XA_ret_cons, endFA_r, endFA_n, endTA_r, endTA_n, endRA_r, endRA_n, fltR, resultsA, resAs, resA, XA_block, XA_cond, pickX_t, pickX_f, pickX_b, XA_skip_blk, XA_skip_lp, XA_exit_seq, XA_exit_lp, XA_exit_blk, XA_exit_nil, load1, Ev.loadCells, objCells, bodyCells, setCells, AV.flat, AV.flat1, backR, backV, backCell, mapO, AV.cells, AV.atom, AV.tree, fillV, repeatL, treeCell, freezeAll, eqCells, callV_T, callV_F, passV, passCell, srcCells, sliceBounds, hiB, loB, thenQ_nA, thenQ_xA, thenQ_rA, runK_nA, runK_xA, runK_rA, wrap_i64, wrap_u64, wrap_u32, wrap_u8, wrap_u16, wayV, e1, e2, e3, e4, e5, wakes_ev]
      | true =>
        have gb := gb gu gv
        have k1 := toOk_of gr gb b2
        have k2 := toOk_of (s4 k1) gu b1
        have k3 := toOk_of gr gu b3
        have k4 := toOk_of gr (nd gr) b4
        have k5 := toOk_of gr (gwh gr) (bw (nd gr))
        have s1 := s1 k1 k2 k3
        have s2 := s2 k4
        have s3 := s3 k5
        rw [gu] at e3
        rw [gv] at e4
        rw [gr] at e5
        rw [k1] at t1
        rw [k2, s1] at t2
        rw [k3] at t3
        rw [k4, s2] at t4
        rw [k5, s3] at t5
        rw [s1] at l2
        generalize toP ds m a b p = y at *
        generalize toP ds m a u p = z at *
        obtain ⟨u0, u1, u2, u3, rfl, -, -, -, -⟩ := four hu
        obtain ⟨v0, v1, v2, v3, rfl, -, -, -, -⟩ := four hv
        obtain ⟨w0, w1, w2, w3, rfl, -, -, -, -⟩ := four hw
        obtain ⟨p0, p1, p2, p3, rfl, -, -, -, -⟩ := four hp
        obtain ⟨a0, a1, a2, a3, rfl, -, -, -, -⟩ := four ha
        obtain ⟨x0, x1, x2, x3, rfl, -, -, -, -⟩ := four hb
        obtain ⟨y0, y1, y2, y3, rfl, -, -, -, -⟩ := four hyok
        obtain ⟨z0, z1, z2, z3, rfl, -, -, -, -⟩ := four l2
        obtain ⟨h0, h1, h2, h3, rfl, -, -, -, -⟩ := four hwh
        simp only [List.map, zero4] at e1 e2 e3 e4 e5 e6 t1 t2 t3 t4 t5
        simp [beqI, bneI, mm_min2, mm_max2, mm_min3, mm_max3, startE, lkE, lkX, lkE_rest, sx, substE, opVA, objs0, List.replicate, XA_seq, XA_region, XOA_go, goE_someA, opV, ev, putA, layAll, XOA_nil, XA_skip_seq, XA_skip_nil, XOA_gd, goG_tA, goG_uA, binV, binInt, unV, XA_ret_nil, XA_ret_cons, endFA_r, endFA_n, endTA_r, endTA_n, endRA_r, endRA_n, fltR, resultsA, resAs, resA, XA_block, XA_cond, pickX_t, pickX_f, pickX_b, XA_skip_blk, XA_skip_lp, XA_exit_seq, XA_exit_lp, XA_exit_blk, XA_exit_nil, load1, Ev.loadCells, objCells, bodyCells, setCells, AV.flat, AV.flat1, backR, backV, backCell, mapO, AV.cells, AV.atom, AV.tree, fillV, repeatL, treeCell, freezeAll, eqCells, callV_T, callV_F, passV, passCell, srcCells, sliceBounds, hiB, loB, thenQ_nA, thenQ_xA, thenQ_rA, runK_nA, runK_xA, runK_rA, wrap_i64, wrap_u64, wrap_u32, wrap_u8, wrap_u16, wayV, e1, e2, e3, e4, e5, e6, t1, t2, t3, t4, t5, wakes_ev]
theorem liftTwice_law (l : List AV) (h : RDargs [gWay] l) : ∃ H1, cfT tab 4 l [] = some (.bool true, H1) := by
  obtain ⟨x, r, rfl, hx, rfl⟩ := h
  obtain ⟨ds, m, u, v, w, a, rfl, hC, hu, hv, hw, ha⟩ := rdarg_way hx
  exact cvF_bool (liftTwice_ev ds m u v w a hC hu hv hw ha)
theorem liftTwice_lifted (os : Os) (started : os.Started) (H : Type) (enc : TypeId × Value → H) :
    ReturnsInHanded {} Try.checked os 4 .any (Rows.liftTwiceSpec.pre6 enc Try.prog Try.f4 Rows.liftTwiceRow.domain false) (Rows.liftTwiceSpec.post enc Try.prog Try.f4 false true false false) := by
  refine returnsInHanded_of_change (C := Try.checked) Try.own started (by kernel_rfl) Try.func4
    (ChangeSpec.witness6 (enc := enc) (C := Try.checked) false ⟨#[], #[.agg #[.slice none 0 0, .int .i64 0, .int .u8 0, .int .u8 0, .int .u8 0, .int .u8 0, .int .u8 0, .int .u8 0, .int .u8 0, .int .u8 0, .int .u8 0, .int .u8 0, .int .u8 0, .int .u8 0, .int .u8 0, .int .u8 0, .int .u8 0, .int .u8 0]], []⟩ 8 (by kernel_rfl) (by kernel_rfl) (by kernel_rfl) (by kernel_rfl)) ?_
  intro W base args ds gs before hval hW hcnd _
  have hval' : ∀ (j : Nat) (t : TypeId) (v : Value), Try.f4.params.toList[j]? = some t → args[j]? = some v → Value.okWide Try.prog W .any base t v := fun j t v h1 h2 => hval j t v (by simpa using h1) h2
  obtain ⟨p, q, hA, hV, hpq, _, _⟩ := id hW
  have hg : gtsB Try.prog [gWay] Try.f4.params.toList = true := by kernel_rfl
  refine (law_calls' tab_ok hg liftTwice_law hval' hA).mono fun e W' ⟨he, hb⟩ => ?_
  subst he
  refine ⟨_, rfl, post_true Try.laidOut (rt := 4) (fun ds h => ?_) rfl (by kernel_rfl) (by kernel_rfl) (by kernel_rfl) hW hb⟩
  match ds, h with
  | [_], _ => rfl
theorem liftTwice_holds : Rows.LiftTwiceSaid :=
  OpenClaim.holds_of_wide 4 Try.f4 rfl rfl rfl rfl rfl rfl rfl ⟨rfl, rfl, rfl, rfl, rfl⟩ rfl rfl rfl rfl rfl (by kernel_rfl) Try.func4 (by kernel_rfl)
    (of_decide_eq_true (by kernel_rfl)) (by unfold Func.isWrapper; first | (rw [if_pos (by decide +kernel)]; kernel_rfl) | (rw [if_neg (by decide +kernel)]; exact ⟨rfl, rfl⟩))
    (fun os started H enc _ => liftTwice_lifted os started H enc)
end Go.Proofs.Ytafjljlcdfccjaa
