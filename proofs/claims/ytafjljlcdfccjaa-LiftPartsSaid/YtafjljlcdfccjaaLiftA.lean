/- Places carried from finer nodes to coarser ones: To, Within. -/
import Derived.Test.YtafjljlcdfccjaaLatRef
import Derived.Test.YtafjljlcdfccjaaHierRef
import Derived.Test.YtafjljlcdfccjaaHierLem
set_option linter.unusedSimpArgs false
set_option linter.unusedVariables false
set_option maxHeartbeats 4000000
set_option maxRecDepth 100000
namespace Go.Proofs.Ytafjljlcdfccjaa
open Go.Ev
theorem passN {v : List Int} (hv : okN v) (H : List AObj) (fz : List Nat) : mapO (passCell H [] fz) (v.map (.int .u8)) = some (v.map (.int .u8)) := by
  obtain ⟨a, b, c, d, rfl, -, -, -, -⟩ := four hv
  simp [mapO, passCell]
theorem take4 {v : List Int} (hv : okN v) : List.take 4 (v.map (AV.int .u8)) = v.map (.int .u8) := by
  rw [List.take_of_length_le]
  simp [hv.1]
theorem len4 {v : List Int} (hv : okN v) : (v.map (AV.int .u8)).length = 4 := by simp [hv.1]
theorem belowN_at {v w : List Int} (hv : okN v) (hw : okN w) (h : belowN v w = true) {i : Nat} (hi : i < 4) : gI v i ≤ gI w i := by
  obtain ⟨a, b, c, d, rfl, -, -, -, -⟩ := four hv
  obtain ⟨a', b', c', d', rfl, -, -, -, -⟩ := four hw
  simp [belowN] at h
  have : i = 0 ∨ i = 1 ∨ i = 2 ∨ i = 3 := by omega
  rcases this with rfl | rfl | rfl | rfl
  · exact h.1
  · exact h.2.1
  · exact h.2.2.1
  · exact h.2.2.2
theorem goodN_at {ds : List Dm} {m : Int} {v : List Int} (g : goodN ds m v = true) (hv : okN v) {i : Nat} (hi : i < ds.length) : gI v i ≤ ((gD ds i).S.length : Int) := by
  have gc := goodN_good g
  have hl := goodC_len gc
  have h := (goodN_iff gc hv).1 g
  have hw : gI v i ≤ (wOf ds i : Int) := by
    have : i = 0 ∨ i = 1 ∨ i = 2 ∨ i = 3 := by omega
    rcases this with rfl | rfl | rfl | rfl
    · exact h.1
    · exact h.2.1
    · exact h.2.2.1
    · exact h.2.2.2
  unfold wOf at hw
  rw [if_pos hi] at hw
  exact hw
theorem rightC_good {ds : List Dm} {m : Int} {v a : List Int} (h : rightC ds m v a = true) : goodC ds m = true := by
  unfold rightC at h
  simp only [Bool.and_eq_true] at h
  exact h.1
theorem rightC_at {ds : List Dm} {m : Int} {v a : List Int} (h : rightC ds m v a = true) {i : Nat} (hi : i < ds.length) : gI a i < sizeD (gD ds i).S (gD ds i).U (gI v i) := by
  have hl := goodC_len (rightC_good h)
  unfold rightC at h
  simp only [Bool.and_eq_true, List.all_eq_true, List.mem_range] at h
  have := h.2 i (by omega)
  unfold rightAt at this
  rw [if_pos hi, decide_eq_true_eq] at this
  exact this
theorem rightC_out {ds : List Dm} {m : Int} {v a : List Int} (h : rightC ds m v a = true) {i : Nat} (hi : ¬ i < ds.length) (h4 : i < 4) : gI v i = 0 ∧ gI a i = 0 := by
  unfold rightC at h
  simp only [Bool.and_eq_true, List.all_eq_true, List.mem_range] at h
  have := h.2 i h4
  unfold rightAt at this
  rw [if_neg hi] at this
  simpa using this
theorem rightC_node {ds : List Dm} {m : Int} {v a : List Int} (h : rightC ds m v a = true) (hv : okN v) (ha : okN a) : goodN ds m v = true := by
  have g := rightC_good h
  unfold goodN rightC
  rw [g, Bool.true_and, List.all_eq_true]
  intro i hi
  rw [List.mem_range] at hi
  have hz : gI zero4 i = 0 := by
    have : i = 0 ∨ i = 1 ∨ i = 2 ∨ i = 3 := by omega
    rcases this with rfl | rfl | rfl | rfl <;> rfl
  have hb := ha.at hi
  unfold byte at hb
  unfold rightAt
  rw [hz]
  by_cases c : i < ds.length
  · have := rightC_at h c
    rw [if_pos c, decide_eq_true_eq]
    omega
  · have := rightC_out h c hi
    rw [if_neg c, this.1]
    rfl
/-- Where a place's number lies. -/
def toI (ds : List Dm) (f t a : List Int) (i : Nat) : Int := liftD (gD ds i).S (gD ds i).U (gI f i).toNat (gI t i).toNat (gI a i)
def toJ (ds : List Dm) (f t a : List Int) (n i : Nat) : Int := if i < n then toI ds f t a i else 0
def toL (ds : List Dm) (f t a : List Int) (n : Nat) : List Int := [toJ ds f t a n 0, toJ ds f t a n 1, toJ ds f t a n 2, toJ ds f t a n 3]
def toOk (ds : List Dm) (m : Int) (f t a : List Int) : Bool := rightC ds m f a && (goodN ds m t && belowN f t)
def toP (ds : List Dm) (m : Int) (f t a : List Int) : List Int := if toOk ds m f t a = true then toL ds f t a ds.length else zero4
theorem lift_at {ds : List Dm} {m : Int} {f t a : List Int} (hf : okN f) (ht : okN t) (ha : okN a) (h : toOk ds m f t a = true) {i : Nat} (hi : i < ds.length) :
    liftOk (gD ds i).S (gD ds i).U (gI f i) (gI t i) (gI a i) = true ∧ 0 ≤ toI ds f t a i ∧ toI ds f t a i < sizeD (gD ds i).S (gD ds i).U (gI t i) := by
  unfold toOk at h
  simp only [Bool.and_eq_true] at h
  obtain ⟨h1, h2, h3⟩ := h
  have g := rightC_good h1
  have hl := goodC_len g
  have hi4 : i < 4 := by omega
  have gd := goodC_at g hi
  have bf := hf.at hi4
  have bt := ht.at hi4
  have ba := ha.at hi4
  unfold byte at bf bt ba
  have hbel := belowN_at hf ht h3 hi4
  have htop := goodN_at h2 ht hi
  have hsz := rightC_at h1 hi
  refine ⟨liftOk_of gd bf.1 hbel htop ba.1 hsz, ?_⟩
  have := liftD_in gd (a := (gI f i).toNat) (b := (gI t i).toNat) (m := gI a i) (by omega) (by omega) ba.1 (by rw [Int.toNat_of_nonneg bf.1]; exact hsz)
  rw [Int.toNat_of_nonneg bt.1] at this
  exact this
theorem toL_set {ds : List Dm} {f t a : List Int} {i : Nat} (hi : i < 4) : (toL ds f t a i).set i (toI ds f t a i) = toL ds f t a (i + 1) := by
  have : i = 0 ∨ i = 1 ∨ i = 2 ∨ i = 3 := by omega
  rcases this with rfl | rfl | rfl | rfl <;> simp [toL, toJ]
theorem toL_map {ds : List Dm} {f t a : List Int} {i : Nat} (hi : i < 4) : List.take i ((toL ds f t a i).map (AV.int .u8)) ++ AV.int .u8 (toI ds f t a i) :: List.drop (i + 1) ((toL ds f t a i).map (AV.int .u8)) = (toL ds f t a (i + 1)).map (.int .u8) := by
  rw [← toL_set hi, List.map_set, List.set_eq_take_append_cons_drop, if_pos (by simp [toL]; omega)]
theorem To_ev (ds : List Dm) (m : Int) (f t a : List Int) (hC : okC ds) (hf : okN f) (ht : okN t) (ha : okN a) :
    cvF tab 11 [.agg [.ro ds.length (flatD ds), .int .i64 m], .agg (f.map (.int .u8)), .agg (t.map (.int .u8)), .agg (a.map (.int .u8))] = some (.tup [.agg ((toP ds m f t a).map (.int .u8)), .bool (toOk ds m f t a)]) := by
  refine cvFA_R (mf := Mf.f11) rfl rfl (by kernel_rfl) ?_
  simp only [Mf.f11]
  have e1 := sright_ev ds m f a hC hf ha
  have e2 := lgood_ev ds m t hC ht
  have e3 := below_ev f t hf ht
  have pf := passN hf
  have pt := passN ht
  have pa := passN ha
  have tf := take4 hf
  have tt := take4 ht
  have ta := take4 ha
  have lf := hf.1
  have lt := ht.1
  have la := ha.1
  cases c1 : rightC ds m f a with
  | false =>
    have hk : toOk ds m f t a = false := by simp [toOk, c1]
    rw [c1] at e1
    simp [beqI, bneI, mm_min2, mm_max2, mm_min3, mm_max3, startE, lkE, lkX, lkE_rest, sx, substE, opVA, objs0, List.replicate, XA_seq, XA_region, XOA_go, goE_someA, opV, ev, putA, layAll, XOA_nil, XA_skip_seq, XA_skip_nil, XOA_gd, goG_tA, goG_uA, binV, binInt, unV, XA_ret_nil, XA_ret_cons, endFA_r, endFA_n, endTA_r, endTA_n, endRA_r, endRA_n, fltR, resultsA, resAs, resA, XA_block, XA_cond, pickX_t, pickX_f, pickX_b, XA_skip_blk, XA_skip_lp, XA_exit_seq, XA_exit_lp, XA_exit_blk, XA_exit_nil, load1, Ev.loadCells, objCells, bodyCells, setCells, AV.flat, AV.flat1, backR, backV, backCell, mapO, AV.cells, AV.atom, AV.tree, fillV, repeatL, treeCell, freezeAll, eqCells, callV_T, callV_F, passV, passCell, srcCells, sliceBounds, hiB, loB, thenQ_nA, thenQ_xA, thenQ_rA, runK_nA, runK_xA, runK_rA, wrap_i64, wrap_u64, wrap_u32, wrap_u8, wrap_u16, e1, lf, la, pf, pa, tf, ta, hk, toP, zero4]
  | true =>
    rw [c1] at e1
    cases c2 : goodN ds m t with
    | false =>
      have hk : toOk ds m f t a = false := by simp [toOk, c2]
      rw [c2] at e2
      simp [beqI, bneI, mm_min2, mm_max2, mm_min3, mm_max3, startE, lkE, lkX, lkE_rest, sx, substE, opVA, objs0, List.replicate, XA_seq, XA_region, XOA_go, goE_someA, opV, ev, putA, layAll, XOA_nil, XA_skip_seq, XA_skip_nil, XOA_gd, goG_tA, goG_uA, binV, binInt, unV, XA_ret_nil, XA_ret_cons, endFA_r, endFA_n, endTA_r, endTA_n, endRA_r, endRA_n, fltR, resultsA, resAs, resA, XA_block, XA_cond, pickX_t, pickX_f, pickX_b, XA_skip_blk, XA_skip_lp, XA_exit_seq, XA_exit_lp, XA_exit_blk, XA_exit_nil, load1, Ev.loadCells, objCells, bodyCells, setCells, AV.flat, AV.flat1, backR, backV, backCell, mapO, AV.cells, AV.atom, AV.tree, fillV, repeatL, treeCell, freezeAll, eqCells, callV_T, callV_F, passV, passCell, srcCells, sliceBounds, hiB, loB, thenQ_nA, thenQ_xA, thenQ_rA, runK_nA, runK_xA, runK_rA, wrap_i64, wrap_u64, wrap_u32, wrap_u8, wrap_u16, e1, e2, lf, la, lt, pf, pt, pa, tf, tt, ta, hk, toP, zero4]
    | true =>
      rw [c2] at e2
      cases c3 : belowN f t with
      | false =>
        have hk : toOk ds m f t a = false := by simp [toOk, c3]
        rw [c3] at e3
        simp [beqI, bneI, mm_min2, mm_max2, mm_min3, mm_max3, startE, lkE, lkX, lkE_rest, sx, substE, opVA, objs0, List.replicate, XA_seq, XA_region, XOA_go, goE_someA, opV, ev, putA, layAll, XOA_nil, XA_skip_seq, XA_skip_nil, XOA_gd, goG_tA, goG_uA, binV, binInt, unV, XA_ret_nil, XA_ret_cons, endFA_r, endFA_n, endTA_r, endTA_n, endRA_r, endRA_n, fltR, resultsA, resAs, resA, XA_block, XA_cond, pickX_t, pickX_f, pickX_b, XA_skip_blk, XA_skip_lp, XA_exit_seq, XA_exit_lp, XA_exit_blk, XA_exit_nil, load1, Ev.loadCells, objCells, bodyCells, setCells, AV.flat, AV.flat1, backR, backV, backCell, mapO, AV.cells, AV.atom, AV.tree, fillV, repeatL, treeCell, freezeAll, eqCells, callV_T, callV_F, passV, passCell, srcCells, sliceBounds, hiB, loB, thenQ_nA, thenQ_xA, thenQ_rA, runK_nA, runK_xA, runK_rA, wrap_i64, wrap_u64, wrap_u32, wrap_u8, wrap_u16, e1, e2, e3, lf, la, lt, pf, pt, pa, tf, tt, ta, hk, toP, zero4]
      | true =>
        have hk : toOk ds m f t a = true := by simp [toOk, c1, c2, c3]
        rw [c3] at e3
        have hl := goodC_len (rightC_good c1)
        have hpl : toP ds m f t a = toL ds f t a ds.length := by unfold toP; rw [if_pos hk]
        simp [beqI, bneI, mm_min2, mm_max2, mm_min3, mm_max3, startE, lkE, lkX, lkE_rest, sx, substE, opVA, objs0, List.replicate, XA_seq, XA_region, XOA_go, goE_someA, opV, ev, putA, layAll, XOA_nil, XA_skip_seq, XA_skip_nil, XOA_gd, goG_tA, goG_uA, binV, binInt, unV, XA_ret_nil, XA_ret_cons, endFA_r, endFA_n, endTA_r, endTA_n, endRA_r, endRA_n, fltR, resultsA, resAs, resA, XA_block, XA_cond, pickX_t, pickX_f, pickX_b, XA_skip_blk, XA_skip_lp, XA_exit_seq, XA_exit_lp, XA_exit_blk, XA_exit_nil, load1, Ev.loadCells, objCells, bodyCells, setCells, AV.flat, AV.flat1, backR, backV, backCell, mapO, AV.cells, AV.atom, AV.tree, fillV, repeatL, treeCell, freezeAll, eqCells, callV_T, callV_F, passV, passCell, srcCells, sliceBounds, hiB, loB, thenQ_nA, thenQ_xA, thenQ_rA, runK_nA, runK_xA, runK_rA, wrap_i64, wrap_u64, wrap_u32, wrap_u8, wrap_u16, e1, e2, e3, lf, la, lt, pf, pt, pa, tf, tt, ta, hk, hpl]
        refine XA_for (fun i => ⟨[(4, .ptr 0 0 0), (5, .ptr 1 0 0), (6, .ptr 2 0 0), (7, .ptr 3 0 0), (8, .ptr 4 0 0), (10, .ptr 5 0 0), (34, .int .i64 ds.length), (35, .int .i64 i)], [⟨0, .var [.ro ds.length (flatD ds), .int .i64 m]⟩, ⟨0, .var (f.map (.int .u8))⟩, ⟨0, .var (t.map (.int .u8))⟩, ⟨0, .var (a.map (.int .u8))⟩, ⟨0, .var [.int .u8 0, .int .u8 0, .int .u8 0, .int .u8 0]⟩, ⟨0, .var ((toL ds f t a i).map (.int .u8))⟩]⟩)
          (fun _ => True) ds.length 0 (Nat.zero_le _) (by simp [AV.atom, normA, lkE, fixObjs, fixBody, fixV, fixCell, toL, toJ]) trivial ?_ ?_
        · intro i _ hi _
          have hi' : (i : Int) < ds.length := by omega
          have hi4 : i < 4 := by omega
          have hi4' : (i : Int) < 4 := by omega
          obtain ⟨k1, k2, k3⟩ := lift_at hf ht ha hk hi
          have hszr := sizeD_range (gD ds i).S (gD ds i).U (gI t i)
          obtain ⟨hS, hU⟩ := fits_of (hC.at hi)
          have el := Lift_ev (gD ds i).S (gD ds i).U (gI f i) (gI t i) (gI a i) hS hU
          rw [k1, if_pos rfl] at el
          rw [show liftD (gD ds i).S (gD ds i).U (gI f i).toNat (gI t i).toNat (gI a i) = toI ds f t a i from rfl] at el
          simp only [rI, rR] at el
          have bf := hf.at hi4
          have bt := ht.at hi4
          have ba := ha.at hi4
          unfold byte at bf bt ba
          have w1 : IntKind.i64.wrap (gI f i) = gI f i := wrap_i64 (by omega) (by omega)
          have w2 : IntKind.i64.wrap (gI t i) = gI t i := wrap_i64 (by omega) (by omega)
          have w3 : IntKind.i64.wrap (gI a i) = gI a i := wrap_i64 (by omega) (by omega)
          have w4 : IntKind.u8.wrap (toI ds f t a i) = toI ds f t a i := wrap_u8 (by omega) (by omega)
          have hm := toL_map (ds := ds) (f := f) (t := t) (a := a) hi4
          have hll : (toL ds f t a i).length = 4 := rfl
          have hle : i + 1 ≤ 4 := by omega
          generalize toL ds f t a i = tl at *
          simp [beqI, bneI, mm_min2, mm_max2, mm_min3, mm_max3, startE, lkE, lkX, lkE_rest, sx, substE, opVA, objs0, List.replicate, XA_seq, XA_region, XOA_go, goE_someA, opV, ev, putA, layAll, XOA_nil, XA_skip_seq, XA_skip_nil, XOA_gd, goG_tA, goG_uA, binV, binInt, unV, XA_ret_nil, XA_ret_cons, endFA_r, endFA_n, endTA_r, endTA_n, endRA_r, endRA_n, fltR, resultsA, resAs, resA, XA_block, XA_cond, pickX_t, pickX_f, pickX_b, XA_skip_blk, XA_skip_lp, XA_exit_seq, XA_exit_lp, XA_exit_blk, XA_exit_nil, load1, Ev.loadCells, objCells, bodyCells, setCells, AV.flat, AV.flat1, backR, backV, backCell, mapO, AV.cells, AV.atom, AV.tree, fillV, repeatL, treeCell, freezeAll, eqCells, callV_T, callV_F, passV, passCell, srcCells, sliceBounds, hiB, loB, thenQ_nA, thenQ_xA, thenQ_rA, runK_nA, runK_xA, runK_rA, wrap_i64, wrap_u64, wrap_u32, wrap_u8, wrap_u16, AV.atom, normA, lkE, fixObjs, fixBody, fixV, fixCell, hi', hi4', dropD ds i hi, rI, rR, getN hf hi4, getN ht hi4, getN ha hi4, w1, w2, w3, w4, el, hm, hll, hle, wrap_succ i ds.length hi (by omega)]
        · intro _
          simp [beqI, bneI, mm_min2, mm_max2, mm_min3, mm_max3, startE, lkE, lkX, lkE_rest, sx, substE, opVA, objs0, List.replicate, XA_seq, XA_region, XOA_go, goE_someA, opV, ev, putA, layAll, XOA_nil, XA_skip_seq, XA_skip_nil, XOA_gd, goG_tA, goG_uA, binV, binInt, unV, XA_ret_nil, XA_ret_cons, endFA_r, endFA_n, endTA_r, endTA_n, endRA_r, endRA_n, fltR, resultsA, resAs, resA, XA_block, XA_cond, pickX_t, pickX_f, pickX_b, XA_skip_blk, XA_skip_lp, XA_exit_seq, XA_exit_lp, XA_exit_blk, XA_exit_nil, load1, Ev.loadCells, objCells, bodyCells, setCells, AV.flat, AV.flat1, backR, backV, backCell, mapO, AV.cells, AV.atom, AV.tree, fillV, repeatL, treeCell, freezeAll, eqCells, callV_T, callV_F, passV, passCell, srcCells, sliceBounds, hiB, loB, thenQ_nA, thenQ_xA, thenQ_rA, runK_nA, runK_xA, runK_rA, wrap_i64, wrap_u64, wrap_u32, wrap_u8, wrap_u16, AV.atom, normA, lkE, fixObjs, fixBody, fixV, fixCell, toL]
theorem rTo_ev (ds : List Dm) (m : Int) (f t a : List Int) (hC : okC ds) (hf : okN f) (ht : okN t) (ha : okN a) :
    cvF tab 12 [.agg [.ro ds.length (flatD ds), .int .i64 m], .agg (f.map (.int .u8)), .agg (t.map (.int .u8)), .agg (a.map (.int .u8))] = some (.agg ((toP ds m f t a).map (.int .u8) ++ [.bool (toOk ds m f t a)])) := by
  refine cvFA_R (mf := Mf.f12) rfl rfl (by kernel_rfl) ?_
  simp only [Mf.f12]
  have e1 := rright_ev ds m f a hC hf ha
  have e2 := rGood_ev ds m t hC ht
  have e3 := rbelow_ev f t hf ht
  have pf := passN hf
  have pt := passN ht
  have pa := passN ha
  have tf := take4 hf
  have tt := take4 ht
  have ta := take4 ha
  have lf := hf.1
  have lt := ht.1
  have la := ha.1
  cases c1 : rightC ds m f a with
  | false =>
    have hk : toOk ds m f t a = false := by simp [toOk, c1]
    rw [c1] at e1
    simp [beqI, bneI, mm_min2, mm_max2, mm_min3, mm_max3, startE, lkE, lkX, lkE_rest, sx, substE, opVA, objs0, List.replicate, XA_seq, XA_region, XOA_go, goE_someA, opV, ev, putA, layAll, XOA_nil, XA_skip_seq, XA_skip_nil, XOA_gd, goG_tA, goG_uA, binV, binInt, unV, XA_ret_nil, XA_ret_cons, endFA_r, endFA_n, endTA_r, endTA_n, endRA_r, endRA_n, fltR, resultsA, resAs, resA, XA_block, XA_cond, pickX_t, pickX_f, pickX_b, XA_skip_blk, XA_skip_lp, XA_exit_seq, XA_exit_lp, XA_exit_blk, XA_exit_nil, load1, Ev.loadCells, objCells, bodyCells, setCells, AV.flat, AV.flat1, backR, backV, backCell, mapO, AV.cells, AV.atom, AV.tree, fillV, repeatL, treeCell, freezeAll, eqCells, callV_T, callV_F, passV, passCell, srcCells, sliceBounds, hiB, loB, thenQ_nA, thenQ_xA, thenQ_rA, runK_nA, runK_xA, runK_rA, wrap_i64, wrap_u64, wrap_u32, wrap_u8, wrap_u16, e1, lf, la, pf, pa, tf, ta, hk, toP, zero4]
  | true =>
    rw [c1] at e1
    cases c2 : goodN ds m t with
    | false =>
      have hk : toOk ds m f t a = false := by simp [toOk, c2]
      rw [c2] at e2
      simp [beqI, bneI, mm_min2, mm_max2, mm_min3, mm_max3, startE, lkE, lkX, lkE_rest, sx, substE, opVA, objs0, List.replicate, XA_seq, XA_region, XOA_go, goE_someA, opV, ev, putA, layAll, XOA_nil, XA_skip_seq, XA_skip_nil, XOA_gd, goG_tA, goG_uA, binV, binInt, unV, XA_ret_nil, XA_ret_cons, endFA_r, endFA_n, endTA_r, endTA_n, endRA_r, endRA_n, fltR, resultsA, resAs, resA, XA_block, XA_cond, pickX_t, pickX_f, pickX_b, XA_skip_blk, XA_skip_lp, XA_exit_seq, XA_exit_lp, XA_exit_blk, XA_exit_nil, load1, Ev.loadCells, objCells, bodyCells, setCells, AV.flat, AV.flat1, backR, backV, backCell, mapO, AV.cells, AV.atom, AV.tree, fillV, repeatL, treeCell, freezeAll, eqCells, callV_T, callV_F, passV, passCell, srcCells, sliceBounds, hiB, loB, thenQ_nA, thenQ_xA, thenQ_rA, runK_nA, runK_xA, runK_rA, wrap_i64, wrap_u64, wrap_u32, wrap_u8, wrap_u16, e1, e2, lf, la, lt, pf, pt, pa, tf, tt, ta, hk, toP, zero4]
    | true =>
      rw [c2] at e2
      cases c3 : belowN f t with
      | false =>
        have hk : toOk ds m f t a = false := by simp [toOk, c3]
        rw [c3] at e3
        simp [beqI, bneI, mm_min2, mm_max2, mm_min3, mm_max3, startE, lkE, lkX, lkE_rest, sx, substE, opVA, objs0, List.replicate, XA_seq, XA_region, XOA_go, goE_someA, opV, ev, putA, layAll, XOA_nil, XA_skip_seq, XA_skip_nil, XOA_gd, goG_tA, goG_uA, binV, binInt, unV, XA_ret_nil, XA_ret_cons, endFA_r, endFA_n, endTA_r, endTA_n, endRA_r, endRA_n, fltR, resultsA, resAs, resA, XA_block, XA_cond, pickX_t, pickX_f, pickX_b, XA_skip_blk, XA_skip_lp, XA_exit_seq, XA_exit_lp, XA_exit_blk, XA_exit_nil, load1, Ev.loadCells, objCells, bodyCells, setCells, AV.flat, AV.flat1, backR, backV, backCell, mapO, AV.cells, AV.atom, AV.tree, fillV, repeatL, treeCell, freezeAll, eqCells, callV_T, callV_F, passV, passCell, srcCells, sliceBounds, hiB, loB, thenQ_nA, thenQ_xA, thenQ_rA, runK_nA, runK_xA, runK_rA, wrap_i64, wrap_u64, wrap_u32, wrap_u8, wrap_u16, e1, e2, e3, lf, la, lt, pf, pt, pa, tf, tt, ta, hk, toP, zero4]
      | true =>
        have hk : toOk ds m f t a = true := by simp [toOk, c1, c2, c3]
        rw [c3] at e3
        have hl := goodC_len (rightC_good c1)
        have hpl : toP ds m f t a = toL ds f t a ds.length := by unfold toP; rw [if_pos hk]
        simp [beqI, bneI, mm_min2, mm_max2, mm_min3, mm_max3, startE, lkE, lkX, lkE_rest, sx, substE, opVA, objs0, List.replicate, XA_seq, XA_region, XOA_go, goE_someA, opV, ev, putA, layAll, XOA_nil, XA_skip_seq, XA_skip_nil, XOA_gd, goG_tA, goG_uA, binV, binInt, unV, XA_ret_nil, XA_ret_cons, endFA_r, endFA_n, endTA_r, endTA_n, endRA_r, endRA_n, fltR, resultsA, resAs, resA, XA_block, XA_cond, pickX_t, pickX_f, pickX_b, XA_skip_blk, XA_skip_lp, XA_exit_seq, XA_exit_lp, XA_exit_blk, XA_exit_nil, load1, Ev.loadCells, objCells, bodyCells, setCells, AV.flat, AV.flat1, backR, backV, backCell, mapO, AV.cells, AV.atom, AV.tree, fillV, repeatL, treeCell, freezeAll, eqCells, callV_T, callV_F, passV, passCell, srcCells, sliceBounds, hiB, loB, thenQ_nA, thenQ_xA, thenQ_rA, runK_nA, runK_xA, runK_rA, wrap_i64, wrap_u64, wrap_u32, wrap_u8, wrap_u16, e1, e2, e3, lf, la, lt, pf, pt, pa, tf, tt, ta, hk, hpl]
        refine XA_for (fun i => ⟨[(4, .ptr 0 0 0), (5, .ptr 1 0 0), (6, .ptr 2 0 0), (7, .ptr 3 0 0), (8, .ptr 4 0 0), (9, .ptr 5 0 0), (10, .int .i64 i)], [⟨0, .var [.ro ds.length (flatD ds), .int .i64 m]⟩, ⟨0, .var (f.map (.int .u8))⟩, ⟨0, .var (t.map (.int .u8))⟩, ⟨0, .var (a.map (.int .u8))⟩, ⟨0, .var [.int .u8 0, .int .u8 0, .int .u8 0, .int .u8 0, .bool false]⟩, ⟨0, .var ((toL ds f t a i).map (.int .u8) ++ [.bool true])⟩]⟩)
          (fun _ => True) ds.length 0 (Nat.zero_le _) (by simp [AV.atom, normA, lkE, fixObjs, fixBody, fixV, fixCell, toL, toJ]) trivial ?_ ?_
        · intro i _ hi _
          have hi' : (i : Int) < ds.length := by omega
          have hi4 : i < 4 := by omega
          have hi4' : (i : Int) < 4 := by omega
          obtain ⟨k1, k2, k3⟩ := lift_at hf ht ha hk hi
          have hszr := sizeD_range (gD ds i).S (gD ds i).U (gI t i)
          obtain ⟨hS, hU⟩ := fits_of (hC.at hi)
          have el := refLift_ev (gD ds i).S (gD ds i).U (gI f i) (gI t i) (gI a i) hS hU
          unfold refL at el
          rw [k1, if_pos rfl] at el
          rw [show liftD (gD ds i).S (gD ds i).U (gI f i).toNat (gI t i).toNat (gI a i) = toI ds f t a i from rfl] at el
          simp only [rI, rR] at el
          have bf := hf.at hi4
          have bt := ht.at hi4
          have ba := ha.at hi4
          unfold byte at bf bt ba
          have w1 : IntKind.i64.wrap (gI f i) = gI f i := wrap_i64 (by omega) (by omega)
          have w2 : IntKind.i64.wrap (gI t i) = gI t i := wrap_i64 (by omega) (by omega)
          have w3 : IntKind.i64.wrap (gI a i) = gI a i := wrap_i64 (by omega) (by omega)
          have w4 : IntKind.u8.wrap (toI ds f t a i) = toI ds f t a i := wrap_u8 (by omega) (by omega)
          have hs : (toL ds f t a (i + 1)) = (toL ds f t a i).set i (toI ds f t a i) := (toL_set hi4).symm
          have hi0123 : i = 0 ∨ i = 1 ∨ i = 2 ∨ i = 3 := by omega
          have hdd := dropD ds i hi
          have hws := wrap_succ i ds.length hi (by omega)
          have g1 := getN hf hi4
          have g2 := getN ht hi4
          have g3 := getN ha hi4
          have hle : i + 1 ≤ 5 := by omega
          rw [hs]
          generalize toI ds f t a i = ti at *
          have htl : ∃ x0 x1 x2 x3, toL ds f t a i = [x0, x1, x2, x3] := ⟨_, _, _, _, rfl⟩
          obtain ⟨x0, x1, x2, x3, htl⟩ := htl
          rw [htl]
          rcases hi0123 with rfl | rfl | rfl | rfl
          · simp at hdd hi' hws g1 g2 g3
            simp [beqI, bneI, mm_min2, mm_max2, mm_min3, mm_max3, startE, lkE, lkX, lkE_rest, sx, substE, opVA, objs0, List.replicate, XA_seq, XA_region, XOA_go, goE_someA, opV, ev, putA, layAll, XOA_nil, XA_skip_seq, XA_skip_nil, XOA_gd, goG_tA, goG_uA, binV, binInt, unV, XA_ret_nil, XA_ret_cons, endFA_r, endFA_n, endTA_r, endTA_n, endRA_r, endRA_n, fltR, resultsA, resAs, resA, XA_block, XA_cond, pickX_t, pickX_f, pickX_b, XA_skip_blk, XA_skip_lp, XA_exit_seq, XA_exit_lp, XA_exit_blk, XA_exit_nil, load1, Ev.loadCells, objCells, bodyCells, setCells, AV.flat, AV.flat1, backR, backV, backCell, mapO, AV.cells, AV.atom, AV.tree, fillV, repeatL, treeCell, freezeAll, eqCells, callV_T, callV_F, passV, passCell, srcCells, sliceBounds, hiB, loB, thenQ_nA, thenQ_xA, thenQ_rA, runK_nA, runK_xA, runK_rA, wrap_i64, wrap_u64, wrap_u32, wrap_u8, wrap_u16, AV.atom, normA, lkE, fixObjs, fixBody, fixV, fixCell, hi, hi', hdd, rI, rR, g1, g2, g3, w1, w2, w3, w4, el, hws]
          · simp at hdd hi' hws g1 g2 g3
            simp [beqI, bneI, mm_min2, mm_max2, mm_min3, mm_max3, startE, lkE, lkX, lkE_rest, sx, substE, opVA, objs0, List.replicate, XA_seq, XA_region, XOA_go, goE_someA, opV, ev, putA, layAll, XOA_nil, XA_skip_seq, XA_skip_nil, XOA_gd, goG_tA, goG_uA, binV, binInt, unV, XA_ret_nil, XA_ret_cons, endFA_r, endFA_n, endTA_r, endTA_n, endRA_r, endRA_n, fltR, resultsA, resAs, resA, XA_block, XA_cond, pickX_t, pickX_f, pickX_b, XA_skip_blk, XA_skip_lp, XA_exit_seq, XA_exit_lp, XA_exit_blk, XA_exit_nil, load1, Ev.loadCells, objCells, bodyCells, setCells, AV.flat, AV.flat1, backR, backV, backCell, mapO, AV.cells, AV.atom, AV.tree, fillV, repeatL, treeCell, freezeAll, eqCells, callV_T, callV_F, passV, passCell, srcCells, sliceBounds, hiB, loB, thenQ_nA, thenQ_xA, thenQ_rA, runK_nA, runK_xA, runK_rA, wrap_i64, wrap_u64, wrap_u32, wrap_u8, wrap_u16, AV.atom, normA, lkE, fixObjs, fixBody, fixV, fixCell, hi, hi', hdd, rI, rR, g1, g2, g3, w1, w2, w3, w4, el, hws]
          · simp at hdd hi' hws g1 g2 g3
            simp [beqI, bneI, mm_min2, mm_max2, mm_min3, mm_max3, startE, lkE, lkX, lkE_rest, sx, substE, opVA, objs0, List.replicate, XA_seq, XA_region, XOA_go, goE_someA, opV, ev, putA, layAll, XOA_nil, XA_skip_seq, XA_skip_nil, XOA_gd, goG_tA, goG_uA, binV, binInt, unV, XA_ret_nil, XA_ret_cons, endFA_r, endFA_n, endTA_r, endTA_n, endRA_r, endRA_n, fltR, resultsA, resAs, resA, XA_block, XA_cond, pickX_t, pickX_f, pickX_b, XA_skip_blk, XA_skip_lp, XA_exit_seq, XA_exit_lp, XA_exit_blk, XA_exit_nil, load1, Ev.loadCells, objCells, bodyCells, setCells, AV.flat, AV.flat1, backR, backV, backCell, mapO, AV.cells, AV.atom, AV.tree, fillV, repeatL, treeCell, freezeAll, eqCells, callV_T, callV_F, passV, passCell, srcCells, sliceBounds, hiB, loB, thenQ_nA, thenQ_xA, thenQ_rA, runK_nA, runK_xA, runK_rA, wrap_i64, wrap_u64, wrap_u32, wrap_u8, wrap_u16, AV.atom, normA, lkE, fixObjs, fixBody, fixV, fixCell, hi, hi', hdd, rI, rR, g1, g2, g3, w1, w2, w3, w4, el, hws]
          · simp at hdd hi' hws g1 g2 g3
            simp [beqI, bneI, mm_min2, mm_max2, mm_min3, mm_max3, startE, lkE, lkX, lkE_rest, sx, substE, opVA, objs0, List.replicate, XA_seq, XA_region, XOA_go, goE_someA, opV, ev, putA, layAll, XOA_nil, XA_skip_seq, XA_skip_nil, XOA_gd, goG_tA, goG_uA, binV, binInt, unV, XA_ret_nil, XA_ret_cons, endFA_r, endFA_n, endTA_r, endTA_n, endRA_r, endRA_n, fltR, resultsA, resAs, resA, XA_block, XA_cond, pickX_t, pickX_f, pickX_b, XA_skip_blk, XA_skip_lp, XA_exit_seq, XA_exit_lp, XA_exit_blk, XA_exit_nil, load1, Ev.loadCells, objCells, bodyCells, setCells, AV.flat, AV.flat1, backR, backV, backCell, mapO, AV.cells, AV.atom, AV.tree, fillV, repeatL, treeCell, freezeAll, eqCells, callV_T, callV_F, passV, passCell, srcCells, sliceBounds, hiB, loB, thenQ_nA, thenQ_xA, thenQ_rA, runK_nA, runK_xA, runK_rA, wrap_i64, wrap_u64, wrap_u32, wrap_u8, wrap_u16, AV.atom, normA, lkE, fixObjs, fixBody, fixV, fixCell, hi, hi', hdd, rI, rR, g1, g2, g3, w1, w2, w3, w4, el, hws]
        · intro _
          simp [beqI, bneI, mm_min2, mm_max2, mm_min3, mm_max3, startE, lkE, lkX, lkE_rest, sx, substE, opVA, objs0, List.replicate, XA_seq, XA_region, XOA_go, goE_someA, opV, ev, putA, layAll, XOA_nil, XA_skip_seq, XA_skip_nil, XOA_gd, goG_tA, goG_uA, binV, binInt, unV, XA_ret_nil, XA_ret_cons, endFA_r, endFA_n, endTA_r, endTA_n, endRA_r, endRA_n, fltR, resultsA, resAs, resA, XA_block, XA_cond, pickX_t, pickX_f, pickX_b, XA_skip_blk, XA_skip_lp, XA_exit_seq, XA_exit_lp, XA_exit_blk, XA_exit_nil, load1, Ev.loadCells, objCells, bodyCells, setCells, AV.flat, AV.flat1, backR, backV, backCell, mapO, AV.cells, AV.atom, AV.tree, fillV, repeatL, treeCell, freezeAll, eqCells, callV_T, callV_F, passV, passCell, srcCells, sliceBounds, hiB, loB, thenQ_nA, thenQ_xA, thenQ_rA, runK_nA, runK_xA, runK_rA, wrap_i64, wrap_u64, wrap_u32, wrap_u8, wrap_u16, AV.atom, normA, lkE, fixObjs, fixBody, fixV, fixCell, toL]
/-! ### Within -/
def posD : List Int → Int → Int → Int
  | [], _, _ => -1
  | x :: r, y, k => if y = x then k else posD r y (k + 1)
theorem posD_mem : ∀ (l : List Int) (y k : Int), 0 ≤ k → (0 ≤ posD l y k ↔ y ∈ l)
  | [], y, k, _ => by simp [posD]
  | x :: r, y, k, hk => by
    unfold posD
    by_cases c : y = x
    · rw [if_pos c]
      simp [c, hk]
    · rw [if_neg c, posD_mem r y (k + 1) (by omega)]
      simp [c]
theorem index_ev (l : List Int) (y : Int) (hl : l.length ≤ 9223372036854775807) : cvF tab 46 [rI l, .int .i64 y] = some (.int .i64 (posD l y 0)) := by
  refine cvFA_R (mf := Mf.f46) rfl rfl (by kernel_rfl) ?_
  simp only [Mf.f46]
  simp [beqI, bneI, mm_min2, mm_max2, mm_min3, mm_max3, startE, lkE, lkX, lkE_rest, sx, substE, opVA, objs0, List.replicate, XA_seq, XA_region, XOA_go, goE_someA, opV, ev, putA, layAll, XOA_nil, XA_skip_seq, XA_skip_nil, XOA_gd, goG_tA, goG_uA, binV, binInt, unV, XA_ret_nil, XA_ret_cons, endFA_r, endFA_n, endTA_r, endTA_n, endRA_r, endRA_n, fltR, resultsA, resAs, resA, XA_block, XA_cond, pickX_t, pickX_f, pickX_b, XA_skip_blk, XA_skip_lp, XA_exit_seq, XA_exit_lp, XA_exit_blk, XA_exit_nil, load1, Ev.loadCells, objCells, bodyCells, setCells, AV.flat, AV.flat1, backR, backV, backCell, mapO, AV.cells, AV.atom, AV.tree, fillV, repeatL, treeCell, freezeAll, eqCells, callV_T, callV_F, passV, passCell, srcCells, sliceBounds, hiB, loB, thenQ_nA, thenQ_xA, thenQ_rA, runK_nA, runK_xA, runK_rA, wrap_i64, wrap_u64, wrap_u32, wrap_u8, wrap_u16, rI]
  refine XA_for (fun i => ⟨[(0, .ro l.length (l.map (.int .i64))), (1, .int .i64 y), (7, .int .i64 l.length), (8, .int .i64 i)], []⟩)
    (fun i => posD l y 0 = posD (l.drop i) y i) l.length 0 (Nat.zero_le _) (by simp [AV.atom, normA, lkE, fixObjs, fixBody, fixV, fixCell]) (by simp) ?_ ?_
  · intro i _ hi hJ
    have hi' : (i : Int) < l.length := by omega
    rw [List.drop_eq_getElem_cons hi, show posD (l[i] :: l.drop (i + 1)) y i = if y = l[i] then (i : Int) else posD (l.drop (i + 1)) y ((i : Int) + 1) from rfl] at hJ
    by_cases c : y = l[i]
    · rw [if_pos c] at hJ
      simp [beqI, bneI, mm_min2, mm_max2, mm_min3, mm_max3, startE, lkE, lkX, lkE_rest, sx, substE, opVA, objs0, List.replicate, XA_seq, XA_region, XOA_go, goE_someA, opV, ev, putA, layAll, XOA_nil, XA_skip_seq, XA_skip_nil, XOA_gd, goG_tA, goG_uA, binV, binInt, unV, XA_ret_nil, XA_ret_cons, endFA_r, endFA_n, endTA_r, endTA_n, endRA_r, endRA_n, fltR, resultsA, resAs, resA, XA_block, XA_cond, pickX_t, pickX_f, pickX_b, XA_skip_blk, XA_skip_lp, XA_exit_seq, XA_exit_lp, XA_exit_blk, XA_exit_nil, load1, Ev.loadCells, objCells, bodyCells, setCells, AV.flat, AV.flat1, backR, backV, backCell, mapO, AV.cells, AV.atom, AV.tree, fillV, repeatL, treeCell, freezeAll, eqCells, callV_T, callV_F, passV, passCell, srcCells, sliceBounds, hiB, loB, thenQ_nA, thenQ_xA, thenQ_rA, runK_nA, runK_xA, runK_rA, wrap_i64, wrap_u64, wrap_u32, wrap_u8, wrap_u16, AV.atom, normA, lkE, fixObjs, fixBody, fixV, fixCell, hi', idxI l i hi, ← c, hJ]
    · rw [if_neg c] at hJ
      simp [beqI, bneI, mm_min2, mm_max2, mm_min3, mm_max3, startE, lkE, lkX, lkE_rest, sx, substE, opVA, objs0, List.replicate, XA_seq, XA_region, XOA_go, goE_someA, opV, ev, putA, layAll, XOA_nil, XA_skip_seq, XA_skip_nil, XOA_gd, goG_tA, goG_uA, binV, binInt, unV, XA_ret_nil, XA_ret_cons, endFA_r, endFA_n, endTA_r, endTA_n, endRA_r, endRA_n, fltR, resultsA, resAs, resA, XA_block, XA_cond, pickX_t, pickX_f, pickX_b, XA_skip_blk, XA_skip_lp, XA_exit_seq, XA_exit_lp, XA_exit_blk, XA_exit_nil, load1, Ev.loadCells, objCells, bodyCells, setCells, AV.flat, AV.flat1, backR, backV, backCell, mapO, AV.cells, AV.atom, AV.tree, fillV, repeatL, treeCell, freezeAll, eqCells, callV_T, callV_F, passV, passCell, srcCells, sliceBounds, hiB, loB, thenQ_nA, thenQ_xA, thenQ_rA, runK_nA, runK_xA, runK_rA, wrap_i64, wrap_u64, wrap_u32, wrap_u8, wrap_u16, AV.atom, normA, lkE, fixObjs, fixBody, fixV, fixCell, hi', idxI l i hi, c, wrap_succ i l.length hi hl]
      exact hJ
  · intro hJ
    rw [List.drop_length] at hJ
    simp [beqI, bneI, mm_min2, mm_max2, mm_min3, mm_max3, startE, lkE, lkX, lkE_rest, sx, substE, opVA, objs0, List.replicate, XA_seq, XA_region, XOA_go, goE_someA, opV, ev, putA, layAll, XOA_nil, XA_skip_seq, XA_skip_nil, XOA_gd, goG_tA, goG_uA, binV, binInt, unV, XA_ret_nil, XA_ret_cons, endFA_r, endFA_n, endTA_r, endTA_n, endRA_r, endRA_n, fltR, resultsA, resAs, resA, XA_block, XA_cond, pickX_t, pickX_f, pickX_b, XA_skip_blk, XA_skip_lp, XA_exit_seq, XA_exit_lp, XA_exit_blk, XA_exit_nil, load1, Ev.loadCells, objCells, bodyCells, setCells, AV.flat, AV.flat1, backR, backV, backCell, mapO, AV.cells, AV.atom, AV.tree, fillV, repeatL, treeCell, freezeAll, eqCells, callV_T, callV_F, passV, passCell, srcCells, sliceBounds, hiB, loB, thenQ_nA, thenQ_xA, thenQ_rA, runK_nA, runK_xA, runK_rA, wrap_i64, wrap_u64, wrap_u32, wrap_u8, wrap_u16, AV.atom, normA, lkE, fixObjs, fixBody, fixV, fixCell, hJ, posD]
theorem contains_ev (l : List Int) (y : Int) (hl : l.length ≤ 9223372036854775807) : cvF tab 34 [rI l, .int .i64 y] = some (.bool (decide (y ∈ l))) := by
  refine cvFA_R (mf := Mf.f34) rfl rfl (by kernel_rfl) ?_
  have e := index_ev l y hl
  simp only [rI] at e
  have h : decide (0 ≤ posD l y 0) = decide (y ∈ l) := by
    by_cases c : y ∈ l
    · rw [decide_eq_true c, decide_eq_true ((posD_mem l y 0 (by omega)).2 c)]
    · rw [decide_eq_false c, decide_eq_false fun h => c ((posD_mem l y 0 (by omega)).1 h)]
  simp [Mf.f34, beqI, bneI, mm_min2, mm_max2, mm_min3, mm_max3, startE, lkE, lkX, lkE_rest, sx, substE, opVA, objs0, List.replicate, XA_seq, XA_region, XOA_go, goE_someA, opV, ev, putA, layAll, XOA_nil, XA_skip_seq, XA_skip_nil, XOA_gd, goG_tA, goG_uA, binV, binInt, unV, XA_ret_nil, XA_ret_cons, endFA_r, endFA_n, endTA_r, endTA_n, endRA_r, endRA_n, fltR, resultsA, resAs, resA, XA_block, XA_cond, pickX_t, pickX_f, pickX_b, XA_skip_blk, XA_skip_lp, XA_exit_seq, XA_exit_lp, XA_exit_blk, XA_exit_nil, load1, Ev.loadCells, objCells, bodyCells, setCells, AV.flat, AV.flat1, backR, backV, backCell, mapO, AV.cells, AV.atom, AV.tree, fillV, repeatL, treeCell, freezeAll, eqCells, callV_T, callV_F, passV, passCell, srcCells, sliceBounds, hiB, loB, thenQ_nA, thenQ_xA, thenQ_rA, runK_nA, runK_xA, runK_rA, wrap_i64, wrap_u64, wrap_u32, wrap_u8, wrap_u16, rI, e, h]
/-- Does a place lie in a fix? -/
def withinC (ds : List Dm) (m : Int) (v a : List Int) (dim lv : Int) (ms : List Int) : Bool :=
  rightC ds m v a && ((decide (0 ≤ dim) && decide (dim < ds.length)) && (liftOk (gD ds dim.toNat).S (gD ds dim.toNat).U (gI v dim.toNat) lv (gI a dim.toNat) &&
    decide (liftD (gD ds dim.toNat).S (gD ds dim.toNat).U (gI v dim.toNat).toNat lv.toNat (gI a dim.toNat) ∈ ms)))
theorem Within_ev (ds : List Dm) (m : Int) (v a : List Int) (dim lv : Int) (ms : List Int) (hC : okC ds) (hv : okN v) (ha : okN a) (hms : ms.length ≤ 9223372036854775807) :
    cvF tab 13 [.agg [.ro ds.length (flatD ds), .int .i64 m], .agg (v.map (.int .u8)), .agg (a.map (.int .u8)), .agg [.int .i64 dim, .int .i64 lv, rI ms]] = some (.bool (withinC ds m v a dim lv ms)) := by
  refine cvFA_R (mf := Mf.f13) rfl rfl (by kernel_rfl) ?_
  simp only [Mf.f13]
  have e1 := sright_ev ds m v a hC hv ha
  have pf := passN hv
  have pa := passN ha
  have tf := take4 hv
  have ta := take4 ha
  have lf := hv.1
  have la := ha.1
  cases c1 : rightC ds m v a with
  | false =>
    rw [c1] at e1
    simp [beqI, bneI, mm_min2, mm_max2, mm_min3, mm_max3, startE, lkE, lkX, lkE_rest, sx, substE, opVA, objs0, List.replicate, XA_seq, XA_region, XOA_go, goE_someA, opV, ev, putA, layAll, XOA_nil, XA_skip_seq, XA_skip_nil, XOA_gd, goG_tA, goG_uA, binV, binInt, unV, XA_ret_nil, XA_ret_cons, endFA_r, endFA_n, endTA_r, endTA_n, endRA_r, endRA_n, fltR, resultsA, resAs, resA, XA_block, XA_cond, pickX_t, pickX_f, pickX_b, XA_skip_blk, XA_skip_lp, XA_exit_seq, XA_exit_lp, XA_exit_blk, XA_exit_nil, load1, Ev.loadCells, objCells, bodyCells, setCells, AV.flat, AV.flat1, backR, backV, backCell, mapO, AV.cells, AV.atom, AV.tree, fillV, repeatL, treeCell, freezeAll, eqCells, callV_T, callV_F, passV, passCell, srcCells, sliceBounds, hiB, loB, thenQ_nA, thenQ_xA, thenQ_rA, runK_nA, runK_xA, runK_rA, wrap_i64, wrap_u64, wrap_u32, wrap_u8, wrap_u16, rI, e1, lf, la, pf, pa, tf, ta, withinC, c1]
  | true =>
    rw [c1] at e1
    have hl := goodC_len (rightC_good c1)
    by_cases c2 : 0 ≤ dim
    · have c2' : ¬ dim < 0 := by omega
      by_cases c3 : dim < ds.length
      · have c3' : ¬ (ds.length : Int) ≤ dim := by omega
        obtain ⟨i, rfl⟩ : ∃ i : Nat, dim = i := ⟨dim.toNat, by omega⟩
        have hi : i < ds.length := by omega
        have hi4 : i < 4 := by omega
        have hi4' : (i : Int) < 4 := by omega
        obtain ⟨hS, hU⟩ := fits_of (hC.at hi)
        have el := Lift_ev (gD ds i).S (gD ds i).U (gI v i) lv (gI a i) hS hU
        simp only [rI, rR] at el
        have bf := hv.at hi4
        have ba := ha.at hi4
        unfold byte at bf ba
        have w1 : IntKind.i64.wrap (gI v i) = gI v i := wrap_i64 (by omega) (by omega)
        have w3 : IntKind.i64.wrap (gI a i) = gI a i := wrap_i64 (by omega) (by omega)
        have ec := contains_ev ms (liftD (gD ds i).S (gD ds i).U (gI v i).toNat lv.toNat (gI a i)) hms
        simp only [rI] at ec
        cases k : liftOk (gD ds i).S (gD ds i).U (gI v i) lv (gI a i) with
        | false =>
          rw [k] at el
          simp [beqI, bneI, mm_min2, mm_max2, mm_min3, mm_max3, startE, lkE, lkX, lkE_rest, sx, substE, opVA, objs0, List.replicate, XA_seq, XA_region, XOA_go, goE_someA, opV, ev, putA, layAll, XOA_nil, XA_skip_seq, XA_skip_nil, XOA_gd, goG_tA, goG_uA, binV, binInt, unV, XA_ret_nil, XA_ret_cons, endFA_r, endFA_n, endTA_r, endTA_n, endRA_r, endRA_n, fltR, resultsA, resAs, resA, XA_block, XA_cond, pickX_t, pickX_f, pickX_b, XA_skip_blk, XA_skip_lp, XA_exit_seq, XA_exit_lp, XA_exit_blk, XA_exit_nil, load1, Ev.loadCells, objCells, bodyCells, setCells, AV.flat, AV.flat1, backR, backV, backCell, mapO, AV.cells, AV.atom, AV.tree, fillV, repeatL, treeCell, freezeAll, eqCells, callV_T, callV_F, passV, passCell, srcCells, sliceBounds, hiB, loB, thenQ_nA, thenQ_xA, thenQ_rA, runK_nA, runK_xA, runK_rA, wrap_i64, wrap_u64, wrap_u32, wrap_u8, wrap_u16, rI, rR, e1, lf, la, pf, pa, tf, ta, c2', c3, c3', dropD ds i hi, getN hv hi4, getN ha hi4, hi4', w1, w3, el, withinC, c1, k]
        | true =>
          rw [k, if_pos rfl] at el
          simp [beqI, bneI, mm_min2, mm_max2, mm_min3, mm_max3, startE, lkE, lkX, lkE_rest, sx, substE, opVA, objs0, List.replicate, XA_seq, XA_region, XOA_go, goE_someA, opV, ev, putA, layAll, XOA_nil, XA_skip_seq, XA_skip_nil, XOA_gd, goG_tA, goG_uA, binV, binInt, unV, XA_ret_nil, XA_ret_cons, endFA_r, endFA_n, endTA_r, endTA_n, endRA_r, endRA_n, fltR, resultsA, resAs, resA, XA_block, XA_cond, pickX_t, pickX_f, pickX_b, XA_skip_blk, XA_skip_lp, XA_exit_seq, XA_exit_lp, XA_exit_blk, XA_exit_nil, load1, Ev.loadCells, objCells, bodyCells, setCells, AV.flat, AV.flat1, backR, backV, backCell, mapO, AV.cells, AV.atom, AV.tree, fillV, repeatL, treeCell, freezeAll, eqCells, callV_T, callV_F, passV, passCell, srcCells, sliceBounds, hiB, loB, thenQ_nA, thenQ_xA, thenQ_rA, runK_nA, runK_xA, runK_rA, wrap_i64, wrap_u64, wrap_u32, wrap_u8, wrap_u16, rI, rR, e1, lf, la, pf, pa, tf, ta, c2', c3, c3', hi, dropD ds i hi, getN hv hi4, getN ha hi4, hi4', w1, w3, el, ec, withinC, c1, k]
      · have c3' : (ds.length : Int) ≤ dim := by omega
        simp [beqI, bneI, mm_min2, mm_max2, mm_min3, mm_max3, startE, lkE, lkX, lkE_rest, sx, substE, opVA, objs0, List.replicate, XA_seq, XA_region, XOA_go, goE_someA, opV, ev, putA, layAll, XOA_nil, XA_skip_seq, XA_skip_nil, XOA_gd, goG_tA, goG_uA, binV, binInt, unV, XA_ret_nil, XA_ret_cons, endFA_r, endFA_n, endTA_r, endTA_n, endRA_r, endRA_n, fltR, resultsA, resAs, resA, XA_block, XA_cond, pickX_t, pickX_f, pickX_b, XA_skip_blk, XA_skip_lp, XA_exit_seq, XA_exit_lp, XA_exit_blk, XA_exit_nil, load1, Ev.loadCells, objCells, bodyCells, setCells, AV.flat, AV.flat1, backR, backV, backCell, mapO, AV.cells, AV.atom, AV.tree, fillV, repeatL, treeCell, freezeAll, eqCells, callV_T, callV_F, passV, passCell, srcCells, sliceBounds, hiB, loB, thenQ_nA, thenQ_xA, thenQ_rA, runK_nA, runK_xA, runK_rA, wrap_i64, wrap_u64, wrap_u32, wrap_u8, wrap_u16, rI, e1, lf, la, pf, pa, tf, ta, c2', c3', withinC, c1, c3]
    · have c2' : dim < 0 := by omega
      simp [beqI, bneI, mm_min2, mm_max2, mm_min3, mm_max3, startE, lkE, lkX, lkE_rest, sx, substE, opVA, objs0, List.replicate, XA_seq, XA_region, XOA_go, goE_someA, opV, ev, putA, layAll, XOA_nil, XA_skip_seq, XA_skip_nil, XOA_gd, goG_tA, goG_uA, binV, binInt, unV, XA_ret_nil, XA_ret_cons, endFA_r, endFA_n, endTA_r, endTA_n, endRA_r, endRA_n, fltR, resultsA, resAs, resA, XA_block, XA_cond, pickX_t, pickX_f, pickX_b, XA_skip_blk, XA_skip_lp, XA_exit_seq, XA_exit_lp, XA_exit_blk, XA_exit_nil, load1, Ev.loadCells, objCells, bodyCells, setCells, AV.flat, AV.flat1, backR, backV, backCell, mapO, AV.cells, AV.atom, AV.tree, fillV, repeatL, treeCell, freezeAll, eqCells, callV_T, callV_F, passV, passCell, srcCells, sliceBounds, hiB, loB, thenQ_nA, thenQ_xA, thenQ_rA, runK_nA, runK_xA, runK_rA, wrap_i64, wrap_u64, wrap_u32, wrap_u8, wrap_u16, rI, e1, lf, la, pf, pa, tf, ta, c2', withinC, c1, c2]
end Go.Proofs.Ytafjljlcdfccjaa
