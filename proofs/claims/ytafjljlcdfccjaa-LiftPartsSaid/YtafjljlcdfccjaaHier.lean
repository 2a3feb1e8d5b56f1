/- One dimension: whose a member is, who is under it. -/
import Derived.Test.YtafjljlcdfccjaaHGood
set_option linter.unusedSimpArgs false
set_option linter.unusedVariables false
set_option maxHeartbeats 4000000
namespace Go.Proofs.Ytafjljlcdfccjaa
open Go.Ev
/-! ### Lifting -/
/-- n levels up from level a. -/
def liftN (U : List (List Int)) (a : Nat) (m : Int) : Nat → Int
  | 0 => m
  | n + 1 => gI (gR U (a + n)) (liftN U a m n).toNat
theorem liftN_in {S : List Int} {U : List (List Int)} (h : goodD S U = true) {a : Nat} {m : Int} (h0 : 0 ≤ m) (hm : m < gI S a) : ∀ {n : Nat}, a + n < S.length → 0 ≤ liftN U a m n ∧ liftN U a m n < gI S (a + n)
  | 0, _ => ⟨h0, hm⟩
  | n + 1, hn => by
    have hl := good_len h
    obtain ⟨h1, h2⟩ := liftN_in h h0 hm (n := n) (by omega)
    obtain ⟨h3, h4⟩ := good_up h (i := a + n) (by omega)
    exact h4 _ (by omega)
/-- Whose member: of level b. -/
def liftD (S : List Int) (U : List (List Int)) (a b : Nat) (m : Int) : Int := if b = S.length then 0 else liftN U a m (b - a)
theorem liftD_in {S : List Int} {U : List (List Int)} (h : goodD S U = true) {a b : Nat} {m : Int} (hab : a ≤ b) (hb : b ≤ S.length) (h0 : 0 ≤ m) (hm : m < sizeD S U a) : 0 ≤ liftD S U a b m ∧ liftD S U a b m < sizeD S U b := by
  unfold liftD
  split
  · rename_i e
    rw [e, sizeD_end h]; omega
  · rw [sizeD_at h (by omega)] at hm ⊢
    have := liftN_in h h0 hm (n := b - a) (by omega)
    rw [show a + (b - a) = b from by omega] at this
    exact this
/-- May a member be lifted? -/
def liftOk (S : List Int) (U : List (List Int)) (a b m : Int) : Bool := decide (a ≤ b) && (decide (sizeD S U b ≠ 0) && (decide (0 ≤ m) && decide (m < sizeD S U a)))
/-- Who of the first n is under a member. -/
def underP (S : List Int) (U : List (List Int)) (b m a : Int) (n : Nat) : List Int := ((List.range n).filter fun (k : Nat) => decide (liftD S U a.toNat b.toNat (k : Int) = m)).map fun (k : Nat) => (k : Int)
/-- Who is under a member. -/
def underD (S : List Int) (U : List (List Int)) (b m a : Int) : List Int :=
  if a ≤ b ∧ 0 ≤ m ∧ m < sizeD S U b then underP S U b m a (sizeD S U a).toNat else []
theorem underP_succ (S : List Int) (U : List (List Int)) (b m a : Int) (i : Nat) : underP S U b m a (i + 1) = if liftD S U a.toNat b.toNat (i : Int) = m then underP S U b m a i ++ [(i : Int)] else underP S U b m a i := by
  unfold underP
  rw [List.range_succ, List.filter_append, List.map_append]
  by_cases h : liftD S U a.toNat b.toNat (i : Int) = m <;> simp [h]
theorem underP_len (S : List Int) (U : List (List Int)) (b m a : Int) (n : Nat) : (underP S U b m a n).length ≤ n := by
  unfold underP
  rw [List.length_map]
  have := List.length_filter_le (fun (k : Nat) => decide (liftD S U a.toNat b.toNat (k : Int) = m)) (List.range n)
  rw [List.length_range] at this
  exact this
theorem lift_ev {S : List Int} {U : List (List Int)} (h : goodD S U = true) {a b : Nat} {m : Int} (hab : a ≤ b) (hb : b ≤ S.length) (h0 : 0 ≤ m) (hm : m < sizeD S U a) : cvF tab 45 [.agg [rI S, rR U], .int .i64 a, .int .i64 b, .int .i64 m] = some (.int .i64 (liftD S U a b m)) := by
  refine cvFA_R (mf := Mf.f45) rfl rfl (by kernel_rfl) ?_
  simp only [Mf.f45]
  have hl := good_len h
  by_cases e : b = S.length
  · subst e
    simp [beqI, bneI, mm_min2, mm_max2, mm_min3, mm_max3, startE, lkE, lkX, lkE_rest, sx, substE, opVA, objs0, List.replicate, XA_seq, XA_region, XOA_go, goE_someA, opV, ev, putA, layAll, XOA_nil, XA_skip_seq, XA_skip_nil, XOA_gd, goG_tA, goG_uA, binV, binInt, unV, XA_ret_nil, XA_ret_cons, endFA_r, endFA_n, endTA_r, endTA_n, endRA_r, endRA_n, fltR, resultsA, resAs, resA, XA_block, XA_cond, pickX_t, pickX_f, pickX_b, XA_skip_blk, XA_skip_lp, XA_exit_seq, XA_exit_lp, XA_exit_blk, XA_exit_nil, load1, Ev.loadCells, objCells, bodyCells, setCells, AV.flat, AV.flat1, backR, backV, backCell, mapO, AV.cells, AV.atom, AV.tree, fillV, repeatL, treeCell, freezeAll, eqCells, callV_T, callV_F, passV, passCell, srcCells, sliceBounds, hiB, loB, thenQ_nA, thenQ_xA, thenQ_rA, runK_nA, runK_xA, runK_rA, wrap_i64, wrap_u64, wrap_u32, wrap_u8, wrap_u16, rI, rR, liftD]
  · have e' : ¬ (b : Int) = S.length := by omega
    have hw : IntKind.i64.wrap ((b : Int) - (a : Int)) = ((b - a : Nat) : Int) := by rw [wrap_i64 (by omega) (by omega)]; omega
    rw [sizeD_at h (by omega)] at hm
    simp [beqI, bneI, mm_min2, mm_max2, mm_min3, mm_max3, startE, lkE, lkX, lkE_rest, sx, substE, opVA, objs0, List.replicate, XA_seq, XA_region, XOA_go, goE_someA, opV, ev, putA, layAll, XOA_nil, XA_skip_seq, XA_skip_nil, XOA_gd, goG_tA, goG_uA, binV, binInt, unV, XA_ret_nil, XA_ret_cons, endFA_r, endFA_n, endTA_r, endTA_n, endRA_r, endRA_n, fltR, resultsA, resAs, resA, XA_block, XA_cond, pickX_t, pickX_f, pickX_b, XA_skip_blk, XA_skip_lp, XA_exit_seq, XA_exit_lp, XA_exit_blk, XA_exit_nil, load1, Ev.loadCells, objCells, bodyCells, setCells, AV.flat, AV.flat1, backR, backV, backCell, mapO, AV.cells, AV.atom, AV.tree, fillV, repeatL, treeCell, freezeAll, eqCells, callV_T, callV_F, passV, passCell, srcCells, sliceBounds, hiB, loB, thenQ_nA, thenQ_xA, thenQ_rA, runK_nA, runK_xA, runK_rA, wrap_i64, wrap_u64, wrap_u32, wrap_u8, wrap_u16, rI, rR, e', hw]
    refine XA_for (fun i => ⟨[(1, .int .i64 a), (3, .int .i64 (liftN U a m i)), (4, .ptr 0 0 0), (17, .int .i64 ((b - a : Nat) : Int)), (18, .int .i64 i)], [⟨0, .var [.ro S.length (S.map (.int .i64)), .ro U.length (U.map rI)]⟩]⟩) (fun _ => True) (b - a) 0 (Nat.zero_le _) (by simp [AV.atom, normA, lkE, fixObjs, fixBody, fixV, fixCell, liftN]) trivial ?_ ?_
    · intro i _ hi _
      obtain ⟨h1, h2⟩ := liftN_in h h0 hm (n := i) (by omega)
      obtain ⟨h3, h4⟩ := good_up h (i := a + i) (by omega)
      have hi' : (i : Int) < ((b - a : Nat) : Int) := by omega
      have hw2 : IntKind.i64.wrap ((a : Int) + (i : Int)) = ((a + i : Nat) : Int) := by rw [wrap_i64 (by omega) (by omega)]; omega
      have hai : (0 : Int) ≤ (a : Int) + (i : Int) := by omega
      have hai2 : (a : Int) + (i : Int) < U.length := by omega
      have hai3 : ((a : Int) + (i : Int)).toNat = a + i := by omega
      have hr := idxR' U ((a : Int) + (i : Int)) hai hai2
      rw [hai3] at hr
      have hm2 : liftN U a m i < (gR U (a + i)).length := by omega
      have hx := idxI' (gR U (a + i)) (liftN U a m i) h1 hm2
      simp [beqI, bneI, mm_min2, mm_max2, mm_min3, mm_max3, startE, lkE, lkX, lkE_rest, sx, substE, opVA, objs0, List.replicate, XA_seq, XA_region, XOA_go, goE_someA, opV, ev, putA, layAll, XOA_nil, XA_skip_seq, XA_skip_nil, XOA_gd, goG_tA, goG_uA, binV, binInt, unV, XA_ret_nil, XA_ret_cons, endFA_r, endFA_n, endTA_r, endTA_n, endRA_r, endRA_n, fltR, resultsA, resAs, resA, XA_block, XA_cond, pickX_t, pickX_f, pickX_b, XA_skip_blk, XA_skip_lp, XA_exit_seq, XA_exit_lp, XA_exit_blk, XA_exit_nil, load1, Ev.loadCells, objCells, bodyCells, setCells, AV.flat, AV.flat1, backR, backV, backCell, mapO, AV.cells, AV.atom, AV.tree, fillV, repeatL, treeCell, freezeAll, eqCells, callV_T, callV_F, passV, passCell, srcCells, sliceBounds, hiB, loB, thenQ_nA, thenQ_xA, thenQ_rA, runK_nA, runK_xA, runK_rA, wrap_i64, wrap_u64, wrap_u32, wrap_u8, wrap_u16, AV.atom, normA, lkE, fixObjs, fixBody, fixV, fixCell, hi', hw2, hai, hai2, hai3, hr, rI, h1, hm2, hx, wrap_succ i (b - a) hi (by omega), liftN]
    · intro _
      simp [beqI, bneI, mm_min2, mm_max2, mm_min3, mm_max3, startE, lkE, lkX, lkE_rest, sx, substE, opVA, objs0, List.replicate, XA_seq, XA_region, XOA_go, goE_someA, opV, ev, putA, layAll, XOA_nil, XA_skip_seq, XA_skip_nil, XOA_gd, goG_tA, goG_uA, binV, binInt, unV, XA_ret_nil, XA_ret_cons, endFA_r, endFA_n, endTA_r, endTA_n, endRA_r, endRA_n, fltR, resultsA, resAs, resA, XA_block, XA_cond, pickX_t, pickX_f, pickX_b, XA_skip_blk, XA_skip_lp, XA_exit_seq, XA_exit_lp, XA_exit_blk, XA_exit_nil, load1, Ev.loadCells, objCells, bodyCells, setCells, AV.flat, AV.flat1, backR, backV, backCell, mapO, AV.cells, AV.atom, AV.tree, fillV, repeatL, treeCell, freezeAll, eqCells, callV_T, callV_F, passV, passCell, srcCells, sliceBounds, hiB, loB, thenQ_nA, thenQ_xA, thenQ_rA, runK_nA, runK_xA, runK_rA, wrap_i64, wrap_u64, wrap_u32, wrap_u8, wrap_u16, AV.atom, normA, lkE, fixObjs, fixBody, fixV, fixCell, liftD, e]
theorem liftOk_iff {S : List Int} {U : List (List Int)} {a b m : Int} (h : liftOk S U a b m = true) : goodD S U = true ∧ 0 ≤ a ∧ a ≤ b ∧ b ≤ S.length ∧ 0 ≤ m ∧ m < sizeD S U a := by
  simp only [liftOk, Bool.and_eq_true, decide_eq_true_eq] at h
  obtain ⟨h1, h2, h3, h4⟩ := h
  have hb := sizeD_ne h2
  have ha := sizeD_ne (S := S) (U := U) (lv := a) (by omega)
  exact ⟨hb.1, ha.2.1, h1, hb.2.2, h3, h4⟩
theorem Lift_ev (S : List Int) (U : List (List Int)) (a b m : Int) (hS : S.length ≤ 9223372036854775807) (hU : fitsU U) : cvF tab 31 [.agg [rI S, rR U], .int .i64 a, .int .i64 b, .int .i64 m] = some (.tup [.int .i64 (if liftOk S U a b m = true then liftD S U a.toNat b.toNat m else 0), .bool (liftOk S U a b m)]) := by
  refine cvFA_R (mf := Mf.f31) rfl rfl (by kernel_rfl) ?_
  simp only [Mf.f31]
  have hs := fun lv => size_ev S U lv hS hU
  simp only [rI, rR] at hs
  have hr := sizeD_range S U a
  have hw : IntKind.i64.wrap (sizeD S U a - 1) = sizeD S U a - 1 := wrap_i64 (by omega) (by omega)
  cases h : liftOk S U a b m with
  | true =>
    obtain ⟨h1, h2, h3, h4, h5, h6⟩ := liftOk_iff h
    have hl := lift_ev h1 (a := a.toNat) (b := b.toNat) (m := m) (by omega) (by omega) h5 (by rw [Int.toNat_of_nonneg h2]; exact h6)
    rw [Int.toNat_of_nonneg h2, Int.toNat_of_nonneg (show 0 ≤ b by omega)] at hl
    simp only [rI, rR] at hl
    simp only [liftOk, Bool.and_eq_true, decide_eq_true_eq] at h
    have h7 : m ≤ sizeD S U a - 1 := by omega
    have h8 : ¬ b < a := by omega
    simp [beqI, bneI, mm_min2, mm_max2, mm_min3, mm_max3, startE, lkE, lkX, lkE_rest, sx, substE, opVA, objs0, List.replicate, XA_seq, XA_region, XOA_go, goE_someA, opV, ev, putA, layAll, XOA_nil, XA_skip_seq, XA_skip_nil, XOA_gd, goG_tA, goG_uA, binV, binInt, unV, XA_ret_nil, XA_ret_cons, endFA_r, endFA_n, endTA_r, endTA_n, endRA_r, endRA_n, fltR, resultsA, resAs, resA, XA_block, XA_cond, pickX_t, pickX_f, pickX_b, XA_skip_blk, XA_skip_lp, XA_exit_seq, XA_exit_lp, XA_exit_blk, XA_exit_nil, load1, Ev.loadCells, objCells, bodyCells, setCells, AV.flat, AV.flat1, backR, backV, backCell, mapO, AV.cells, AV.atom, AV.tree, fillV, repeatL, treeCell, freezeAll, eqCells, callV_T, callV_F, passV, passCell, srcCells, sliceBounds, hiB, loB, thenQ_nA, thenQ_xA, thenQ_rA, runK_nA, runK_xA, runK_rA, wrap_i64, wrap_u64, wrap_u32, wrap_u8, wrap_u16, rI, rR, h3, h8, hs, h.2.1, hw, between_ev, h5, h7, hl]
  | false =>
    by_cases h3 : a ≤ b
    · have h8 : ¬ b < a := by omega
      by_cases h2 : sizeD S U b = 0
      · simp [beqI, bneI, mm_min2, mm_max2, mm_min3, mm_max3, startE, lkE, lkX, lkE_rest, sx, substE, opVA, objs0, List.replicate, XA_seq, XA_region, XOA_go, goE_someA, opV, ev, putA, layAll, XOA_nil, XA_skip_seq, XA_skip_nil, XOA_gd, goG_tA, goG_uA, binV, binInt, unV, XA_ret_nil, XA_ret_cons, endFA_r, endFA_n, endTA_r, endTA_n, endRA_r, endRA_n, fltR, resultsA, resAs, resA, XA_block, XA_cond, pickX_t, pickX_f, pickX_b, XA_skip_blk, XA_skip_lp, XA_exit_seq, XA_exit_lp, XA_exit_blk, XA_exit_nil, load1, Ev.loadCells, objCells, bodyCells, setCells, AV.flat, AV.flat1, backR, backV, backCell, mapO, AV.cells, AV.atom, AV.tree, fillV, repeatL, treeCell, freezeAll, eqCells, callV_T, callV_F, passV, passCell, srcCells, sliceBounds, hiB, loB, thenQ_nA, thenQ_xA, thenQ_rA, runK_nA, runK_xA, runK_rA, wrap_i64, wrap_u64, wrap_u32, wrap_u8, wrap_u16, rI, rR, h8, hs, h2]
      · have h7 : (decide (0 ≤ m) && decide (m ≤ sizeD S U a - 1)) = false := by
          simp [liftOk, h3, h2] at h ⊢
          intro h5
          have := h h5
          omega
        simp [beqI, bneI, mm_min2, mm_max2, mm_min3, mm_max3, startE, lkE, lkX, lkE_rest, sx, substE, opVA, objs0, List.replicate, XA_seq, XA_region, XOA_go, goE_someA, opV, ev, putA, layAll, XOA_nil, XA_skip_seq, XA_skip_nil, XOA_gd, goG_tA, goG_uA, binV, binInt, unV, XA_ret_nil, XA_ret_cons, endFA_r, endFA_n, endTA_r, endTA_n, endRA_r, endRA_n, fltR, resultsA, resAs, resA, XA_block, XA_cond, pickX_t, pickX_f, pickX_b, XA_skip_blk, XA_skip_lp, XA_exit_seq, XA_exit_lp, XA_exit_blk, XA_exit_nil, load1, Ev.loadCells, objCells, bodyCells, setCells, AV.flat, AV.flat1, backR, backV, backCell, mapO, AV.cells, AV.atom, AV.tree, fillV, repeatL, treeCell, freezeAll, eqCells, callV_T, callV_F, passV, passCell, srcCells, sliceBounds, hiB, loB, thenQ_nA, thenQ_xA, thenQ_rA, runK_nA, runK_xA, runK_rA, wrap_i64, wrap_u64, wrap_u32, wrap_u8, wrap_u16, rI, rR, h8, hs, h2, hw, between_ev, h7]
    · have h8 : b < a := by omega
      simp [beqI, bneI, mm_min2, mm_max2, mm_min3, mm_max3, startE, lkE, lkX, lkE_rest, sx, substE, opVA, objs0, List.replicate, XA_seq, XA_region, XOA_go, goE_someA, opV, ev, putA, layAll, XOA_nil, XA_skip_seq, XA_skip_nil, XOA_gd, goG_tA, goG_uA, binV, binInt, unV, XA_ret_nil, XA_ret_cons, endFA_r, endFA_n, endTA_r, endTA_n, endRA_r, endRA_n, fltR, resultsA, resAs, resA, XA_block, XA_cond, pickX_t, pickX_f, pickX_b, XA_skip_blk, XA_skip_lp, XA_exit_seq, XA_exit_lp, XA_exit_blk, XA_exit_nil, load1, Ev.loadCells, objCells, bodyCells, setCells, AV.flat, AV.flat1, backR, backV, backCell, mapO, AV.cells, AV.atom, AV.tree, fillV, repeatL, treeCell, freezeAll, eqCells, callV_T, callV_F, passV, passCell, srcCells, sliceBounds, hiB, loB, thenQ_nA, thenQ_xA, thenQ_rA, runK_nA, runK_xA, runK_rA, wrap_i64, wrap_u64, wrap_u32, wrap_u8, wrap_u16, rI, rR, h8]
theorem Under_ev (S : List Int) (U : List (List Int)) (b m a : Int) (hS : S.length ≤ 9223372036854775807) (hU : fitsU U) : cvT tab 35 [.agg [rI S, rR U], .int .i64 b, .int .i64 m, .int .i64 a] = some (rI (underD S U b m a)) := by
  refine cvTA_R (mf := Mf.f35) rfl rfl (by kernel_rfl) ?_
  simp only [Mf.f35]
  have hs := fun lv => size_ev S U lv hS hU
  simp only [rI, rR] at hs
  have hr := sizeD_range S U b
  have hw : IntKind.i64.wrap (sizeD S U b - 1) = sizeD S U b - 1 := wrap_i64 (by omega) (by omega)
  by_cases h3 : a ≤ b
  · have h8 : ¬ b < a := by omega
    by_cases h2 : sizeD S U a = 0
    · simp [beqI, bneI, mm_min2, mm_max2, mm_min3, mm_max3, startE, lkE, lkX, lkE_rest, sx, substE, opVA, objs0, List.replicate, XA_seq, XA_region, XOA_go, goE_someA, opV, ev, putA, layAll, XOA_nil, XA_skip_seq, XA_skip_nil, XOA_gd, goG_tA, goG_uA, binV, binInt, unV, XA_ret_nil, XA_ret_cons, endFA_r, endFA_n, endTA_r, endTA_n, endRA_r, endRA_n, fltR, resultsA, resAs, resA, XA_block, XA_cond, pickX_t, pickX_f, pickX_b, XA_skip_blk, XA_skip_lp, XA_exit_seq, XA_exit_lp, XA_exit_blk, XA_exit_nil, load1, Ev.loadCells, objCells, bodyCells, setCells, AV.flat, AV.flat1, backR, backV, backCell, mapO, AV.cells, AV.atom, AV.tree, fillV, repeatL, treeCell, freezeAll, eqCells, callV_T, callV_F, passV, passCell, srcCells, sliceBounds, hiB, loB, thenQ_nA, thenQ_xA, thenQ_rA, runK_nA, runK_xA, runK_rA, wrap_i64, wrap_u64, wrap_u32, wrap_u8, wrap_u16, rI, rR, h8, hs, h2, underD, underP]
    · by_cases h5 : 0 ≤ m ∧ m < sizeD S U b
      · have h7 : m ≤ sizeD S U b - 1 := by omega
        have hb := sizeD_ne (S := S) (U := U) (lv := b) (by omega)
        have ha := sizeD_ne h2
        have hr2 := sizeD_range S U a
        simp [beqI, bneI, mm_min2, mm_max2, mm_min3, mm_max3, startE, lkE, lkX, lkE_rest, sx, substE, opVA, objs0, List.replicate, XA_seq, XA_region, XOA_go, goE_someA, opV, ev, putA, layAll, XOA_nil, XA_skip_seq, XA_skip_nil, XOA_gd, goG_tA, goG_uA, binV, binInt, unV, XA_ret_nil, XA_ret_cons, endFA_r, endFA_n, endTA_r, endTA_n, endRA_r, endRA_n, fltR, resultsA, resAs, resA, XA_block, XA_cond, pickX_t, pickX_f, pickX_b, XA_skip_blk, XA_skip_lp, XA_exit_seq, XA_exit_lp, XA_exit_blk, XA_exit_nil, load1, Ev.loadCells, objCells, bodyCells, setCells, AV.flat, AV.flat1, backR, backV, backCell, mapO, AV.cells, AV.atom, AV.tree, fillV, repeatL, treeCell, freezeAll, eqCells, callV_T, callV_F, passV, passCell, srcCells, sliceBounds, hiB, loB, thenQ_nA, thenQ_xA, thenQ_rA, runK_nA, runK_xA, runK_rA, wrap_i64, wrap_u64, wrap_u32, wrap_u8, wrap_u16, rI, rR, h8, hs, h2, hw, between_ev, h5, h7, h3, underD]
        refine XA_for (fun i => ⟨[(1, .int .i64 b), (2, .int .i64 m), (3, .int .i64 a), (4, .ptr 0 0 0), (9, .own 1 0 0 (underP S U b m a i).length 1), (31, .int .i64 (sizeD S U a)), (32, .int .i64 i)], [⟨0, .var [.ro S.length (S.map (.int .i64)), .ro U.length (U.map rI)]⟩, ⟨0, .row true 1 ((underP S U b m a i).map (.int .i64))⟩]⟩) (fun _ => True) (sizeD S U a).toNat 0 (Nat.zero_le _) (by simp [AV.atom, normA, lkE, fixObjs, fixBody, fixV, fixCell, underP]) trivial ?_ ?_
        · intro i _ hi _
          have hi' : (i : Int) < sizeD S U a := by omega
          have hl := lift_ev ha.1 (a := a.toNat) (b := b.toNat) (m := (i : Int)) (by omega) (by omega) (by omega) (by rw [Int.toNat_of_nonneg ha.2.1]; exact hi')
          rw [Int.toNat_of_nonneg ha.2.1, Int.toNat_of_nonneg hb.2.1] at hl
          simp only [rI, rR] at hl
          have hlen := underP_len S U b m a i
          have hq : ((underP S U b m a i).length + 1) * 8 ≤ 140737488355328 := by omega
          have hq2 : (underP S U b m a i).length + 1 < 4611686018427387904 := by omega
          by_cases he : liftD S U a.toNat b.toNat (i : Int) = m
          · simp [beqI, bneI, mm_min2, mm_max2, mm_min3, mm_max3, startE, lkE, lkX, lkE_rest, sx, substE, opVA, objs0, List.replicate, XA_seq, XA_region, XOA_go, goE_someA, opV, ev, putA, layAll, XOA_nil, XA_skip_seq, XA_skip_nil, XOA_gd, goG_tA, goG_uA, binV, binInt, unV, XA_ret_nil, XA_ret_cons, endFA_r, endFA_n, endTA_r, endTA_n, endRA_r, endRA_n, fltR, resultsA, resAs, resA, XA_block, XA_cond, pickX_t, pickX_f, pickX_b, XA_skip_blk, XA_skip_lp, XA_exit_seq, XA_exit_lp, XA_exit_blk, XA_exit_nil, load1, Ev.loadCells, objCells, bodyCells, setCells, AV.flat, AV.flat1, backR, backV, backCell, mapO, AV.cells, AV.atom, AV.tree, fillV, repeatL, treeCell, freezeAll, eqCells, callV_T, callV_F, passV, passCell, srcCells, sliceBounds, hiB, loB, thenQ_nA, thenQ_xA, thenQ_rA, runK_nA, runK_xA, runK_rA, wrap_i64, wrap_u64, wrap_u32, wrap_u8, wrap_u16, AV.atom, normA, lkE, fixObjs, fixBody, fixV, fixCell, hi', hl, he, hq, hq2, underP_succ, wrap_succ i (sizeD S U a).toNat hi (by omega)]
          · simp [beqI, bneI, mm_min2, mm_max2, mm_min3, mm_max3, startE, lkE, lkX, lkE_rest, sx, substE, opVA, objs0, List.replicate, XA_seq, XA_region, XOA_go, goE_someA, opV, ev, putA, layAll, XOA_nil, XA_skip_seq, XA_skip_nil, XOA_gd, goG_tA, goG_uA, binV, binInt, unV, XA_ret_nil, XA_ret_cons, endFA_r, endFA_n, endTA_r, endTA_n, endRA_r, endRA_n, fltR, resultsA, resAs, resA, XA_block, XA_cond, pickX_t, pickX_f, pickX_b, XA_skip_blk, XA_skip_lp, XA_exit_seq, XA_exit_lp, XA_exit_blk, XA_exit_nil, load1, Ev.loadCells, objCells, bodyCells, setCells, AV.flat, AV.flat1, backR, backV, backCell, mapO, AV.cells, AV.atom, AV.tree, fillV, repeatL, treeCell, freezeAll, eqCells, callV_T, callV_F, passV, passCell, srcCells, sliceBounds, hiB, loB, thenQ_nA, thenQ_xA, thenQ_rA, runK_nA, runK_xA, runK_rA, wrap_i64, wrap_u64, wrap_u32, wrap_u8, wrap_u16, AV.atom, normA, lkE, fixObjs, fixBody, fixV, fixCell, hi', hl, he, hq, hq2, underP_succ, wrap_succ i (sizeD S U a).toNat hi (by omega)]
        · intro _
          have hn : ((sizeD S U a).toNat : Int) = sizeD S U a := by omega
          simp [beqI, bneI, mm_min2, mm_max2, mm_min3, mm_max3, startE, lkE, lkX, lkE_rest, sx, substE, opVA, objs0, List.replicate, XA_seq, XA_region, XOA_go, goE_someA, opV, ev, putA, layAll, XOA_nil, XA_skip_seq, XA_skip_nil, XOA_gd, goG_tA, goG_uA, binV, binInt, unV, XA_ret_nil, XA_ret_cons, endFA_r, endFA_n, endTA_r, endTA_n, endRA_r, endRA_n, fltR, resultsA, resAs, resA, XA_block, XA_cond, pickX_t, pickX_f, pickX_b, XA_skip_blk, XA_skip_lp, XA_exit_seq, XA_exit_lp, XA_exit_blk, XA_exit_nil, load1, Ev.loadCells, objCells, bodyCells, setCells, AV.flat, AV.flat1, backR, backV, backCell, mapO, AV.cells, AV.atom, AV.tree, fillV, repeatL, treeCell, freezeAll, eqCells, callV_T, callV_F, passV, passCell, srcCells, sliceBounds, hiB, loB, thenQ_nA, thenQ_xA, thenQ_rA, runK_nA, runK_xA, runK_rA, wrap_i64, wrap_u64, wrap_u32, wrap_u8, wrap_u16, AV.atom, normA, lkE, fixObjs, fixBody, fixV, fixCell, hn, take_map]
      · have h7 : (decide (0 ≤ m) && decide (m ≤ sizeD S U b - 1)) = false := by
          simp
          omega
        have h9 : ¬ (a ≤ b ∧ 0 ≤ m ∧ m < sizeD S U b) := fun c => h5 c.2
        simp [beqI, bneI, mm_min2, mm_max2, mm_min3, mm_max3, startE, lkE, lkX, lkE_rest, sx, substE, opVA, objs0, List.replicate, XA_seq, XA_region, XOA_go, goE_someA, opV, ev, putA, layAll, XOA_nil, XA_skip_seq, XA_skip_nil, XOA_gd, goG_tA, goG_uA, binV, binInt, unV, XA_ret_nil, XA_ret_cons, endFA_r, endFA_n, endTA_r, endTA_n, endRA_r, endRA_n, fltR, resultsA, resAs, resA, XA_block, XA_cond, pickX_t, pickX_f, pickX_b, XA_skip_blk, XA_skip_lp, XA_exit_seq, XA_exit_lp, XA_exit_blk, XA_exit_nil, load1, Ev.loadCells, objCells, bodyCells, setCells, AV.flat, AV.flat1, backR, backV, backCell, mapO, AV.cells, AV.atom, AV.tree, fillV, repeatL, treeCell, freezeAll, eqCells, callV_T, callV_F, passV, passCell, srcCells, sliceBounds, hiB, loB, thenQ_nA, thenQ_xA, thenQ_rA, runK_nA, runK_xA, runK_rA, wrap_i64, wrap_u64, wrap_u32, wrap_u8, wrap_u16, rI, rR, h8, hs, h2, hw, between_ev, h7, underD, h9]
  · have h8 : b < a := by omega
    simp [beqI, bneI, mm_min2, mm_max2, mm_min3, mm_max3, startE, lkE, lkX, lkE_rest, sx, substE, opVA, objs0, List.replicate, XA_seq, XA_region, XOA_go, goE_someA, opV, ev, putA, layAll, XOA_nil, XA_skip_seq, XA_skip_nil, XOA_gd, goG_tA, goG_uA, binV, binInt, unV, XA_ret_nil, XA_ret_cons, endFA_r, endFA_n, endTA_r, endTA_n, endRA_r, endRA_n, fltR, resultsA, resAs, resA, XA_block, XA_cond, pickX_t, pickX_f, pickX_b, XA_skip_blk, XA_skip_lp, XA_exit_seq, XA_exit_lp, XA_exit_blk, XA_exit_nil, load1, Ev.loadCells, objCells, bodyCells, setCells, AV.flat, AV.flat1, backR, backV, backCell, mapO, AV.cells, AV.atom, AV.tree, fillV, repeatL, treeCell, freezeAll, eqCells, callV_T, callV_F, passV, passCell, srcCells, sliceBounds, hiB, loB, thenQ_nA, thenQ_xA, thenQ_rA, runK_nA, runK_xA, runK_rA, wrap_i64, wrap_u64, wrap_u32, wrap_u8, wrap_u16, rI, rR, h8, underD, h3]
end Go.Proofs.Ytafjljlcdfccjaa
