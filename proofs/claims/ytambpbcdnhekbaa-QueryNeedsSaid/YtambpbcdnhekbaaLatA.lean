/- Nodes: Base, Good, Meet, Join, Below, Rank, Whole, Count, Cost. -/
import Derived.Test.YtambpbcdnhekbaaCat
set_option linter.unusedSimpArgs false
set_option linter.unusedVariables false
set_option maxHeartbeats 4000000
set_option maxRecDepth 100000
namespace Go.Proofs.Ytambpbcdnhekbaa
open Go.Ev
def zero4 : List Int := [0, 0, 0, 0]
theorem ok_zero4 : okN zero4 := ⟨rfl, fun x h => by simp [zero4] at h; subst h; exact ⟨by omega, by omega⟩⟩
theorem okN4 {a b c d : Int} (ha : byte a) (hb : byte b) (hc : byte c) (hd : byte d) : okN [a, b, c, d] := ⟨rfl, fun x h => by
  simp at h
  rcases h with rfl | rfl | rfl | rfl <;> assumption⟩
def goodN (ds : List Dm) (m : Int) (v : List Int) : Bool := rightC ds m v zero4
theorem lgood_ev (ds : List Dm) (m : Int) (v : List Int) (hC : okC ds) (hv : okN v) : cvF tab 55 [.agg [.ro ds.length (flatD ds), .int .i64 m], .agg (v.map (.int .u8))] = some (.bool (goodN ds m v)) := by
  refine cvFA_R (mf := Mf.f55) rfl rfl (by kernel_rfl) ?_
  simp only [Mf.f55]
  obtain ⟨a, b, c, d, rfl, ha, hb, hc, hd⟩ := four hv
  have e := sright_ev ds m [a, b, c, d] zero4 hC hv ok_zero4
  simp only [List.map, zero4] at e
  simp [beqI, bneI, mm_min2, mm_max2, mm_min3, mm_max3, startE, lkE, lkX, lkE_rest, sx, substE, opVA, objs0, List.replicate, XA_seq, XA_region, XOA_go, goE_someA, opV, ev, putA, layAll, XOA_nil, XA_skip_seq, XA_skip_nil, XOA_gd, goG_tA, goG_uA, binV, binInt, unV, XA_ret_nil, XA_ret_cons, endFA_r, endFA_n, endTA_r, endTA_n, endRA_r, endRA_n, fltR, resultsA, resAs, resA, XA_block, XA_cond, pickX_t, pickX_f, pickX_b, XA_skip_blk, XA_skip_lp, XA_exit_seq, XA_exit_lp, XA_exit_blk, XA_exit_nil, load1, Ev.loadCells, objCells, bodyCells, setCells, AV.flat, AV.flat1, backR, backV, backCell, mapO, AV.cells, AV.atom, AV.tree, fillV, repeatL, treeCell, freezeAll, eqCells, callV_T, callV_F, passN, passV, passCell, srcCells, sliceBounds, hiB, loB, thenQ_nA, thenQ_xA, thenQ_rA, runK_nA, runK_xA, runK_rA, wrap_i64, wrap_u64, wrap_u32, wrap_u8, wrap_u16, e, goodN, zero4]
def meetN (a b : List Int) : List Int := List.zipWith min a b
def joinN (a b : List Int) : List Int := List.zipWith max a b
def belowN : List Int → List Int → Bool
  | x :: a, y :: b => decide (x ≤ y) && belowN a b
  | _, _ => true
def rankN (v : List Int) : Int := v.sum
/-- How many levels, the whole counted, less one: by number of the dimension. -/
def wOf (ds : List Dm) (i : Nat) : Nat := if i < ds.length then (gD ds i).S.length else 0
theorem wOf_le {ds : List Dm} {m : Int} (g : goodC ds m = true) (i : Nat) : wOf ds i ≤ 4 := by
  unfold wOf
  split
  · rename_i h
    exact (good_len (goodC_at g h)).2.1
  · omega
def wholeN (ds : List Dm) (m : Int) : List Int := if goodC ds m = true then [(wOf ds 0 : Int), (wOf ds 1 : Int), (wOf ds 2 : Int), (wOf ds 3 : Int)] else zero4
def fillW (ds : List Dm) (i : Nat) : List Int := [if 0 < i then (wOf ds 0 : Int) else 0, if 1 < i then (wOf ds 1 : Int) else 0, if 2 < i then (wOf ds 2 : Int) else 0, if 3 < i then (wOf ds 3 : Int) else 0]
theorem fillW_all (ds : List Dm) (m : Int) (g : goodC ds m = true) : fillW ds ds.length = wholeN ds m := by
  have h : ∀ i, (if i < ds.length then (wOf ds i : Int) else 0) = wOf ds i := fun i => by
    unfold wOf
    by_cases c : i < ds.length <;> simp [c]
  unfold fillW wholeN
  rw [if_pos g, h, h, h, h]
theorem whole_ev (ds : List Dm) (m : Int) (hC : okC ds) : cvF tab 60 [.agg [.ro ds.length (flatD ds), .int .i64 m]] = some (.agg ((wholeN ds m).map (.int .u8))) := by
  refine cvFA_R (mf := Mf.f60) rfl rfl (by kernel_rfl) ?_
  simp only [Mf.f60]
  cases g : goodC ds m with
  | false => simp [beqI, bneI, mm_min2, mm_max2, mm_min3, mm_max3, startE, lkE, lkX, lkE_rest, sx, substE, opVA, objs0, List.replicate, XA_seq, XA_region, XOA_go, goE_someA, opV, ev, putA, layAll, XOA_nil, XA_skip_seq, XA_skip_nil, XOA_gd, goG_tA, goG_uA, binV, binInt, unV, XA_ret_nil, XA_ret_cons, endFA_r, endFA_n, endTA_r, endTA_n, endRA_r, endRA_n, fltR, resultsA, resAs, resA, XA_block, XA_cond, pickX_t, pickX_f, pickX_b, XA_skip_blk, XA_skip_lp, XA_exit_seq, XA_exit_lp, XA_exit_blk, XA_exit_nil, load1, Ev.loadCells, objCells, bodyCells, setCells, AV.flat, AV.flat1, backR, backV, backCell, mapO, AV.cells, AV.atom, AV.tree, fillV, repeatL, treeCell, freezeAll, eqCells, callV_T, callV_F, passN, passV, passCell, srcCells, sliceBounds, hiB, loB, thenQ_nA, thenQ_xA, thenQ_rA, runK_nA, runK_xA, runK_rA, wrap_i64, wrap_u64, wrap_u32, wrap_u8, wrap_u16, sgood_ev ds m hC, g, wholeN, zero4]
  | true =>
    have hl := goodC_len g
    simp [beqI, bneI, mm_min2, mm_max2, mm_min3, mm_max3, startE, lkE, lkX, lkE_rest, sx, substE, opVA, objs0, List.replicate, XA_seq, XA_region, XOA_go, goE_someA, opV, ev, putA, layAll, XOA_nil, XA_skip_seq, XA_skip_nil, XOA_gd, goG_tA, goG_uA, binV, binInt, unV, XA_ret_nil, XA_ret_cons, endFA_r, endFA_n, endTA_r, endTA_n, endRA_r, endRA_n, fltR, resultsA, resAs, resA, XA_block, XA_cond, pickX_t, pickX_f, pickX_b, XA_skip_blk, XA_skip_lp, XA_exit_seq, XA_exit_lp, XA_exit_blk, XA_exit_nil, load1, Ev.loadCells, objCells, bodyCells, setCells, AV.flat, AV.flat1, backR, backV, backCell, mapO, AV.cells, AV.atom, AV.tree, fillV, repeatL, treeCell, freezeAll, eqCells, callV_T, callV_F, passN, passV, passCell, srcCells, sliceBounds, hiB, loB, thenQ_nA, thenQ_xA, thenQ_rA, runK_nA, runK_xA, runK_rA, wrap_i64, wrap_u64, wrap_u32, wrap_u8, wrap_u16, sgood_ev ds m hC, g]
    refine XA_for (fun i => ⟨[(2, .ptr 1 0 0), (3, .ptr 2 0 0), (11, .ro ds.length (flatD ds)), (12, .int .i64 ds.length), (13, .int .i64 i)], [⟨0, .none⟩, ⟨0, .var [.int .u8 0, .int .u8 0, .int .u8 0, .int .u8 0]⟩, ⟨0, .var ((fillW ds i).map (.int .u8))⟩, ⟨0, .none⟩]⟩)
      (fun _ => True) ds.length 0 (Nat.zero_le _) (by simp [AV.atom, normA, lkE, fixObjs, fixBody, fixV, fixCell, fillW]) trivial ?_ ?_
    · intro i _ hi _
      have hi' : (i : Int) < ds.length := by omega
      have hw := wOf_le g i
      have hwi : ((gD ds i).S.length : Int) = (wOf ds i : Int) := by unfold wOf; rw [if_pos hi]
      have hwr : IntKind.u8.wrap (wOf ds i : Int) = wOf ds i := wrap_u8 (by omega) (by omega)
      have h4 : i = 0 ∨ i = 1 ∨ i = 2 ∨ i = 3 := by omega
      have hd := dropD ds i hi
      have hws := wrap_succ i ds.length hi (by omega)
      rcases h4 with rfl | rfl | rfl | rfl
      · simp at hd hi' hws
        simp [beqI, bneI, mm_min2, mm_max2, mm_min3, mm_max3, startE, lkE, lkX, lkE_rest, sx, substE, opVA, objs0, List.replicate, XA_seq, XA_region, XOA_go, goE_someA, opV, ev, putA, layAll, XOA_nil, XA_skip_seq, XA_skip_nil, XOA_gd, goG_tA, goG_uA, binV, binInt, unV, XA_ret_nil, XA_ret_cons, endFA_r, endFA_n, endTA_r, endTA_n, endRA_r, endRA_n, fltR, resultsA, resAs, resA, XA_block, XA_cond, pickX_t, pickX_f, pickX_b, XA_skip_blk, XA_skip_lp, XA_exit_seq, XA_exit_lp, XA_exit_blk, XA_exit_nil, load1, Ev.loadCells, objCells, bodyCells, setCells, AV.flat, AV.flat1, backR, backV, backCell, mapO, AV.cells, AV.atom, AV.tree, fillV, repeatL, treeCell, freezeAll, eqCells, callV_T, callV_F, passN, passV, passCell, srcCells, sliceBounds, hiB, loB, thenQ_nA, thenQ_xA, thenQ_rA, runK_nA, runK_xA, runK_rA, wrap_i64, wrap_u64, wrap_u32, wrap_u8, wrap_u16, AV.atom, normA, lkE, fixObjs, fixBody, fixV, fixCell, hi, hi', hd, rI, rR, fillW, hwr, hwi, hws]
      · simp at hd hi' hws
        simp [beqI, bneI, mm_min2, mm_max2, mm_min3, mm_max3, startE, lkE, lkX, lkE_rest, sx, substE, opVA, objs0, List.replicate, XA_seq, XA_region, XOA_go, goE_someA, opV, ev, putA, layAll, XOA_nil, XA_skip_seq, XA_skip_nil, XOA_gd, goG_tA, goG_uA, binV, binInt, unV, XA_ret_nil, XA_ret_cons, endFA_r, endFA_n, endTA_r, endTA_n, endRA_r, endRA_n, fltR, resultsA, resAs, resA, XA_block, XA_cond, pickX_t, pickX_f, pickX_b, XA_skip_blk, XA_skip_lp, XA_exit_seq, XA_exit_lp, XA_exit_blk, XA_exit_nil, load1, Ev.loadCells, objCells, bodyCells, setCells, AV.flat, AV.flat1, backR, backV, backCell, mapO, AV.cells, AV.atom, AV.tree, fillV, repeatL, treeCell, freezeAll, eqCells, callV_T, callV_F, passN, passV, passCell, srcCells, sliceBounds, hiB, loB, thenQ_nA, thenQ_xA, thenQ_rA, runK_nA, runK_xA, runK_rA, wrap_i64, wrap_u64, wrap_u32, wrap_u8, wrap_u16, AV.atom, normA, lkE, fixObjs, fixBody, fixV, fixCell, hi, hi', hd, rI, rR, fillW, hwr, hwi, hws]
      · simp at hd hi' hws
        simp [beqI, bneI, mm_min2, mm_max2, mm_min3, mm_max3, startE, lkE, lkX, lkE_rest, sx, substE, opVA, objs0, List.replicate, XA_seq, XA_region, XOA_go, goE_someA, opV, ev, putA, layAll, XOA_nil, XA_skip_seq, XA_skip_nil, XOA_gd, goG_tA, goG_uA, binV, binInt, unV, XA_ret_nil, XA_ret_cons, endFA_r, endFA_n, endTA_r, endTA_n, endRA_r, endRA_n, fltR, resultsA, resAs, resA, XA_block, XA_cond, pickX_t, pickX_f, pickX_b, XA_skip_blk, XA_skip_lp, XA_exit_seq, XA_exit_lp, XA_exit_blk, XA_exit_nil, load1, Ev.loadCells, objCells, bodyCells, setCells, AV.flat, AV.flat1, backR, backV, backCell, mapO, AV.cells, AV.atom, AV.tree, fillV, repeatL, treeCell, freezeAll, eqCells, callV_T, callV_F, passN, passV, passCell, srcCells, sliceBounds, hiB, loB, thenQ_nA, thenQ_xA, thenQ_rA, runK_nA, runK_xA, runK_rA, wrap_i64, wrap_u64, wrap_u32, wrap_u8, wrap_u16, AV.atom, normA, lkE, fixObjs, fixBody, fixV, fixCell, hi, hi', hd, rI, rR, fillW, hwr, hwi, hws]
      · simp at hd hi' hws
        simp [beqI, bneI, mm_min2, mm_max2, mm_min3, mm_max3, startE, lkE, lkX, lkE_rest, sx, substE, opVA, objs0, List.replicate, XA_seq, XA_region, XOA_go, goE_someA, opV, ev, putA, layAll, XOA_nil, XA_skip_seq, XA_skip_nil, XOA_gd, goG_tA, goG_uA, binV, binInt, unV, XA_ret_nil, XA_ret_cons, endFA_r, endFA_n, endTA_r, endTA_n, endRA_r, endRA_n, fltR, resultsA, resAs, resA, XA_block, XA_cond, pickX_t, pickX_f, pickX_b, XA_skip_blk, XA_skip_lp, XA_exit_seq, XA_exit_lp, XA_exit_blk, XA_exit_nil, load1, Ev.loadCells, objCells, bodyCells, setCells, AV.flat, AV.flat1, backR, backV, backCell, mapO, AV.cells, AV.atom, AV.tree, fillV, repeatL, treeCell, freezeAll, eqCells, callV_T, callV_F, passN, passV, passCell, srcCells, sliceBounds, hiB, loB, thenQ_nA, thenQ_xA, thenQ_rA, runK_nA, runK_xA, runK_rA, wrap_i64, wrap_u64, wrap_u32, wrap_u8, wrap_u16, AV.atom, normA, lkE, fixObjs, fixBody, fixV, fixCell, hi, hi', hd, rI, rR, fillW, hwr, hwi, hws]
    · intro _
      have hf := fillW_all ds m g
      rw [hf]
      simp [beqI, bneI, mm_min2, mm_max2, mm_min3, mm_max3, startE, lkE, lkX, lkE_rest, sx, substE, opVA, objs0, List.replicate, XA_seq, XA_region, XOA_go, goE_someA, opV, ev, putA, layAll, XOA_nil, XA_skip_seq, XA_skip_nil, XOA_gd, goG_tA, goG_uA, binV, binInt, unV, XA_ret_nil, XA_ret_cons, endFA_r, endFA_n, endTA_r, endTA_n, endRA_r, endRA_n, fltR, resultsA, resAs, resA, XA_block, XA_cond, pickX_t, pickX_f, pickX_b, XA_skip_blk, XA_skip_lp, XA_exit_seq, XA_exit_lp, XA_exit_blk, XA_exit_nil, load1, Ev.loadCells, objCells, bodyCells, setCells, AV.flat, AV.flat1, backR, backV, backCell, mapO, AV.cells, AV.atom, AV.tree, fillV, repeatL, treeCell, freezeAll, eqCells, callV_T, callV_F, passN, passV, passCell, srcCells, sliceBounds, hiB, loB, thenQ_nA, thenQ_xA, thenQ_rA, runK_nA, runK_xA, runK_rA, wrap_i64, wrap_u64, wrap_u32, wrap_u8, wrap_u16, AV.atom, normA, lkE, fixObjs, fixBody, fixV, fixCell, wholeN, g]
def prodTo (f : Nat → Int) : Nat → Int
  | 0 => 1
  | n + 1 => prodTo f n * f n
theorem prodTo_in (f : Nat → Int) : ∀ (n : Nat), (∀ i, i < n → 0 ≤ f i ∧ f i ≤ 40) → 0 ≤ prodTo f n ∧ prodTo f n ≤ 40 ^ n
  | 0, _ => ⟨by simp [prodTo], by simp [prodTo]⟩
  | n + 1, h => by
    obtain ⟨h1, h2⟩ := prodTo_in f n fun i hi => h i (by omega)
    obtain ⟨h3, h4⟩ := h n (by omega)
    simp only [prodTo]
    refine ⟨Int.mul_nonneg h1 h3, ?_⟩
    rw [Int.pow_succ]
    exact Int.mul_le_mul h2 h4 h3 (Int.le_trans h1 h2)
theorem prodTo_small (f : Nat → Int) (n : Nat) (hn : n ≤ 4) (h : ∀ i, i < n → 0 ≤ f i ∧ f i ≤ 40) : 0 ≤ prodTo f n ∧ prodTo f n ≤ 2560000 := by
  obtain ⟨h1, h2⟩ := prodTo_in f n h
  refine ⟨h1, Int.le_trans h2 ?_⟩
  have : n = 0 ∨ n = 1 ∨ n = 2 ∨ n = 3 ∨ n = 4 := by omega
  rcases this with rfl | rfl | rfl | rfl | rfl <;> decide
def countC (ds : List Dm) (m : Int) : Int := if goodC ds m = true then prodTo (fun i => (wOf ds i : Int) + 1) ds.length else 0
def costC (ds : List Dm) (m : Int) (v : List Int) : Int := if goodN ds m v = true then prodTo (fun i => sizeD (gD ds i).S (gD ds i).U (gI v i)) ds.length else 0
theorem goodN_good {ds : List Dm} {m : Int} {v : List Int} (h : goodN ds m v = true) : goodC ds m = true := by
  unfold goodN rightC at h
  simp only [Bool.and_eq_true] at h
  exact h.1
end Go.Proofs.Ytambpbcdnhekbaa
