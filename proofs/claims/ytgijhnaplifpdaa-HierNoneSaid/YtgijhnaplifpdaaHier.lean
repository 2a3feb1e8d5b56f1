/- One dimension: what its functions come to. -/
import Derived.Test.YtgijhnaplifpdaaTab
set_option linter.unusedSimpArgs false
set_option linter.unusedVariables false
namespace Go.Proofs.Ytgijhnaplifpdaa
open Go.Ev
theorem between_ev (n lo hi : Int) : cvF tab 24 [.int .i64 n, .int .i64 lo, .int .i64 hi] = some (.bool (decide (lo ≤ n) && decide (n ≤ hi))) := by
  refine cvFA_R (mf := Mf.f24) rfl rfl (by kernel_rfl) ?_
  by_cases h1 : lo ≤ n <;> by_cases h2 : n ≤ hi <;> simp [Mf.f24, beqI, bneI, mm_min2, mm_max2, mm_min3, mm_max3, startE, lkE, lkX, lkE_rest, sx, substE, opVA, objs0, List.replicate, XA_seq, XA_region, XOA_go, goE_someA, opV, ev, putA, layAll, XOA_nil, XA_skip_seq, XA_skip_nil, XOA_gd, goG_tA, goG_uA, binV, binInt, unV, XA_ret_nil, XA_ret_cons, endFA_r, endFA_n, endTA_r, endTA_n, endRA_r, endRA_n, fltR, resultsA, resAs, resA, XA_block, XA_cond, pickX_t, pickX_f, pickX_b, XA_skip_blk, XA_skip_lp, XA_exit_seq, XA_exit_lp, XA_exit_blk, XA_exit_nil, load1, Ev.loadCells, objCells, bodyCells, setCells, AV.flat, AV.flat1, backR, backV, backCell, mapO, AV.cells, AV.atom, AV.tree, fillV, repeatL, treeCell, freezeAll, eqCells, callV_T, callV_F, passV, passCell, srcCells, sliceBounds, hiB, loB, thenQ_nA, thenQ_xA, thenQ_rA, runK_nA, runK_xA, runK_rA, wrap_i64, wrap_u64, wrap_u32, wrap_u8, wrap_u16, h1, h2]
/-- Numbers of a level below the next one's. -/
def inUp (next m : Int) : Bool := decide (0 ≤ m) && decide (m ≤ IntKind.i64.wrap (next - 1))
def upB (l : List Int) (members next : Int) : Bool := decide ((l.length : Int) = members) && l.all (inUp next)
theorem all_take_succ {α : Type} (p : α → Bool) (l : List α) (i : Nat) (h : i < l.length) : (l.take (i + 1)).all p = ((l.take i).all p && p (l[i])) := by
  rw [List.take_succ_eq_append_getElem h, List.all_append]; simp
theorem all_false {α : Type} (p : α → Bool) (l : List α) (i : Nat) (h : i < l.length) (hp : p (l[i]) = false) : l.all p = false := by
  rw [List.all_eq_false]
  exact ⟨l[i], List.getElem_mem h, by simp [hp]⟩
theorem up_ev (l : List Int) (members next : Int) (hl : l.length ≤ 9223372036854775807) : cvF tab 26 [rI l, .int .i64 members, .int .i64 next] = some (.bool (upB l members next)) := by
  refine cvFA_R (mf := Mf.f26) rfl rfl (by kernel_rfl) ?_
  by_cases h1 : members = l.length
  · subst h1
    simp only [Mf.f26, beqI, bneI, mm_min2, mm_max2, mm_min3, mm_max3, startE, lkE, lkX, lkE_rest, sx, substE, opVA, objs0, List.replicate, XA_seq, XA_region, XOA_go, goE_someA, opV, ev, putA, layAll, XOA_nil, XA_skip_seq, XA_skip_nil, XOA_gd, goG_tA, goG_uA, binV, binInt, unV, XA_ret_nil, XA_ret_cons, endFA_r, endFA_n, endTA_r, endTA_n, endRA_r, endRA_n, fltR, resultsA, resAs, resA, XA_block, XA_cond, pickX_t, pickX_f, pickX_b, XA_skip_blk, XA_skip_lp, XA_exit_seq, XA_exit_lp, XA_exit_blk, XA_exit_nil, load1, Ev.loadCells, objCells, bodyCells, setCells, AV.flat, AV.flat1, backR, backV, backCell, mapO, AV.cells, AV.atom, AV.tree, fillV, repeatL, treeCell, freezeAll, eqCells, callV_T, callV_F, passV, passCell, srcCells, sliceBounds, hiB, loB, thenQ_nA, thenQ_xA, thenQ_rA, runK_nA, runK_xA, runK_rA, wrap_i64, wrap_u64, wrap_u32, wrap_u8, wrap_u16, rI]
    simp [beqI, bneI, mm_min2, mm_max2, mm_min3, mm_max3, startE, lkE, lkX, lkE_rest, sx, substE, opVA, objs0, List.replicate, XA_seq, XA_region, XOA_go, goE_someA, opV, ev, putA, layAll, XOA_nil, XA_skip_seq, XA_skip_nil, XOA_gd, goG_tA, goG_uA, binV, binInt, unV, XA_ret_nil, XA_ret_cons, endFA_r, endFA_n, endTA_r, endTA_n, endRA_r, endRA_n, fltR, resultsA, resAs, resA, XA_block, XA_cond, pickX_t, pickX_f, pickX_b, XA_skip_blk, XA_skip_lp, XA_exit_seq, XA_exit_lp, XA_exit_blk, XA_exit_nil, load1, Ev.loadCells, objCells, bodyCells, setCells, AV.flat, AV.flat1, backR, backV, backCell, mapO, AV.cells, AV.atom, AV.tree, fillV, repeatL, treeCell, freezeAll, eqCells, callV_T, callV_F, passV, passCell, srcCells, sliceBounds, hiB, loB, thenQ_nA, thenQ_xA, thenQ_rA, runK_nA, runK_xA, runK_rA, wrap_i64, wrap_u64, wrap_u32, wrap_u8, wrap_u16]
    refine XA_for (fun i => ⟨[(2, .int .i64 next), (13, .ro l.length (l.map (.int .i64))), (14, .int .i64 l.length), (15, .int .i64 i)], []⟩)
      (fun i => (l.take i).all (inUp next) = true) l.length 0 (Nat.zero_le _) (by simp [AV.atom, normA, lkE, fixObjs, fixBody, fixV, fixCell]) (by simp) ?_ ?_
    · intro i _ hi hJ
      have hi' : (i : Int) < l.length := by omega
      cases hp : inUp next (l[i]) with
      | true =>
        have hq := hp
        unfold inUp at hq
        simp [beqI, bneI, mm_min2, mm_max2, mm_min3, mm_max3, startE, lkE, lkX, lkE_rest, sx, substE, opVA, objs0, List.replicate, XA_seq, XA_region, XOA_go, goE_someA, opV, ev, putA, layAll, XOA_nil, XA_skip_seq, XA_skip_nil, XOA_gd, goG_tA, goG_uA, binV, binInt, unV, XA_ret_nil, XA_ret_cons, endFA_r, endFA_n, endTA_r, endTA_n, endRA_r, endRA_n, fltR, resultsA, resAs, resA, XA_block, XA_cond, pickX_t, pickX_f, pickX_b, XA_skip_blk, XA_skip_lp, XA_exit_seq, XA_exit_lp, XA_exit_blk, XA_exit_nil, load1, Ev.loadCells, objCells, bodyCells, setCells, AV.flat, AV.flat1, backR, backV, backCell, mapO, AV.cells, AV.atom, AV.tree, fillV, repeatL, treeCell, freezeAll, eqCells, callV_T, callV_F, passV, passCell, srcCells, sliceBounds, hiB, loB, thenQ_nA, thenQ_xA, thenQ_rA, runK_nA, runK_xA, runK_rA, wrap_i64, wrap_u64, wrap_u32, wrap_u8, wrap_u16, AV.atom, normA, lkE, fixObjs, fixBody, fixV, fixCell, hi', idxI l i hi, between_ev, wrap_succ i l.length hi hl, hq, all_take_succ _ l i hi, hJ, hp]
      | false =>
        have hq := hp
        unfold inUp at hq
        simp [beqI, bneI, mm_min2, mm_max2, mm_min3, mm_max3, startE, lkE, lkX, lkE_rest, sx, substE, opVA, objs0, List.replicate, XA_seq, XA_region, XOA_go, goE_someA, opV, ev, putA, layAll, XOA_nil, XA_skip_seq, XA_skip_nil, XOA_gd, goG_tA, goG_uA, binV, binInt, unV, XA_ret_nil, XA_ret_cons, endFA_r, endFA_n, endTA_r, endTA_n, endRA_r, endRA_n, fltR, resultsA, resAs, resA, XA_block, XA_cond, pickX_t, pickX_f, pickX_b, XA_skip_blk, XA_skip_lp, XA_exit_seq, XA_exit_lp, XA_exit_blk, XA_exit_nil, load1, Ev.loadCells, objCells, bodyCells, setCells, AV.flat, AV.flat1, backR, backV, backCell, mapO, AV.cells, AV.atom, AV.tree, fillV, repeatL, treeCell, freezeAll, eqCells, callV_T, callV_F, passV, passCell, srcCells, sliceBounds, hiB, loB, thenQ_nA, thenQ_xA, thenQ_rA, runK_nA, runK_xA, runK_rA, wrap_i64, wrap_u64, wrap_u32, wrap_u8, wrap_u16, AV.atom, normA, lkE, fixObjs, fixBody, fixV, fixCell, hi', idxI l i hi, between_ev, hq, upB, all_false _ l i hi hp]
    · intro hJ
      simp [beqI, bneI, mm_min2, mm_max2, mm_min3, mm_max3, startE, lkE, lkX, lkE_rest, sx, substE, opVA, objs0, List.replicate, XA_seq, XA_region, XOA_go, goE_someA, opV, ev, putA, layAll, XOA_nil, XA_skip_seq, XA_skip_nil, XOA_gd, goG_tA, goG_uA, binV, binInt, unV, XA_ret_nil, XA_ret_cons, endFA_r, endFA_n, endTA_r, endTA_n, endRA_r, endRA_n, fltR, resultsA, resAs, resA, XA_block, XA_cond, pickX_t, pickX_f, pickX_b, XA_skip_blk, XA_skip_lp, XA_exit_seq, XA_exit_lp, XA_exit_blk, XA_exit_nil, load1, Ev.loadCells, objCells, bodyCells, setCells, AV.flat, AV.flat1, backR, backV, backCell, mapO, AV.cells, AV.atom, AV.tree, fillV, repeatL, treeCell, freezeAll, eqCells, callV_T, callV_F, passV, passCell, srcCells, sliceBounds, hiB, loB, thenQ_nA, thenQ_xA, thenQ_rA, runK_nA, runK_xA, runK_rA, wrap_i64, wrap_u64, wrap_u32, wrap_u8, wrap_u16, AV.atom, normA, lkE, fixObjs, fixBody, fixV, fixCell, upB]
      simpa using hJ
  · have h2 : ¬ (l.length : Int) = members := fun e => h1 e.symm
    simp [Mf.f26, beqI, bneI, mm_min2, mm_max2, mm_min3, mm_max3, startE, lkE, lkX, lkE_rest, sx, substE, opVA, objs0, List.replicate, XA_seq, XA_region, XOA_go, goE_someA, opV, ev, putA, layAll, XOA_nil, XA_skip_seq, XA_skip_nil, XOA_gd, goG_tA, goG_uA, binV, binInt, unV, XA_ret_nil, XA_ret_cons, endFA_r, endFA_n, endTA_r, endTA_n, endRA_r, endRA_n, fltR, resultsA, resAs, resA, XA_block, XA_cond, pickX_t, pickX_f, pickX_b, XA_skip_blk, XA_skip_lp, XA_exit_seq, XA_exit_lp, XA_exit_blk, XA_exit_nil, load1, Ev.loadCells, objCells, bodyCells, setCells, AV.flat, AV.flat1, backR, backV, backCell, mapO, AV.cells, AV.atom, AV.tree, fillV, repeatL, treeCell, freezeAll, eqCells, callV_T, callV_F, passV, passCell, srcCells, sliceBounds, hiB, loB, thenQ_nA, thenQ_xA, thenQ_rA, runK_nA, runK_xA, runK_rA, wrap_i64, wrap_u64, wrap_u32, wrap_u8, wrap_u16, rI, h2, upB]
def inSize (n : Int) : Bool := decide (1 ≤ n) && decide (n ≤ 40)
def upAt (S : List Int) (U : List (List Int)) (i : Nat) : Bool := upB (gR U i) (gI S i) (gI S (i + 1))
/-- May a dimension be? -/
def goodD (S : List Int) (U : List (List Int)) : Bool :=
  (decide (1 ≤ S.length) && decide (S.length ≤ 4)) && (decide (U.length + 1 = S.length) && (S.all inSize && (List.range U.length).all (upAt S U)))
/-- Rows that are no longer than can be. -/
def fitsU (U : List (List Int)) : Prop := U.length ≤ 9223372036854775807 ∧ ∀ l ∈ U, l.length ≤ 9223372036854775807
theorem range_take_succ (p : Nat → Bool) (i : Nat) : (List.range (i + 1)).all p = ((List.range i).all p && p i) := by
  rw [List.range_succ, List.all_append]; simp
theorem range_false (p : Nat → Bool) (n i : Nat) (h : i < n) (hp : p i = false) : (List.range n).all p = false := by
  rw [List.all_eq_false]
  exact ⟨i, List.mem_range.2 h, by simp [hp]⟩
theorem good_ev (S : List Int) (U : List (List Int)) (hS : S.length ≤ 9223372036854775807) (hU : fitsU U) : cvF tab 18 [.agg [rI S, rR U]] = some (.bool (goodD S U)) := by
  refine cvFA_R (mf := Mf.f18) rfl rfl (by kernel_rfl) ?_
  have hw : IntKind.i64.wrap ((S.length : Int) - 1) = (S.length : Int) - 1 := wrap_i64 (by omega) (by omega)
  simp only [Mf.f18]
  cases h1 : decide (1 ≤ S.length) && decide (S.length ≤ 4) with
  | false =>
    have h1' : (decide ((1 : Int) ≤ (S.length : Int)) && decide ((S.length : Int) ≤ 4)) = false := by
      rw [← h1]; congr 1 <;> simp <;> omega
    simp [beqI, bneI, mm_min2, mm_max2, mm_min3, mm_max3, startE, lkE, lkX, lkE_rest, sx, substE, opVA, objs0, List.replicate, XA_seq, XA_region, XOA_go, goE_someA, opV, ev, putA, layAll, XOA_nil, XA_skip_seq, XA_skip_nil, XOA_gd, goG_tA, goG_uA, binV, binInt, unV, XA_ret_nil, XA_ret_cons, endFA_r, endFA_n, endTA_r, endTA_n, endRA_r, endRA_n, fltR, resultsA, resAs, resA, XA_block, XA_cond, pickX_t, pickX_f, pickX_b, XA_skip_blk, XA_skip_lp, XA_exit_seq, XA_exit_lp, XA_exit_blk, XA_exit_nil, load1, Ev.loadCells, objCells, bodyCells, setCells, AV.flat, AV.flat1, backR, backV, backCell, mapO, AV.cells, AV.atom, AV.tree, fillV, repeatL, treeCell, freezeAll, eqCells, callV_T, callV_F, passV, passCell, srcCells, sliceBounds, hiB, loB, thenQ_nA, thenQ_xA, thenQ_rA, runK_nA, runK_xA, runK_rA, wrap_i64, wrap_u64, wrap_u32, wrap_u8, wrap_u16, rI, rR, between_ev, h1', goodD, h1]
  | true =>
    have h1' : (decide ((1 : Int) ≤ (S.length : Int)) && decide ((S.length : Int) ≤ 4)) = true := by
      simp at h1 ⊢; omega
    by_cases h2 : U.length + 1 = S.length
    · have h2' : (U.length : Int) = (S.length : Int) - 1 := by omega
      simp [beqI, bneI, mm_min2, mm_max2, mm_min3, mm_max3, startE, lkE, lkX, lkE_rest, sx, substE, opVA, objs0, List.replicate, XA_seq, XA_region, XOA_go, goE_someA, opV, ev, putA, layAll, XOA_nil, XA_skip_seq, XA_skip_nil, XOA_gd, goG_tA, goG_uA, binV, binInt, unV, XA_ret_nil, XA_ret_cons, endFA_r, endFA_n, endTA_r, endTA_n, endRA_r, endRA_n, fltR, resultsA, resAs, resA, XA_block, XA_cond, pickX_t, pickX_f, pickX_b, XA_skip_blk, XA_skip_lp, XA_exit_seq, XA_exit_lp, XA_exit_blk, XA_exit_nil, load1, Ev.loadCells, objCells, bodyCells, setCells, AV.flat, AV.flat1, backR, backV, backCell, mapO, AV.cells, AV.atom, AV.tree, fillV, repeatL, treeCell, freezeAll, eqCells, callV_T, callV_F, passV, passCell, srcCells, sliceBounds, hiB, loB, thenQ_nA, thenQ_xA, thenQ_rA, runK_nA, runK_xA, runK_rA, wrap_i64, wrap_u64, wrap_u32, wrap_u8, wrap_u16, rI, rR, between_ev, h1', hw, h2']
      refine XA_for (fun i => ⟨[(1, .ptr 0 0 0), (22, .ro S.length (S.map (.int .i64))), (23, .int .i64 S.length), (24, .int .i64 i)], [⟨0, .var [.ro S.length (S.map (.int .i64)), .ro U.length (U.map rI)]⟩]⟩)
        (fun i => (S.take i).all inSize = true) S.length 0 (Nat.zero_le _) (by simp [AV.atom, normA, lkE, fixObjs, fixBody, fixV, fixCell]) (by simp) ?_ ?_
      · intro i _ hi hJ
        have hi' : (i : Int) < S.length := by omega
        cases hp : inSize (S[i]) with
        | true =>
          have hq := hp
          unfold inSize at hq
          simp [beqI, bneI, mm_min2, mm_max2, mm_min3, mm_max3, startE, lkE, lkX, lkE_rest, sx, substE, opVA, objs0, List.replicate, XA_seq, XA_region, XOA_go, goE_someA, opV, ev, putA, layAll, XOA_nil, XA_skip_seq, XA_skip_nil, XOA_gd, goG_tA, goG_uA, binV, binInt, unV, XA_ret_nil, XA_ret_cons, endFA_r, endFA_n, endTA_r, endTA_n, endRA_r, endRA_n, fltR, resultsA, resAs, resA, XA_block, XA_cond, pickX_t, pickX_f, pickX_b, XA_skip_blk, XA_skip_lp, XA_exit_seq, XA_exit_lp, XA_exit_blk, XA_exit_nil, load1, Ev.loadCells, objCells, bodyCells, setCells, AV.flat, AV.flat1, backR, backV, backCell, mapO, AV.cells, AV.atom, AV.tree, fillV, repeatL, treeCell, freezeAll, eqCells, callV_T, callV_F, passV, passCell, srcCells, sliceBounds, hiB, loB, thenQ_nA, thenQ_xA, thenQ_rA, runK_nA, runK_xA, runK_rA, wrap_i64, wrap_u64, wrap_u32, wrap_u8, wrap_u16, AV.atom, normA, lkE, fixObjs, fixBody, fixV, fixCell, hi', idxI S i hi, between_ev, wrap_succ i S.length hi hS, hq, all_take_succ _ S i hi, hJ, hp]
        | false =>
          have hq := hp
          unfold inSize at hq
          simp [beqI, bneI, mm_min2, mm_max2, mm_min3, mm_max3, startE, lkE, lkX, lkE_rest, sx, substE, opVA, objs0, List.replicate, XA_seq, XA_region, XOA_go, goE_someA, opV, ev, putA, layAll, XOA_nil, XA_skip_seq, XA_skip_nil, XOA_gd, goG_tA, goG_uA, binV, binInt, unV, XA_ret_nil, XA_ret_cons, endFA_r, endFA_n, endTA_r, endTA_n, endRA_r, endRA_n, fltR, resultsA, resAs, resA, XA_block, XA_cond, pickX_t, pickX_f, pickX_b, XA_skip_blk, XA_skip_lp, XA_exit_seq, XA_exit_lp, XA_exit_blk, XA_exit_nil, load1, Ev.loadCells, objCells, bodyCells, setCells, AV.flat, AV.flat1, backR, backV, backCell, mapO, AV.cells, AV.atom, AV.tree, fillV, repeatL, treeCell, freezeAll, eqCells, callV_T, callV_F, passV, passCell, srcCells, sliceBounds, hiB, loB, thenQ_nA, thenQ_xA, thenQ_rA, runK_nA, runK_xA, runK_rA, wrap_i64, wrap_u64, wrap_u32, wrap_u8, wrap_u16, AV.atom, normA, lkE, fixObjs, fixBody, fixV, fixCell, hi', idxI S i hi, between_ev, hq, goodD, all_false _ S i hi hp]
      · intro hJ
        rw [List.take_length] at hJ
        simp [beqI, bneI, mm_min2, mm_max2, mm_min3, mm_max3, startE, lkE, lkX, lkE_rest, sx, substE, opVA, objs0, List.replicate, XA_seq, XA_region, XOA_go, goE_someA, opV, ev, putA, layAll, XOA_nil, XA_skip_seq, XA_skip_nil, XOA_gd, goG_tA, goG_uA, binV, binInt, unV, XA_ret_nil, XA_ret_cons, endFA_r, endFA_n, endTA_r, endTA_n, endRA_r, endRA_n, fltR, resultsA, resAs, resA, XA_block, XA_cond, pickX_t, pickX_f, pickX_b, XA_skip_blk, XA_skip_lp, XA_exit_seq, XA_exit_lp, XA_exit_blk, XA_exit_nil, load1, Ev.loadCells, objCells, bodyCells, setCells, AV.flat, AV.flat1, backR, backV, backCell, mapO, AV.cells, AV.atom, AV.tree, fillV, repeatL, treeCell, freezeAll, eqCells, callV_T, callV_F, passV, passCell, srcCells, sliceBounds, hiB, loB, thenQ_nA, thenQ_xA, thenQ_rA, runK_nA, runK_xA, runK_rA, wrap_i64, wrap_u64, wrap_u32, wrap_u8, wrap_u16, AV.atom, normA, lkE, fixObjs, fixBody, fixV, fixCell]
        refine XA_for (fun i => ⟨[(1, .ptr 0 0 0), (34, .int .i64 U.length), (35, .int .i64 i)], [⟨0, .var [.ro S.length (S.map (.int .i64)), .ro U.length (U.map rI)]⟩]⟩)
          (fun i => (List.range i).all (upAt S U) = true) U.length 0 (Nat.zero_le _) (by simp [AV.atom, normA, lkE, fixObjs, fixBody, fixV, fixCell]) (by simp) ?_ ?_
        · intro i _ hi hJ2
          have hi' : (i : Int) < U.length := by omega
          have hs1 : i < S.length := by omega
          have hs2 : i + 1 < S.length := by omega
          have hs1' : (i : Int) < S.length := by omega
          have hs2' : (i : Int) + 1 < S.length := by omega
          have hs0 : (0 : Int) ≤ (i : Int) + 1 := by omega
          have hsn : ((i : Int) + 1).toNat = i + 1 := by omega
          have hu : (U[i]).length ≤ 9223372036854775807 := hU.2 _ (List.getElem_mem hi)
          have hup : upAt S U i = upB (U[i]) (S[i]) (S[i + 1]) := by
            unfold upAt
            rw [gR_get _ _ hi, gI_get _ _ hs1, gI_get _ _ hs2]
          have hupe := up_ev (U[i]) (S[i]) (S[i + 1]) hu
          simp only [rI] at hupe
          cases hp : upAt S U i with
          | true =>
            rw [hup] at hp
            rw [hp] at hupe
            simp [beqI, bneI, mm_min2, mm_max2, mm_min3, mm_max3, startE, lkE, lkX, lkE_rest, sx, substE, opVA, objs0, List.replicate, XA_seq, XA_region, XOA_go, goE_someA, opV, ev, putA, layAll, XOA_nil, XA_skip_seq, XA_skip_nil, XOA_gd, goG_tA, goG_uA, binV, binInt, unV, XA_ret_nil, XA_ret_cons, endFA_r, endFA_n, endTA_r, endTA_n, endRA_r, endRA_n, fltR, resultsA, resAs, resA, XA_block, XA_cond, pickX_t, pickX_f, pickX_b, XA_skip_blk, XA_skip_lp, XA_exit_seq, XA_exit_lp, XA_exit_blk, XA_exit_nil, load1, Ev.loadCells, objCells, bodyCells, setCells, AV.flat, AV.flat1, backR, backV, backCell, mapO, AV.cells, AV.atom, AV.tree, fillV, repeatL, treeCell, freezeAll, eqCells, callV_T, callV_F, passV, passCell, srcCells, sliceBounds, hiB, loB, thenQ_nA, thenQ_xA, thenQ_rA, runK_nA, runK_xA, runK_rA, wrap_i64, wrap_u64, wrap_u32, wrap_u8, wrap_u16, AV.atom, normA, lkE, fixObjs, fixBody, fixV, fixCell, hi', idxI S i hs1, idxI S (i + 1) hs2, idxR U i hi, hs1', hs2', hs0, hsn, wrap_succ i U.length hi hU.1, rI, hupe, range_take_succ, hJ2, hup, hp]
          | false =>
            have hf := range_false _ U.length i hi hp
            rw [hup] at hp
            rw [hp] at hupe
            simp [beqI, bneI, mm_min2, mm_max2, mm_min3, mm_max3, startE, lkE, lkX, lkE_rest, sx, substE, opVA, objs0, List.replicate, XA_seq, XA_region, XOA_go, goE_someA, opV, ev, putA, layAll, XOA_nil, XA_skip_seq, XA_skip_nil, XOA_gd, goG_tA, goG_uA, binV, binInt, unV, XA_ret_nil, XA_ret_cons, endFA_r, endFA_n, endTA_r, endTA_n, endRA_r, endRA_n, fltR, resultsA, resAs, resA, XA_block, XA_cond, pickX_t, pickX_f, pickX_b, XA_skip_blk, XA_skip_lp, XA_exit_seq, XA_exit_lp, XA_exit_blk, XA_exit_nil, load1, Ev.loadCells, objCells, bodyCells, setCells, AV.flat, AV.flat1, backR, backV, backCell, mapO, AV.cells, AV.atom, AV.tree, fillV, repeatL, treeCell, freezeAll, eqCells, callV_T, callV_F, passV, passCell, srcCells, sliceBounds, hiB, loB, thenQ_nA, thenQ_xA, thenQ_rA, runK_nA, runK_xA, runK_rA, wrap_i64, wrap_u64, wrap_u32, wrap_u8, wrap_u16, AV.atom, normA, lkE, fixObjs, fixBody, fixV, fixCell, hi', idxI S i hs1, idxI S (i + 1) hs2, idxR U i hi, hs1', hs2', hs0, hsn, wrap_succ i U.length hi hU.1, rI, hupe, goodD, hf]
        · intro hJ2
          simp [beqI, bneI, mm_min2, mm_max2, mm_min3, mm_max3, startE, lkE, lkX, lkE_rest, sx, substE, opVA, objs0, List.replicate, XA_seq, XA_region, XOA_go, goE_someA, opV, ev, putA, layAll, XOA_nil, XA_skip_seq, XA_skip_nil, XOA_gd, goG_tA, goG_uA, binV, binInt, unV, XA_ret_nil, XA_ret_cons, endFA_r, endFA_n, endTA_r, endTA_n, endRA_r, endRA_n, fltR, resultsA, resAs, resA, XA_block, XA_cond, pickX_t, pickX_f, pickX_b, XA_skip_blk, XA_skip_lp, XA_exit_seq, XA_exit_lp, XA_exit_blk, XA_exit_nil, load1, Ev.loadCells, objCells, bodyCells, setCells, AV.flat, AV.flat1, backR, backV, backCell, mapO, AV.cells, AV.atom, AV.tree, fillV, repeatL, treeCell, freezeAll, eqCells, callV_T, callV_F, passV, passCell, srcCells, sliceBounds, hiB, loB, thenQ_nA, thenQ_xA, thenQ_rA, runK_nA, runK_xA, runK_rA, wrap_i64, wrap_u64, wrap_u32, wrap_u8, wrap_u16, AV.atom, normA, lkE, fixObjs, fixBody, fixV, fixCell, goodD, h1, h2, hJ, hJ2]
    · have h2' : ¬ (U.length : Int) = (S.length : Int) - 1 := by omega
      simp [beqI, bneI, mm_min2, mm_max2, mm_min3, mm_max3, startE, lkE, lkX, lkE_rest, sx, substE, opVA, objs0, List.replicate, XA_seq, XA_region, XOA_go, goE_someA, opV, ev, putA, layAll, XOA_nil, XA_skip_seq, XA_skip_nil, XOA_gd, goG_tA, goG_uA, binV, binInt, unV, XA_ret_nil, XA_ret_cons, endFA_r, endFA_n, endTA_r, endTA_n, endRA_r, endRA_n, fltR, resultsA, resAs, resA, XA_block, XA_cond, pickX_t, pickX_f, pickX_b, XA_skip_blk, XA_skip_lp, XA_exit_seq, XA_exit_lp, XA_exit_blk, XA_exit_nil, load1, Ev.loadCells, objCells, bodyCells, setCells, AV.flat, AV.flat1, backR, backV, backCell, mapO, AV.cells, AV.atom, AV.tree, fillV, repeatL, treeCell, freezeAll, eqCells, callV_T, callV_F, passV, passCell, srcCells, sliceBounds, hiB, loB, thenQ_nA, thenQ_xA, thenQ_rA, runK_nA, runK_xA, runK_rA, wrap_i64, wrap_u64, wrap_u32, wrap_u8, wrap_u16, rI, rR, between_ev, h1', hw, h2', goodD, h2]
/-- How many members. -/
def sizeD (S : List Int) (U : List (List Int)) (lv : Int) : Int :=
  if goodD S U = true ∧ 0 ≤ lv ∧ lv ≤ S.length then (if lv = S.length then 1 else gI S lv.toNat) else 0
theorem size_ev (S : List Int) (U : List (List Int)) (lv : Int) (hS : S.length ≤ 9223372036854775807) (hU : fitsU U) : cvF tab 19 [.agg [rI S, rR U], .int .i64 lv] = some (.int .i64 (sizeD S U lv)) := by
  refine cvFA_R (mf := Mf.f19) rfl rfl (by kernel_rfl) ?_
  have hg := good_ev S U hS hU
  simp only [rI, rR] at hg
  simp only [Mf.f19]
  cases h1 : goodD S U with
  | false => simp [beqI, bneI, mm_min2, mm_max2, mm_min3, mm_max3, startE, lkE, lkX, lkE_rest, sx, substE, opVA, objs0, List.replicate, XA_seq, XA_region, XOA_go, goE_someA, opV, ev, putA, layAll, XOA_nil, XA_skip_seq, XA_skip_nil, XOA_gd, goG_tA, goG_uA, binV, binInt, unV, XA_ret_nil, XA_ret_cons, endFA_r, endFA_n, endTA_r, endTA_n, endRA_r, endRA_n, fltR, resultsA, resAs, resA, XA_block, XA_cond, pickX_t, pickX_f, pickX_b, XA_skip_blk, XA_skip_lp, XA_exit_seq, XA_exit_lp, XA_exit_blk, XA_exit_nil, load1, Ev.loadCells, objCells, bodyCells, setCells, AV.flat, AV.flat1, backR, backV, backCell, mapO, AV.cells, AV.atom, AV.tree, fillV, repeatL, treeCell, freezeAll, eqCells, callV_T, callV_F, passV, passCell, srcCells, sliceBounds, hiB, loB, thenQ_nA, thenQ_xA, thenQ_rA, runK_nA, runK_xA, runK_rA, wrap_i64, wrap_u64, wrap_u32, wrap_u8, wrap_u16, rI, rR, hg, h1, sizeD]
  | true =>
    by_cases h2 : 0 ≤ lv
    · by_cases h3 : lv ≤ S.length
      · by_cases h4 : lv = S.length
        · subst h4
          simp [beqI, bneI, mm_min2, mm_max2, mm_min3, mm_max3, startE, lkE, lkX, lkE_rest, sx, substE, opVA, objs0, List.replicate, XA_seq, XA_region, XOA_go, goE_someA, opV, ev, putA, layAll, XOA_nil, XA_skip_seq, XA_skip_nil, XOA_gd, goG_tA, goG_uA, binV, binInt, unV, XA_ret_nil, XA_ret_cons, endFA_r, endFA_n, endTA_r, endTA_n, endRA_r, endRA_n, fltR, resultsA, resAs, resA, XA_block, XA_cond, pickX_t, pickX_f, pickX_b, XA_skip_blk, XA_skip_lp, XA_exit_seq, XA_exit_lp, XA_exit_blk, XA_exit_nil, load1, Ev.loadCells, objCells, bodyCells, setCells, AV.flat, AV.flat1, backR, backV, backCell, mapO, AV.cells, AV.atom, AV.tree, fillV, repeatL, treeCell, freezeAll, eqCells, callV_T, callV_F, passV, passCell, srcCells, sliceBounds, hiB, loB, thenQ_nA, thenQ_xA, thenQ_rA, runK_nA, runK_xA, runK_rA, wrap_i64, wrap_u64, wrap_u32, wrap_u8, wrap_u16, rI, rR, hg, h1, between_ev, sizeD]
        · have h5 : lv < S.length := by omega
          simp [beqI, bneI, mm_min2, mm_max2, mm_min3, mm_max3, startE, lkE, lkX, lkE_rest, sx, substE, opVA, objs0, List.replicate, XA_seq, XA_region, XOA_go, goE_someA, opV, ev, putA, layAll, XOA_nil, XA_skip_seq, XA_skip_nil, XOA_gd, goG_tA, goG_uA, binV, binInt, unV, XA_ret_nil, XA_ret_cons, endFA_r, endFA_n, endTA_r, endTA_n, endRA_r, endRA_n, fltR, resultsA, resAs, resA, XA_block, XA_cond, pickX_t, pickX_f, pickX_b, XA_skip_blk, XA_skip_lp, XA_exit_seq, XA_exit_lp, XA_exit_blk, XA_exit_nil, load1, Ev.loadCells, objCells, bodyCells, setCells, AV.flat, AV.flat1, backR, backV, backCell, mapO, AV.cells, AV.atom, AV.tree, fillV, repeatL, treeCell, freezeAll, eqCells, callV_T, callV_F, passV, passCell, srcCells, sliceBounds, hiB, loB, thenQ_nA, thenQ_xA, thenQ_rA, runK_nA, runK_xA, runK_rA, wrap_i64, wrap_u64, wrap_u32, wrap_u8, wrap_u16, rI, rR, hg, h1, between_ev, sizeD, h2, h3, h4, h5, idxI' S lv h2 h5]
      · simp [beqI, bneI, mm_min2, mm_max2, mm_min3, mm_max3, startE, lkE, lkX, lkE_rest, sx, substE, opVA, objs0, List.replicate, XA_seq, XA_region, XOA_go, goE_someA, opV, ev, putA, layAll, XOA_nil, XA_skip_seq, XA_skip_nil, XOA_gd, goG_tA, goG_uA, binV, binInt, unV, XA_ret_nil, XA_ret_cons, endFA_r, endFA_n, endTA_r, endTA_n, endRA_r, endRA_n, fltR, resultsA, resAs, resA, XA_block, XA_cond, pickX_t, pickX_f, pickX_b, XA_skip_blk, XA_skip_lp, XA_exit_seq, XA_exit_lp, XA_exit_blk, XA_exit_nil, load1, Ev.loadCells, objCells, bodyCells, setCells, AV.flat, AV.flat1, backR, backV, backCell, mapO, AV.cells, AV.atom, AV.tree, fillV, repeatL, treeCell, freezeAll, eqCells, callV_T, callV_F, passV, passCell, srcCells, sliceBounds, hiB, loB, thenQ_nA, thenQ_xA, thenQ_rA, runK_nA, runK_xA, runK_rA, wrap_i64, wrap_u64, wrap_u32, wrap_u8, wrap_u16, rI, rR, hg, h1, between_ev, sizeD, h2, h3]
    · simp [beqI, bneI, mm_min2, mm_max2, mm_min3, mm_max3, startE, lkE, lkX, lkE_rest, sx, substE, opVA, objs0, List.replicate, XA_seq, XA_region, XOA_go, goE_someA, opV, ev, putA, layAll, XOA_nil, XA_skip_seq, XA_skip_nil, XOA_gd, goG_tA, goG_uA, binV, binInt, unV, XA_ret_nil, XA_ret_cons, endFA_r, endFA_n, endTA_r, endTA_n, endRA_r, endRA_n, fltR, resultsA, resAs, resA, XA_block, XA_cond, pickX_t, pickX_f, pickX_b, XA_skip_blk, XA_skip_lp, XA_exit_seq, XA_exit_lp, XA_exit_blk, XA_exit_nil, load1, Ev.loadCells, objCells, bodyCells, setCells, AV.flat, AV.flat1, backR, backV, backCell, mapO, AV.cells, AV.atom, AV.tree, fillV, repeatL, treeCell, freezeAll, eqCells, callV_T, callV_F, passV, passCell, srcCells, sliceBounds, hiB, loB, thenQ_nA, thenQ_xA, thenQ_rA, runK_nA, runK_xA, runK_rA, wrap_i64, wrap_u64, wrap_u32, wrap_u8, wrap_u16, rI, rR, hg, h1, between_ev, sizeD, h2]
/-! ### Lifting -/
/-- n levels up from level a. -/
def liftN (U : List (List Int)) (a : Nat) (m : Int) : Nat → Int
  | 0 => m
  | n + 1 => gI (gR U (a + n)) (liftN U a m n).toNat
theorem good_len {S : List Int} {U : List (List Int)} (h : goodD S U = true) : 1 ≤ S.length ∧ S.length ≤ 4 ∧ U.length + 1 = S.length := by
  simp [goodD] at h
  omega
theorem good_size {S : List Int} {U : List (List Int)} (h : goodD S U = true) {i : Nat} (hi : i < S.length) : 1 ≤ gI S i ∧ gI S i ≤ 40 := by
  simp [goodD, inSize] at h
  rw [gI_get S i hi]
  exact h.2.2.1 _ (List.getElem_mem hi)
theorem good_up {S : List Int} {U : List (List Int)} (h : goodD S U = true) {i : Nat} (hi : i < U.length) :
    ((gR U i).length : Int) = gI S i ∧ ∀ k, k < (gR U i).length → 0 ≤ gI (gR U i) k ∧ gI (gR U i) k < gI S (i + 1) := by
  have hl := good_len h
  have hs := good_size h (i := i + 1) (by omega)
  have h2 : upAt S U i = true := by
    unfold goodD at h
    simp only [Bool.and_eq_true, List.all_eq_true, List.mem_range] at h
    exact h.2.2.2 i hi
  unfold upAt upB at h2
  simp only [Bool.and_eq_true, decide_eq_true_eq, List.all_eq_true] at h2
  refine ⟨h2.1, fun k hk => ?_⟩
  have h3 := h2.2 _ (List.getElem_mem hk)
  unfold inUp at h3
  simp only [Bool.and_eq_true, decide_eq_true_eq] at h3
  rw [wrap_i64 (by omega) (by omega)] at h3
  rw [gI_get _ k hk]
  omega
theorem liftN_in {S : List Int} {U : List (List Int)} (h : goodD S U = true) {a : Nat} {m : Int} (h0 : 0 ≤ m) (hm : m < gI S a) : ∀ {n : Nat}, a + n < S.length → 0 ≤ liftN U a m n ∧ liftN U a m n < gI S (a + n)
  | 0, _ => ⟨h0, hm⟩
  | n + 1, hn => by
    have hl := good_len h
    obtain ⟨h1, h2⟩ := liftN_in h h0 hm (n := n) (by omega)
    obtain ⟨h3, h4⟩ := good_up h (i := a + n) (by omega)
    exact h4 _ (by omega)
/-- Whose member: of level b. -/
def liftD (S : List Int) (U : List (List Int)) (a b : Nat) (m : Int) : Int := if b = S.length then 0 else liftN U a m (b - a)
theorem sizeD_at {S : List Int} {U : List (List Int)} (h : goodD S U = true) {i : Nat} (hi : i < S.length) : sizeD S U i = gI S i := by
  have h1 : ¬ (i : Int) = S.length := by omega
  have h2 : (i : Int) ≤ S.length := by omega
  simp [sizeD, h, h1, h2]
theorem sizeD_end {S : List Int} {U : List (List Int)} (h : goodD S U = true) : sizeD S U S.length = 1 := by
  simp [sizeD, h]
theorem sizeD_range (S : List Int) (U : List (List Int)) (lv : Int) : 0 ≤ sizeD S U lv ∧ sizeD S U lv ≤ 40 := by
  unfold sizeD
  split
  · rename_i h
    split
    · omega
    · have h2 := good_size h.1 (i := lv.toNat) (by omega)
      omega
  · omega
theorem sizeD_ne {S : List Int} {U : List (List Int)} {lv : Int} (h : sizeD S U lv ≠ 0) : goodD S U = true ∧ 0 ≤ lv ∧ lv ≤ S.length := by
  unfold sizeD at h
  by_cases c : goodD S U = true ∧ 0 ≤ lv ∧ lv ≤ S.length
  · exact c
  · rw [if_neg c] at h; exact absurd rfl h
theorem liftD_in {S : List Int} {U : List (List Int)} (h : goodD S U = true) {a b : Nat} {m : Int} (hab : a ≤ b) (hb : b ≤ S.length) (h0 : 0 ≤ m) (hm : m < sizeD S U a) : 0 ≤ liftD S U a b m ∧ liftD S U a b m < sizeD S U b := by
  unfold liftD
  split
  · rename_i e
    rw [e, sizeD_end h]; omega
  · rw [sizeD_at h (by omega)] at hm ⊢
    have := liftN_in h h0 hm (n := b - a) (by omega)
    rw [show a + (b - a) = b from by omega] at this
    exact this
/-- May a member be lifted? -/
def liftOk (S : List Int) (U : List (List Int)) (a b m : Int) : Bool := decide (a ≤ b) && (decide (sizeD S U b ≠ 0) && (decide (0 ≤ m) && decide (m < sizeD S U a)))
/-- Who of the first n is under a member. -/
def underP (S : List Int) (U : List (List Int)) (b m a : Int) (n : Nat) : List Int := ((List.range n).filter fun (k : Nat) => decide (liftD S U a.toNat b.toNat (k : Int) = m)).map fun (k : Nat) => (k : Int)
/-- Who is under a member. -/
def underD (S : List Int) (U : List (List Int)) (b m a : Int) : List Int :=
  if a ≤ b ∧ 0 ≤ m ∧ m < sizeD S U b then underP S U b m a (sizeD S U a).toNat else []
theorem underP_succ (S : List Int) (U : List (List Int)) (b m a : Int) (i : Nat) : underP S U b m a (i + 1) = if liftD S U a.toNat b.toNat (i : Int) = m then underP S U b m a i ++ [(i : Int)] else underP S U b m a i := by
  unfold underP
  rw [List.range_succ, List.filter_append, List.map_append]
  by_cases h : liftD S U a.toNat b.toNat (i : Int) = m <;> simp [h]
theorem underP_len (S : List Int) (U : List (List Int)) (b m a : Int) (n : Nat) : (underP S U b m a n).length ≤ n := by
  unfold underP
  rw [List.length_map]
  have := List.length_filter_le (fun (k : Nat) => decide (liftD S U a.toNat b.toNat (k : Int) = m)) (List.range n)
  rw [List.length_range] at this
  exact this
theorem lift_ev {S : List Int} {U : List (List Int)} (h : goodD S U = true) {a b : Nat} {m : Int} (hab : a ≤ b) (hb : b ≤ S.length) (h0 : 0 ≤ m) (hm : m < sizeD S U a) : cvF tab 25 [.agg [rI S, rR U], .int .i64 a, .int .i64 b, .int .i64 m] = some (.int .i64 (liftD S U a b m)) := by
  refine cvFA_R (mf := Mf.f25) rfl rfl (by kernel_rfl) ?_
  simp only [Mf.f25]
  have hl := good_len h
  by_cases e : b = S.length
  · subst e
    simp [beqI, bneI, mm_min2, mm_max2, mm_min3, mm_max3, startE, lkE, lkX, lkE_rest, sx, substE, opVA, objs0, List.replicate, XA_seq, XA_region, XOA_go, goE_someA, opV, ev, putA, layAll, XOA_nil, XA_skip_seq, XA_skip_nil, XOA_gd, goG_tA, goG_uA, binV, binInt, unV, XA_ret_nil, XA_ret_cons, endFA_r, endFA_n, endTA_r, endTA_n, endRA_r, endRA_n, fltR, resultsA, resAs, resA, XA_block, XA_cond, pickX_t, pickX_f, pickX_b, XA_skip_blk, XA_skip_lp, XA_exit_seq, XA_exit_lp, XA_exit_blk, XA_exit_nil, load1, Ev.loadCells, objCells, bodyCells, setCells, AV.flat, AV.flat1, backR, backV, backCell, mapO, AV.cells, AV.atom, AV.tree, fillV, repeatL, treeCell, freezeAll, eqCells, callV_T, callV_F, passV, passCell, srcCells, sliceBounds, hiB, loB, thenQ_nA, thenQ_xA, thenQ_rA, runK_nA, runK_xA, runK_rA, wrap_i64, wrap_u64, wrap_u32, wrap_u8, wrap_u16, rI, rR, liftD]
  · have e' : ¬ (b : Int) = S.length := by omega
    have hw : IntKind.i64.wrap ((b : Int) - (a : Int)) = ((b - a : Nat) : Int) := by rw [wrap_i64 (by omega) (by omega)]; omega
    rw [sizeD_at h (by omega)] at hm
    simp [beqI, bneI, mm_min2, mm_max2, mm_min3, mm_max3, startE, lkE, lkX, lkE_rest, sx, substE, opVA, objs0, List.replicate, XA_seq, XA_region, XOA_go, goE_someA, opV, ev, putA, layAll, XOA_nil, XA_skip_seq, XA_skip_nil, XOA_gd, goG_tA, goG_uA, binV, binInt, unV, XA_ret_nil, XA_ret_cons, endFA_r, endFA_n, endTA_r, endTA_n, endRA_r, endRA_n, fltR, resultsA, resAs, resA, XA_block, XA_cond, pickX_t, pickX_f, pickX_b, XA_skip_blk, XA_skip_lp, XA_exit_seq, XA_exit_lp, XA_exit_blk, XA_exit_nil, load1, Ev.loadCells, objCells, bodyCells, setCells, AV.flat, AV.flat1, backR, backV, backCell, mapO, AV.cells, AV.atom, AV.tree, fillV, repeatL, treeCell, freezeAll, eqCells, callV_T, callV_F, passV, passCell, srcCells, sliceBounds, hiB, loB, thenQ_nA, thenQ_xA, thenQ_rA, runK_nA, runK_xA, runK_rA, wrap_i64, wrap_u64, wrap_u32, wrap_u8, wrap_u16, rI, rR, e', hw]
    refine XA_for (fun i => ⟨[(1, .int .i64 a), (3, .int .i64 (liftN U a m i)), (4, .ptr 0 0 0), (17, .int .i64 ((b - a : Nat) : Int)), (18, .int .i64 i)], [⟨0, .var [.ro S.length (S.map (.int .i64)), .ro U.length (U.map rI)]⟩]⟩) (fun _ => True) (b - a) 0 (Nat.zero_le _) (by simp [AV.atom, normA, lkE, fixObjs, fixBody, fixV, fixCell, liftN]) trivial ?_ ?_
    · intro i _ hi _
      obtain ⟨h1, h2⟩ := liftN_in h h0 hm (n := i) (by omega)
      obtain ⟨h3, h4⟩ := good_up h (i := a + i) (by omega)
      have hi' : (i : Int) < ((b - a : Nat) : Int) := by omega
      have hw2 : IntKind.i64.wrap ((a : Int) + (i : Int)) = ((a + i : Nat) : Int) := by rw [wrap_i64 (by omega) (by omega)]; omega
      have hai : (0 : Int) ≤ (a : Int) + (i : Int) := by omega
      have hai2 : (a : Int) + (i : Int) < U.length := by omega
      have hai3 : ((a : Int) + (i : Int)).toNat = a + i := by omega
      have hr := idxR' U ((a : Int) + (i : Int)) hai hai2
      rw [hai3] at hr
      have hm2 : liftN U a m i < (gR U (a + i)).length := by omega
      have hx := idxI' (gR U (a + i)) (liftN U a m i) h1 hm2
      simp [beqI, bneI, mm_min2, mm_max2, mm_min3, mm_max3, startE, lkE, lkX, lkE_rest, sx, substE, opVA, objs0, List.replicate, XA_seq, XA_region, XOA_go, goE_someA, opV, ev, putA, layAll, XOA_nil, XA_skip_seq, XA_skip_nil, XOA_gd, goG_tA, goG_uA, binV, binInt, unV, XA_ret_nil, XA_ret_cons, endFA_r, endFA_n, endTA_r, endTA_n, endRA_r, endRA_n, fltR, resultsA, resAs, resA, XA_block, XA_cond, pickX_t, pickX_f, pickX_b, XA_skip_blk, XA_skip_lp, XA_exit_seq, XA_exit_lp, XA_exit_blk, XA_exit_nil, load1, Ev.loadCells, objCells, bodyCells, setCells, AV.flat, AV.flat1, backR, backV, backCell, mapO, AV.cells, AV.atom, AV.tree, fillV, repeatL, treeCell, freezeAll, eqCells, callV_T, callV_F, passV, passCell, srcCells, sliceBounds, hiB, loB, thenQ_nA, thenQ_xA, thenQ_rA, runK_nA, runK_xA, runK_rA, wrap_i64, wrap_u64, wrap_u32, wrap_u8, wrap_u16, AV.atom, normA, lkE, fixObjs, fixBody, fixV, fixCell, hi', hw2, hai, hai2, hai3, hr, rI, h1, hm2, hx, wrap_succ i (b - a) hi (by omega), liftN]
    · intro _
      simp [beqI, bneI, mm_min2, mm_max2, mm_min3, mm_max3, startE, lkE, lkX, lkE_rest, sx, substE, opVA, objs0, List.replicate, XA_seq, XA_region, XOA_go, goE_someA, opV, ev, putA, layAll, XOA_nil, XA_skip_seq, XA_skip_nil, XOA_gd, goG_tA, goG_uA, binV, binInt, unV, XA_ret_nil, XA_ret_cons, endFA_r, endFA_n, endTA_r, endTA_n, endRA_r, endRA_n, fltR, resultsA, resAs, resA, XA_block, XA_cond, pickX_t, pickX_f, pickX_b, XA_skip_blk, XA_skip_lp, XA_exit_seq, XA_exit_lp, XA_exit_blk, XA_exit_nil, load1, Ev.loadCells, objCells, bodyCells, setCells, AV.flat, AV.flat1, backR, backV, backCell, mapO, AV.cells, AV.atom, AV.tree, fillV, repeatL, treeCell, freezeAll, eqCells, callV_T, callV_F, passV, passCell, srcCells, sliceBounds, hiB, loB, thenQ_nA, thenQ_xA, thenQ_rA, runK_nA, runK_xA, runK_rA, wrap_i64, wrap_u64, wrap_u32, wrap_u8, wrap_u16, AV.atom, normA, lkE, fixObjs, fixBody, fixV, fixCell, liftD, e]
theorem liftOk_iff {S : List Int} {U : List (List Int)} {a b m : Int} (h : liftOk S U a b m = true) : goodD S U = true ∧ 0 ≤ a ∧ a ≤ b ∧ b ≤ S.length ∧ 0 ≤ m ∧ m < sizeD S U a := by
  simp only [liftOk, Bool.and_eq_true, decide_eq_true_eq] at h
  obtain ⟨h1, h2, h3, h4⟩ := h
  have hb := sizeD_ne h2
  have ha := sizeD_ne (S := S) (U := U) (lv := a) (by omega)
  exact ⟨hb.1, ha.2.1, h1, hb.2.2, h3, h4⟩
theorem Lift_ev (S : List Int) (U : List (List Int)) (a b m : Int) (hS : S.length ≤ 9223372036854775807) (hU : fitsU U) : cvF tab 15 [.agg [rI S, rR U], .int .i64 a, .int .i64 b, .int .i64 m] = some (.tup [.int .i64 (if liftOk S U a b m = true then liftD S U a.toNat b.toNat m else 0), .bool (liftOk S U a b m)]) := by
  refine cvFA_R (mf := Mf.f15) rfl rfl (by kernel_rfl) ?_
  simp only [Mf.f15]
  have hs := fun lv => size_ev S U lv hS hU
  simp only [rI, rR] at hs
  have hr := sizeD_range S U a
  have hw : IntKind.i64.wrap (sizeD S U a - 1) = sizeD S U a - 1 := wrap_i64 (by omega) (by omega)
  cases h : liftOk S U a b m with
  | true =>
    obtain ⟨h1, h2, h3, h4, h5, h6⟩ := liftOk_iff h
    have hl := lift_ev h1 (a := a.toNat) (b := b.toNat) (m := m) (by omega) (by omega) h5 (by rw [Int.toNat_of_nonneg h2]; exact h6)
    rw [Int.toNat_of_nonneg h2, Int.toNat_of_nonneg (show 0 ≤ b by omega)] at hl
    simp only [rI, rR] at hl
    simp only [liftOk, Bool.and_eq_true, decide_eq_true_eq] at h
    have h7 : m ≤ sizeD S U a - 1 := by omega
    have h8 : ¬ b < a := by omega
    simp [beqI, bneI, mm_min2, mm_max2, mm_min3, mm_max3, startE, lkE, lkX, lkE_rest, sx, substE, opVA, objs0, List.replicate, XA_seq, XA_region, XOA_go, goE_someA, opV, ev, putA, layAll, XOA_nil, XA_skip_seq, XA_skip_nil, XOA_gd, goG_tA, goG_uA, binV, binInt, unV, XA_ret_nil, XA_ret_cons, endFA_r, endFA_n, endTA_r, endTA_n, endRA_r, endRA_n, fltR, resultsA, resAs, resA, XA_block, XA_cond, pickX_t, pickX_f, pickX_b, XA_skip_blk, XA_skip_lp, XA_exit_seq, XA_exit_lp, XA_exit_blk, XA_exit_nil, load1, Ev.loadCells, objCells, bodyCells, setCells, AV.flat, AV.flat1, backR, backV, backCell, mapO, AV.cells, AV.atom, AV.tree, fillV, repeatL, treeCell, freezeAll, eqCells, callV_T, callV_F, passV, passCell, srcCells, sliceBounds, hiB, loB, thenQ_nA, thenQ_xA, thenQ_rA, runK_nA, runK_xA, runK_rA, wrap_i64, wrap_u64, wrap_u32, wrap_u8, wrap_u16, rI, rR, h3, h8, hs, h.2.1, hw, between_ev, h5, h7, hl]
  | false =>
    by_cases h3 : a ≤ b
    · have h8 : ¬ b < a := by omega
      by_cases h2 : sizeD S U b = 0
      · simp [beqI, bneI, mm_min2, mm_max2, mm_min3, mm_max3, startE, lkE, lkX, lkE_rest, sx, substE, opVA, objs0, List.replicate, XA_seq, XA_region, XOA_go, goE_someA, opV, ev, putA, layAll, XOA_nil, XA_skip_seq, XA_skip_nil, XOA_gd, goG_tA, goG_uA, binV, binInt, unV, XA_ret_nil, XA_ret_cons, endFA_r, endFA_n, endTA_r, endTA_n, endRA_r, endRA_n, fltR, resultsA, resAs, resA, XA_block, XA_cond, pickX_t, pickX_f, pickX_b, XA_skip_blk, XA_skip_lp, XA_exit_seq, XA_exit_lp, XA_exit_blk, XA_exit_nil, load1, Ev.loadCells, objCells, bodyCells, setCells, AV.flat, AV.flat1, backR, backV, backCell, mapO, AV.cells, AV.atom, AV.tree, fillV, repeatL, treeCell, freezeAll, eqCells, callV_T, callV_F, passV, passCell, srcCells, sliceBounds, hiB, loB, thenQ_nA, thenQ_xA, thenQ_rA, runK_nA, runK_xA, runK_rA, wrap_i64, wrap_u64, wrap_u32, wrap_u8, wrap_u16, rI, rR, h8, hs, h2]
      · have h7 : (decide (0 ≤ m) && decide (m ≤ sizeD S U a - 1)) = false := by
          simp [liftOk, h3, h2] at h ⊢
          intro h5
          have := h h5
          omega
        simp [beqI, bneI, mm_min2, mm_max2, mm_min3, mm_max3, startE, lkE, lkX, lkE_rest, sx, substE, opVA, objs0, List.replicate, XA_seq, XA_region, XOA_go, goE_someA, opV, ev, putA, layAll, XOA_nil, XA_skip_seq, XA_skip_nil, XOA_gd, goG_tA, goG_uA, binV, binInt, unV, XA_ret_nil, XA_ret_cons, endFA_r, endFA_n, endTA_r, endTA_n, endRA_r, endRA_n, fltR, resultsA, resAs, resA, XA_block, XA_cond, pickX_t, pickX_f, pickX_b, XA_skip_blk, XA_skip_lp, XA_exit_seq, XA_exit_lp, XA_exit_blk, XA_exit_nil, load1, Ev.loadCells, objCells, bodyCells, setCells, AV.flat, AV.flat1, backR, backV, backCell, mapO, AV.cells, AV.atom, AV.tree, fillV, repeatL, treeCell, freezeAll, eqCells, callV_T, callV_F, passV, passCell, srcCells, sliceBounds, hiB, loB, thenQ_nA, thenQ_xA, thenQ_rA, runK_nA, runK_xA, runK_rA, wrap_i64, wrap_u64, wrap_u32, wrap_u8, wrap_u16, rI, rR, h8, hs, h2, hw, between_ev, h7]
    · have h8 : b < a := by omega
      simp [beqI, bneI, mm_min2, mm_max2, mm_min3, mm_max3, startE, lkE, lkX, lkE_rest, sx, substE, opVA, objs0, List.replicate, XA_seq, XA_region, XOA_go, goE_someA, opV, ev, putA, layAll, XOA_nil, XA_skip_seq, XA_skip_nil, XOA_gd, goG_tA, goG_uA, binV, binInt, unV, XA_ret_nil, XA_ret_cons, endFA_r, endFA_n, endTA_r, endTA_n, endRA_r, endRA_n, fltR, resultsA, resAs, resA, XA_block, XA_cond, pickX_t, pickX_f, pickX_b, XA_skip_blk, XA_skip_lp, XA_exit_seq, XA_exit_lp, XA_exit_blk, XA_exit_nil, load1, Ev.loadCells, objCells, bodyCells, setCells, AV.flat, AV.flat1, backR, backV, backCell, mapO, AV.cells, AV.atom, AV.tree, fillV, repeatL, treeCell, freezeAll, eqCells, callV_T, callV_F, passV, passCell, srcCells, sliceBounds, hiB, loB, thenQ_nA, thenQ_xA, thenQ_rA, runK_nA, runK_xA, runK_rA, wrap_i64, wrap_u64, wrap_u32, wrap_u8, wrap_u16, rI, rR, h8]
theorem take_map {α β : Type} (f : α → β) (l : List α) : (l.map f).take l.length = l.map f := by
  rw [← List.length_map f, List.take_length]
theorem Under_ev (S : List Int) (U : List (List Int)) (b m a : Int) (hS : S.length ≤ 9223372036854775807) (hU : fitsU U) : cvT tab 16 [.agg [rI S, rR U], .int .i64 b, .int .i64 m, .int .i64 a] = some (rI (underD S U b m a)) := by
  refine cvTA_R (mf := Mf.f16) rfl rfl (by kernel_rfl) ?_
  simp only [Mf.f16]
  have hs := fun lv => size_ev S U lv hS hU
  simp only [rI, rR] at hs
  have hr := sizeD_range S U b
  have hw : IntKind.i64.wrap (sizeD S U b - 1) = sizeD S U b - 1 := wrap_i64 (by omega) (by omega)
  by_cases h3 : a ≤ b
  · have h8 : ¬ b < a := by omega
    by_cases h2 : sizeD S U a = 0
    · simp [beqI, bneI, mm_min2, mm_max2, mm_min3, mm_max3, startE, lkE, lkX, lkE_rest, sx, substE, opVA, objs0, List.replicate, XA_seq, XA_region, XOA_go, goE_someA, opV, ev, putA, layAll, XOA_nil, XA_skip_seq, XA_skip_nil, XOA_gd, goG_tA, goG_uA, binV, binInt, unV, XA_ret_nil, XA_ret_cons, endFA_r, endFA_n, endTA_r, endTA_n, endRA_r, endRA_n, fltR, resultsA, resAs, resA, XA_block, XA_cond, pickX_t, pickX_f, pickX_b, XA_skip_blk, XA_skip_lp, XA_exit_seq, XA_exit_lp, XA_exit_blk, XA_exit_nil, load1, Ev.loadCells, objCells, bodyCells, setCells, AV.flat, AV.flat1, backR, backV, backCell, mapO, AV.cells, AV.atom, AV.tree, fillV, repeatL, treeCell, freezeAll, eqCells, callV_T, callV_F, passV, passCell, srcCells, sliceBounds, hiB, loB, thenQ_nA, thenQ_xA, thenQ_rA, runK_nA, runK_xA, runK_rA, wrap_i64, wrap_u64, wrap_u32, wrap_u8, wrap_u16, rI, rR, h8, hs, h2, underD, underP]
    · by_cases h5 : 0 ≤ m ∧ m < sizeD S U b
      · have h7 : m ≤ sizeD S U b - 1 := by omega
        have hb := sizeD_ne (S := S) (U := U) (lv := b) (by omega)
        have ha := sizeD_ne h2
        have hr2 := sizeD_range S U a
        simp [beqI, bneI, mm_min2, mm_max2, mm_min3, mm_max3, startE, lkE, lkX, lkE_rest, sx, substE, opVA, objs0, List.replicate, XA_seq, XA_region, XOA_go, goE_someA, opV, ev, putA, layAll, XOA_nil, XA_skip_seq, XA_skip_nil, XOA_gd, goG_tA, goG_uA, binV, binInt, unV, XA_ret_nil, XA_ret_cons, endFA_r, endFA_n, endTA_r, endTA_n, endRA_r, endRA_n, fltR, resultsA, resAs, resA, XA_block, XA_cond, pickX_t, pickX_f, pickX_b, XA_skip_blk, XA_skip_lp, XA_exit_seq, XA_exit_lp, XA_exit_blk, XA_exit_nil, load1, Ev.loadCells, objCells, bodyCells, setCells, AV.flat, AV.flat1, backR, backV, backCell, mapO, AV.cells, AV.atom, AV.tree, fillV, repeatL, treeCell, freezeAll, eqCells, callV_T, callV_F, passV, passCell, srcCells, sliceBounds, hiB, loB, thenQ_nA, thenQ_xA, thenQ_rA, runK_nA, runK_xA, runK_rA, wrap_i64, wrap_u64, wrap_u32, wrap_u8, wrap_u16, rI, rR, h8, hs, h2, hw, between_ev, h5, h7, h3, underD]
        refine XA_for (fun i => ⟨[(1, .int .i64 b), (2, .int .i64 m), (3, .int .i64 a), (4, .ptr 0 0 0), (9, .own 1 0 0 (underP S U b m a i).length 1), (31, .int .i64 (sizeD S U a)), (32, .int .i64 i)], [⟨0, .var [.ro S.length (S.map (.int .i64)), .ro U.length (U.map rI)]⟩, ⟨0, .row true 1 ((underP S U b m a i).map (.int .i64))⟩]⟩) (fun _ => True) (sizeD S U a).toNat 0 (Nat.zero_le _) (by simp [AV.atom, normA, lkE, fixObjs, fixBody, fixV, fixCell, underP]) trivial ?_ ?_
        · intro i _ hi _
          have hi' : (i : Int) < sizeD S U a := by omega
          have hl := lift_ev ha.1 (a := a.toNat) (b := b.toNat) (m := (i : Int)) (by omega) (by omega) (by omega) (by rw [Int.toNat_of_nonneg ha.2.1]; exact hi')
          rw [Int.toNat_of_nonneg ha.2.1, Int.toNat_of_nonneg hb.2.1] at hl
          simp only [rI, rR] at hl
          have hlen := underP_len S U b m a i
          have hq : ((underP S U b m a i).length + 1) * 8 ≤ 140737488355328 := by omega
          have hq2 : (underP S U b m a i).length + 1 < 4611686018427387904 := by omega
          by_cases he : liftD S U a.toNat b.toNat (i : Int) = m
          · simp [beqI, bneI, mm_min2, mm_max2, mm_min3, mm_max3, startE, lkE, lkX, lkE_rest, sx, substE, opVA, objs0, List.replicate, XA_seq, XA_region, XOA_go, goE_someA, opV, ev, putA, layAll, XOA_nil, XA_skip_seq, XA_skip_nil, XOA_gd, goG_tA, goG_uA, binV, binInt, unV, XA_ret_nil, XA_ret_cons, endFA_r, endFA_n, endTA_r, endTA_n, endRA_r, endRA_n, fltR, resultsA, resAs, resA, XA_block, XA_cond, pickX_t, pickX_f, pickX_b, XA_skip_blk, XA_skip_lp, XA_exit_seq, XA_exit_lp, XA_exit_blk, XA_exit_nil, load1, Ev.loadCells, objCells, bodyCells, setCells, AV.flat, AV.flat1, backR, backV, backCell, mapO, AV.cells, AV.atom, AV.tree, fillV, repeatL, treeCell, freezeAll, eqCells, callV_T, callV_F, passV, passCell, srcCells, sliceBounds, hiB, loB, thenQ_nA, thenQ_xA, thenQ_rA, runK_nA, runK_xA, runK_rA, wrap_i64, wrap_u64, wrap_u32, wrap_u8, wrap_u16, AV.atom, normA, lkE, fixObjs, fixBody, fixV, fixCell, hi', hl, he, hq, hq2, underP_succ, wrap_succ i (sizeD S U a).toNat hi (by omega)]
          · simp [beqI, bneI, mm_min2, mm_max2, mm_min3, mm_max3, startE, lkE, lkX, lkE_rest, sx, substE, opVA, objs0, List.replicate, XA_seq, XA_region, XOA_go, goE_someA, opV, ev, putA, layAll, XOA_nil, XA_skip_seq, XA_skip_nil, XOA_gd, goG_tA, goG_uA, binV, binInt, unV, XA_ret_nil, XA_ret_cons, endFA_r, endFA_n, endTA_r, endTA_n, endRA_r, endRA_n, fltR, resultsA, resAs, resA, XA_block, XA_cond, pickX_t, pickX_f, pickX_b, XA_skip_blk, XA_skip_lp, XA_exit_seq, XA_exit_lp, XA_exit_blk, XA_exit_nil, load1, Ev.loadCells, objCells, bodyCells, setCells, AV.flat, AV.flat1, backR, backV, backCell, mapO, AV.cells, AV.atom, AV.tree, fillV, repeatL, treeCell, freezeAll, eqCells, callV_T, callV_F, passV, passCell, srcCells, sliceBounds, hiB, loB, thenQ_nA, thenQ_xA, thenQ_rA, runK_nA, runK_xA, runK_rA, wrap_i64, wrap_u64, wrap_u32, wrap_u8, wrap_u16, AV.atom, normA, lkE, fixObjs, fixBody, fixV, fixCell, hi', hl, he, hq, hq2, underP_succ, wrap_succ i (sizeD S U a).toNat hi (by omega)]
        · intro _
          have hn : ((sizeD S U a).toNat : Int) = sizeD S U a := by omega
          simp [beqI, bneI, mm_min2, mm_max2, mm_min3, mm_max3, startE, lkE, lkX, lkE_rest, sx, substE, opVA, objs0, List.replicate, XA_seq, XA_region, XOA_go, goE_someA, opV, ev, putA, layAll, XOA_nil, XA_skip_seq, XA_skip_nil, XOA_gd, goG_tA, goG_uA, binV, binInt, unV, XA_ret_nil, XA_ret_cons, endFA_r, endFA_n, endTA_r, endTA_n, endRA_r, endRA_n, fltR, resultsA, resAs, resA, XA_block, XA_cond, pickX_t, pickX_f, pickX_b, XA_skip_blk, XA_skip_lp, XA_exit_seq, XA_exit_lp, XA_exit_blk, XA_exit_nil, load1, Ev.loadCells, objCells, bodyCells, setCells, AV.flat, AV.flat1, backR, backV, backCell, mapO, AV.cells, AV.atom, AV.tree, fillV, repeatL, treeCell, freezeAll, eqCells, callV_T, callV_F, passV, passCell, srcCells, sliceBounds, hiB, loB, thenQ_nA, thenQ_xA, thenQ_rA, runK_nA, runK_xA, runK_rA, wrap_i64, wrap_u64, wrap_u32, wrap_u8, wrap_u16, AV.atom, normA, lkE, fixObjs, fixBody, fixV, fixCell, hn, take_map]
      · have h7 : (decide (0 ≤ m) && decide (m ≤ sizeD S U b - 1)) = false := by
          simp
          omega
        have h9 : ¬ (a ≤ b ∧ 0 ≤ m ∧ m < sizeD S U b) := fun c => h5 c.2
        simp [beqI, bneI, mm_min2, mm_max2, mm_min3, mm_max3, startE, lkE, lkX, lkE_rest, sx, substE, opVA, objs0, List.replicate, XA_seq, XA_region, XOA_go, goE_someA, opV, ev, putA, layAll, XOA_nil, XA_skip_seq, XA_skip_nil, XOA_gd, goG_tA, goG_uA, binV, binInt, unV, XA_ret_nil, XA_ret_cons, endFA_r, endFA_n, endTA_r, endTA_n, endRA_r, endRA_n, fltR, resultsA, resAs, resA, XA_block, XA_cond, pickX_t, pickX_f, pickX_b, XA_skip_blk, XA_skip_lp, XA_exit_seq, XA_exit_lp, XA_exit_blk, XA_exit_nil, load1, Ev.loadCells, objCells, bodyCells, setCells, AV.flat, AV.flat1, backR, backV, backCell, mapO, AV.cells, AV.atom, AV.tree, fillV, repeatL, treeCell, freezeAll, eqCells, callV_T, callV_F, passV, passCell, srcCells, sliceBounds, hiB, loB, thenQ_nA, thenQ_xA, thenQ_rA, runK_nA, runK_xA, runK_rA, wrap_i64, wrap_u64, wrap_u32, wrap_u8, wrap_u16, rI, rR, h8, hs, h2, hw, between_ev, h7, underD, h9]
  · have h8 : b < a := by omega
    simp [beqI, bneI, mm_min2, mm_max2, mm_min3, mm_max3, startE, lkE, lkX, lkE_rest, sx, substE, opVA, objs0, List.replicate, XA_seq, XA_region, XOA_go, goE_someA, opV, ev, putA, layAll, XOA_nil, XA_skip_seq, XA_skip_nil, XOA_gd, goG_tA, goG_uA, binV, binInt, unV, XA_ret_nil, XA_ret_cons, endFA_r, endFA_n, endTA_r, endTA_n, endRA_r, endRA_n, fltR, resultsA, resAs, resA, XA_block, XA_cond, pickX_t, pickX_f, pickX_b, XA_skip_blk, XA_skip_lp, XA_exit_seq, XA_exit_lp, XA_exit_blk, XA_exit_nil, load1, Ev.loadCells, objCells, bodyCells, setCells, AV.flat, AV.flat1, backR, backV, backCell, mapO, AV.cells, AV.atom, AV.tree, fillV, repeatL, treeCell, freezeAll, eqCells, callV_T, callV_F, passV, passCell, srcCells, sliceBounds, hiB, loB, thenQ_nA, thenQ_xA, thenQ_rA, runK_nA, runK_xA, runK_rA, wrap_i64, wrap_u64, wrap_u32, wrap_u8, wrap_u16, rI, rR, h8, underD, h3]
/-- Who is under a member in the level below. -/
def kidsD (S : List Int) (U : List (List Int)) (b m : Int) : List Int := if b < 1 then [] else underD S U b m (b - 1)
theorem Kids_ev (S : List Int) (U : List (List Int)) (b m : Int) (hb : inI b) (hS : S.length ≤ 9223372036854775807) (hU : fitsU U) : cvT tab 17 [.agg [rI S, rR U], .int .i64 b, .int .i64 m] = some (rI (kidsD S U b m)) := by
  refine cvTA_R (mf := Mf.f17) rfl rfl (by kernel_rfl) ?_
  simp only [Mf.f17]
  have hu := fun a => Under_ev S U b m a hS hU
  simp only [rI, rR] at hu
  unfold inI at hb
  by_cases h : b < 1
  · simp [beqI, bneI, mm_min2, mm_max2, mm_min3, mm_max3, startE, lkE, lkX, lkE_rest, sx, substE, opVA, objs0, List.replicate, XA_seq, XA_region, XOA_go, goE_someA, opV, ev, putA, layAll, XOA_nil, XA_skip_seq, XA_skip_nil, XOA_gd, goG_tA, goG_uA, binV, binInt, unV, XA_ret_nil, XA_ret_cons, endFA_r, endFA_n, endTA_r, endTA_n, endRA_r, endRA_n, fltR, resultsA, resAs, resA, XA_block, XA_cond, pickX_t, pickX_f, pickX_b, XA_skip_blk, XA_skip_lp, XA_exit_seq, XA_exit_lp, XA_exit_blk, XA_exit_nil, load1, Ev.loadCells, objCells, bodyCells, setCells, AV.flat, AV.flat1, backR, backV, backCell, mapO, AV.cells, AV.atom, AV.tree, fillV, repeatL, treeCell, freezeAll, eqCells, callV_T, callV_F, passV, passCell, srcCells, sliceBounds, hiB, loB, thenQ_nA, thenQ_xA, thenQ_rA, runK_nA, runK_xA, runK_rA, wrap_i64, wrap_u64, wrap_u32, wrap_u8, wrap_u16, rI, rR, h, kidsD]
  · have hw : IntKind.i64.wrap (b - 1) = b - 1 := wrap_i64 (by omega) (by omega)
    simp [beqI, bneI, mm_min2, mm_max2, mm_min3, mm_max3, startE, lkE, lkX, lkE_rest, sx, substE, opVA, objs0, List.replicate, XA_seq, XA_region, XOA_go, goE_someA, opV, ev, putA, layAll, XOA_nil, XA_skip_seq, XA_skip_nil, XOA_gd, goG_tA, goG_uA, binV, binInt, unV, XA_ret_nil, XA_ret_cons, endFA_r, endFA_n, endTA_r, endTA_n, endRA_r, endRA_n, fltR, resultsA, resAs, resA, XA_block, XA_cond, pickX_t, pickX_f, pickX_b, XA_skip_blk, XA_skip_lp, XA_exit_seq, XA_exit_lp, XA_exit_blk, XA_exit_nil, load1, Ev.loadCells, objCells, bodyCells, setCells, AV.flat, AV.flat1, backR, backV, backCell, mapO, AV.cells, AV.atom, AV.tree, fillV, repeatL, treeCell, freezeAll, eqCells, callV_T, callV_F, passV, passCell, srcCells, sliceBounds, hiB, loB, thenQ_nA, thenQ_xA, thenQ_rA, runK_nA, runK_xA, runK_rA, wrap_i64, wrap_u64, wrap_u32, wrap_u8, wrap_u16, rI, rR, h, hw, hu, kidsD]
end Go.Proofs.Ytgijhnaplifpdaa
