/- Nodes in order. -/
import Derived.Test.YtaflkcaebecpfaaRouA
import Derived.Test.YtaflkcaebecpfaaMeth
set_option linter.unusedSimpArgs false
set_option linter.unusedVariables false
set_option maxHeartbeats 4000000
set_option maxRecDepth 100000
namespace Go.Proofs.Ytaflkcaebecpfaa
open Go.Ev
def cmpI (x y : Int) : Int := if x < y then -1 else if y < x then 1 else 0
theorem nanI_ev (x : Int) : cvF tab 40 [.int .i64 x] = some (.bool false) := by
  refine cvFA_R (mf := Mf.f40) rfl rfl (by kernel_rfl) ?_
  simp only [Mf.f40]
  simp [beqI, bneI, mm_min2, mm_max2, mm_min3, mm_max3, startE, lkE, lkX, lkE_rest, sx, substE, opVA, objs0, List.replicate, XA_seq, XA_region, XOA_go, goE_someA, opV, ev, putA, layAll, XOA_nil, XA_skip_seq, XA_skip_nil, XOA_gd, goG_tA, goG_uA, binV, binInt, unV, XA_ret_nil, XA_ret_cons, endFA_r, endFA_n, endTA_r, endTA_n, endRA_r, endRA_n, fltR, resultsA, resAs, resA, XA_block, XA_cond, pickX_t, pickX_f, pickX_b, XA_skip_blk, XA_skip_lp, XA_exit_seq, XA_exit_lp, XA_exit_blk, XA_exit_nil, load1, Ev.loadCells, objCells, bodyCells, setCells, AV.flat, AV.flat1, backR, backV, backCell, mapO, AV.cells, AV.atom, AV.tree, fillV, repeatL, treeCell, freezeAll, eqCells, callV_T, callV_F, passN, passV, passCell, srcCells, sliceBounds, hiB, loB, thenQ_nA, thenQ_xA, thenQ_rA, runK_nA, runK_xA, runK_rA, wrap_i64, wrap_u64, wrap_u32, wrap_u8, wrap_u16]
theorem cmpInt_ev (x y : Int) : cvF tab 28 [.int .i64 x, .int .i64 y] = some (.int .i64 (cmpI x y)) := by
  refine cvFA_R (mf := Mf.f28) rfl rfl (by kernel_rfl) ?_
  simp only [Mf.f28]
  unfold cmpI
  by_cases h1 : x < y
  · simp [beqI, bneI, mm_min2, mm_max2, mm_min3, mm_max3, startE, lkE, lkX, lkE_rest, sx, substE, opVA, objs0, List.replicate, XA_seq, XA_region, XOA_go, goE_someA, opV, ev, putA, layAll, XOA_nil, XA_skip_seq, XA_skip_nil, XOA_gd, goG_tA, goG_uA, binV, binInt, unV, XA_ret_nil, XA_ret_cons, endFA_r, endFA_n, endTA_r, endTA_n, endRA_r, endRA_n, fltR, resultsA, resAs, resA, XA_block, XA_cond, pickX_t, pickX_f, pickX_b, XA_skip_blk, XA_skip_lp, XA_exit_seq, XA_exit_lp, XA_exit_blk, XA_exit_nil, load1, Ev.loadCells, objCells, bodyCells, setCells, AV.flat, AV.flat1, backR, backV, backCell, mapO, AV.cells, AV.atom, AV.tree, fillV, repeatL, treeCell, freezeAll, eqCells, callV_T, callV_F, passN, passV, passCell, srcCells, sliceBounds, hiB, loB, thenQ_nA, thenQ_xA, thenQ_rA, runK_nA, runK_xA, runK_rA, wrap_i64, wrap_u64, wrap_u32, wrap_u8, wrap_u16, nanI_ev, h1]
  · by_cases h2 : y < x <;> simp [beqI, bneI, mm_min2, mm_max2, mm_min3, mm_max3, startE, lkE, lkX, lkE_rest, sx, substE, opVA, objs0, List.replicate, XA_seq, XA_region, XOA_go, goE_someA, opV, ev, putA, layAll, XOA_nil, XA_skip_seq, XA_skip_nil, XOA_gd, goG_tA, goG_uA, binV, binInt, unV, XA_ret_nil, XA_ret_cons, endFA_r, endFA_n, endTA_r, endTA_n, endRA_r, endRA_n, fltR, resultsA, resAs, resA, XA_block, XA_cond, pickX_t, pickX_f, pickX_b, XA_skip_blk, XA_skip_lp, XA_exit_seq, XA_exit_lp, XA_exit_blk, XA_exit_nil, load1, Ev.loadCells, objCells, bodyCells, setCells, AV.flat, AV.flat1, backR, backV, backCell, mapO, AV.cells, AV.atom, AV.tree, fillV, repeatL, treeCell, freezeAll, eqCells, callV_T, callV_F, passN, passV, passCell, srcCells, sliceBounds, hiB, loB, thenQ_nA, thenQ_xA, thenQ_rA, runK_nA, runK_xA, runK_rA, wrap_i64, wrap_u64, wrap_u32, wrap_u8, wrap_u16, nanI_ev, h1, h2]
/-- The rank of the node at a place. -/
def rk (l : List (List Int)) (i : Nat) : Int := rankN (gR l i)
theorem clos_ev (l : List (List Int)) (hl : okNs l) (i j : Nat) (hi : i < l.length) (hj : j < l.length) :
    cfT tab 27 [.int .i64 i, .int .i64 j, .ptr 0 0 0] [⟨0, .var [rN l]⟩] = some (.int .i64 (cmpI (rk l i) (rk l j)), [⟨0, .var [rN l]⟩]) := by
  refine cfTA_R (mf := Mf.f27) rfl rfl (by kernel_rfl) ?_
  simp only [Mf.f27]
  have hi' : (i : Int) < l.length := by omega
  have hj' : (j : Int) < l.length := by omega
  have d1 := dropV hl hi
  have d2 := dropV hl hj
  have r1 := rank_ev (gR l i) (hl.at hi)
  have r2 := rank_ev (gR l j) (hl.at hj)
  have e := cmpInt_ev (rk l i) (rk l j)
  unfold rk at *
  obtain ⟨p, q, r, s, hv, _, _, _, _⟩ := four (hl.at hi)
  obtain ⟨p2, q2, r2', s2, hv2, _, _, _, _⟩ := four (hl.at hj)
  rw [hv] at d1 r1 e ⊢
  rw [hv2] at d2 r2 e ⊢
  simp only [List.map_cons, List.map_nil, List.cons_append, List.nil_append] at d1 d2 r1 r2
  simp [beqI, bneI, mm_min2, mm_max2, mm_min3, mm_max3, startE, lkE, lkX, lkE_rest, sx, substE, opVA, objs0, List.replicate, XA_seq, XA_region, XOA_go, goE_someA, opV, ev, putA, layAll, XOA_nil, XA_skip_seq, XA_skip_nil, XOA_gd, goG_tA, goG_uA, binV, binInt, unV, XA_ret_nil, XA_ret_cons, endFA_r, endFA_n, endTA_r, endTA_n, endRA_r, endRA_n, fltR, resultsA, resAs, resA, XA_block, XA_cond, pickX_t, pickX_f, pickX_b, XA_skip_blk, XA_skip_lp, XA_exit_seq, XA_exit_lp, XA_exit_blk, XA_exit_nil, load1, Ev.loadCells, objCells, bodyCells, setCells, AV.flat, AV.flat1, backR, backV, backCell, mapO, AV.cells, AV.atom, AV.tree, fillV, repeatL, treeCell, freezeAll, eqCells, callV_T, callV_F, passN, passV, passCell, srcCells, sliceBounds, hiB, loB, thenQ_nA, thenQ_xA, thenQ_rA, runK_nA, runK_xA, runK_rA, wrap_i64, wrap_u64, wrap_u32, wrap_u8, wrap_u16, rN, hi', hj', d1, d2, r1, r2, e, endRA_r, endRA_n]
theorem flatMap_cong {α β : Type} {f g : α → List β} : ∀ {l : List α}, (∀ x ∈ l, f x = g x) → l.flatMap f = l.flatMap g
  | [], _ => rfl
  | a :: l, h => by
    rw [List.flatMap_cons, List.flatMap_cons, h a (by simp), flatMap_cong fun x hx => h x (by simp [hx])]
/-- Those of the ranks below k, in order. -/
def ordB (f : Nat → Int) (n k : Nat) : List Nat := (List.range k).flatMap fun (r : Nat) => (List.range n).filter fun i => decide (f i = (r : Int))
theorem ordB_succ (f : Nat → Int) (n k : Nat) : ordB f n (k + 1) = ordB f n k ++ (List.range n).filter fun i => decide (f i = (k : Int)) := by
  unfold ordB
  rw [List.range_succ, List.flatMap_append]
  simp
/-- Those of the ranks from a on, below k. -/
def ordA (f : Nat → Int) (n a k : Nat) : List Nat := (List.range' a (k - a)).flatMap fun (r : Nat) => (List.range n).filter fun i => decide (f i = (r : Int))
theorem ord_split (f : Nat → Int) (n a k : Nat) (h : a ≤ k) : ordB f n k = ordB f n a ++ ordA f n a k := by
  unfold ordB ordA
  rw [← List.flatMap_append]
  congr 1
  have := List.range'_append_1 (s := 0) (m := a) (n := k - a)
  rw [Nat.zero_add, show a + (k - a) = k from by omega] at this
  rw [List.range_eq_range', List.range_eq_range', this]
theorem ordB_mem {f : Nat → Int} {n k i : Nat} (h : i ∈ ordB f n k) : i < n ∧ 0 ≤ f i ∧ f i < k := by
  obtain ⟨r, hr, h2⟩ := List.mem_flatMap.1 h
  simp only [List.mem_range, List.mem_filter, decide_eq_true_eq] at hr h2
  omega
theorem ordA_mem {f : Nat → Int} {n a k i : Nat} (h : i ∈ ordA f n a k) : i < n ∧ (a : Int) ≤ f i := by
  obtain ⟨r, hr, h2⟩ := List.mem_flatMap.1 h
  simp only [List.mem_range'_1, List.mem_range, List.mem_filter, decide_eq_true_eq] at hr h2
  omega
/-- One more. -/
theorem ord_more (f : Nat → Int) (n k r : Nat) (hr : f n = r) (hk : r < k) : ordB f (n + 1) k = ordB f n (r + 1) ++ n :: ordA f n (r + 1) k := by
  have hlow : ∀ a, a ≤ r → ordB f (n + 1) a = ordB f n a := by
    intro a ha
    unfold ordB
    refine flatMap_cong fun x hx => ?_
    have hx := List.mem_range.1 hx
    rw [List.range_succ, List.filter_append, List.filter_cons_of_neg (by simp; omega)]
    simp
  have hhigh : ordA f (n + 1) (r + 1) k = ordA f n (r + 1) k := by
    unfold ordA
    refine flatMap_cong fun x hx => ?_
    have hx := List.mem_range'_1.1 hx
    rw [List.range_succ, List.filter_append, List.filter_cons_of_neg (by simp; omega)]
    simp
  rw [ord_split f (n + 1) (r + 1) k (by omega), hhigh, ordB_succ, ordB_succ, hlow r (Nat.le_refl _)]
  rw [List.range_succ, List.filter_append, List.filter_cons_of_pos (by simp [hr])]
  simp
def dN (l : List Nat) : List AV := l.map fun (n : Nat) => .int .i64 n
/-- Two neighbours change places. -/
theorem swap_cells (P Q : List AV) (y x : AV) : (P ++ y :: x :: Q)[P.length + 1]? = some x ∧ (P ++ y :: x :: Q)[P.length]? = some y ∧
    List.take (P.length + 1) (P ++ y :: x :: Q) ++ y :: List.drop (P.length + 1 + 1) (P ++ y :: x :: Q) = P ++ y :: y :: Q ∧
    List.take P.length (P ++ y :: y :: Q) ++ x :: List.drop (P.length + 1) (P ++ y :: y :: Q) = P ++ x :: y :: Q := by
  refine ⟨?_, ?_, ?_, ?_⟩
  · rw [List.getElem?_append_right (by omega)]; simp
  · rw [List.getElem?_append_right (by omega)]; simp
  · rw [List.take_append, List.drop_append, List.drop_of_length_le (by omega)]
    simp
    rw [List.take_of_length_le (by omega)]
    simp [show P.length + 1 - P.length = 1 from by omega, show P.length + 1 + 1 - P.length = 2 from by omega]
  · rw [List.take_append, List.drop_append, List.drop_of_length_le (by omega)]
    simp [show P.length + 1 - P.length = 1 from by omega]
end Go.Proofs.Ytaflkcaebecpfaa
