/- The members of a level are parted by those of each coarser one. -/
import Derived.Test.YtgijhnaplifpdaaHierCom
set_option linter.unusedSimpArgs false
set_option linter.unusedVariables false
set_option maxHeartbeats 4000000
set_option maxRecDepth 100000
namespace Go.Proofs.Ytgijhnaplifpdaa
open Go.Ev
/-- Which ones were seen. -/
def seenL (p : Nat → Bool) : List Int := (List.range 40).map fun v => if p v = true then 1 else 0
theorem seenL_len (p : Nat → Bool) : (seenL p).length = 40 := by simp [seenL]
theorem seenL_get (p : Nat → Bool) (k : Nat) (h : k < 40) : (seenL p)[k]? = some (if p k = true then 1 else 0) := by
  simp [seenL, h]
theorem seenL_set (p : Nat → Bool) (k : Nat) : (seenL p).set k 1 = seenL fun v => p v || decide (v = k) := by
  apply List.ext_getElem
  · simp [seenL]
  · intro i h1 h2
    rw [List.getElem_set]
    simp only [seenL, List.getElem_map, List.getElem_range]
    by_cases e : k = i
    · subst e; simp
    · have e' : ¬ i = k := fun c => e c.symm
      simp [e, e']
theorem set_map {α β : Type} (f : α → β) (l : List α) (k : Nat) (x : α) (h : k < l.length) : List.take k (l.map f) ++ f x :: List.drop (k + 1) (l.map f) = (l.set k x).map f := by
  rw [List.map_set, List.set_eq_take_append_cons_drop, if_pos (by simpa using h)]
section
variable (S : List Int) (U : List (List Int)) (a b : Nat)
def below (m : Int) (v : Nat) : Bool := decide ((v : Int) < sizeD S U a) && decide (liftD S U a b v < m)
def cnt (m : Int) : Nat := ((List.range (sizeD S U a).toNat).filter fun (v : Nat) => decide (liftD S U a b v < m)).length
theorem underP_mem (m : Int) (n : Nat) (x : Int) (h : x ∈ underP S U b m a n) : ∃ k : Nat, x = k ∧ k < n ∧ liftD S U a b k = m := by
  unfold underP at h
  simp only [List.mem_map, List.mem_filter, List.mem_range, decide_eq_true_eq, Int.toNat_natCast] at h
  obtain ⟨k, ⟨h1, h2⟩, rfl⟩ := h
  exact ⟨k, rfl, h1, h2⟩
theorem underP_sorted (m : Int) (n : Nat) : (underP S U b m a n).Pairwise (· < ·) := by
  unfold underP
  rw [List.pairwise_map]
  refine List.Pairwise.filter _ ?_
  exact List.pairwise_lt_range.imp fun h => by omega
theorem cnt_succ (m : Int) : cnt S U a b (m + 1) = cnt S U a b m + (underP S U b m a (sizeD S U a).toNat).length := by
  unfold cnt underP
  rw [List.length_map]
  simp only [Int.toNat_natCast]
  generalize List.range (sizeD S U a).toNat = l
  induction l with
  | nil => rfl
  | cons v r ih =>
    simp only [List.filter_cons]
    by_cases c1 : liftD S U a b v < m
    · have c2 : liftD S U a b v < m + 1 := by omega
      have c3 : ¬ liftD S U a b v = m := by omega
      simp only [c1, c2, c3, decide_true, decide_false, if_true, List.length_cons, Bool.false_eq_true, if_false]
      omega
    · by_cases c3 : liftD S U a b v = m
      · have c2 : liftD S U a b v < m + 1 := by omega
        simp only [c1, c2, c3, decide_true, decide_false, if_true, List.length_cons, Bool.false_eq_true, if_false]
        simp only [Int.lt_irrefl, decide_false, Bool.false_eq_true, if_false, show m < m + 1 from by omega, decide_true, if_true, List.length_cons]
        omega
      · have c2 : ¬ liftD S U a b v < m + 1 := by omega
        simp only [c1, c2, c3, decide_false, Bool.false_eq_true, if_false]
        exact ih
theorem cnt_zero (g : goodD S U = true) (h1 : a ≤ b) (h2 : b ≤ S.length) : cnt S U a b 0 = 0 := by
  unfold cnt
  rw [List.length_eq_zero_iff, List.filter_eq_nil_iff]
  intro v hv
  rw [List.mem_range] at hv
  have := liftD_in g (m := (v : Int)) h1 h2 (by omega) (by omega)
  simp; omega
theorem cnt_all (g : goodD S U = true) (h1 : a ≤ b) (h2 : b ≤ S.length) : (cnt S U a b (sizeD S U b) : Int) = sizeD S U a := by
  have hr := sizeD_range S U a
  unfold cnt
  rw [List.filter_eq_self.2, List.length_range]
  · omega
  · intro v hv
    rw [List.mem_range] at hv
    have := liftD_in g (m := (v : Int)) h1 h2 (by omega) (by omega)
    simp; omega
theorem cnt_le (m : Int) : cnt S U a b m ≤ 40 := by
  have hr := sizeD_range S U a
  unfold cnt
  have := List.length_filter_le (fun (v : Nat) => decide (liftD S U a b v < m)) (List.range (sizeD S U a).toNat)
  rw [List.length_range] at this
  omega
theorem below_zero (g : goodD S U = true) (h1 : a ≤ b) (h2 : b ≤ S.length) : below S U a b 0 = fun _ => false := by
  funext v
  unfold below
  by_cases c : (v : Int) < sizeD S U a
  · have := liftD_in g (m := (v : Int)) h1 h2 (by omega) c
    have : ¬ liftD S U a b v < 0 := by omega
    simp [this]
  · simp [c]
theorem below_succ (m : Int) (v : Nat) (hm : 0 ≤ m) : below S U a b (m + 1) v = (below S U a b m v || (underP S U b m a (sizeD S U a).toNat).contains (v : Int)) := by
  have hr := sizeD_range S U a
  have hc : (underP S U b m a (sizeD S U a).toNat).contains (v : Int) = (decide ((v : Int) < sizeD S U a) && decide (liftD S U a b v = m)) := by
    rw [Bool.eq_iff_iff]
    simp only [List.contains_iff_mem, Bool.and_eq_true, decide_eq_true_eq]
    constructor
    · intro h
      obtain ⟨k, h1, h2, h3⟩ := underP_mem S U a b m _ _ h
      have : v = k := by omega
      subst this
      exact ⟨by omega, h3⟩
    · rintro ⟨h1, h2⟩
      unfold underP
      simp only [List.mem_map, List.mem_filter, List.mem_range, decide_eq_true_eq, Int.toNat_natCast]
      exact ⟨v, ⟨by omega, h2⟩, rfl⟩
  rw [hc]
  unfold below
  rw [Bool.eq_iff_iff]
  simp only [Bool.and_eq_true, Bool.or_eq_true, decide_eq_true_eq]
  omega
end
theorem hierParts_ev (S : List Int) (U : List (List Int)) (x y : Int) (hD : okD S U) (hx : 0 ≤ x ∧ x ≤ 255) (hy : 0 ≤ y ∧ y ≤ 255) :
    cvF tab 5 [.agg [rI S, rR U], .int .u8 x, .int .u8 y] = some (.bool true) := by
  refine cvFA_R (mf := Mf.f5) rfl rfl (by kernel_rfl) ?_
  simp only [Mf.f5]
  obtain ⟨hS, hU⟩ := fits_of hD
  have e1 := refGood_ev S U hS hU
  simp only [rI, rR] at e1
  cases g : goodD S U with
  | false => simp [beqI, bneI, mm_min2, mm_max2, mm_min3, mm_max3, startE, lkE, lkX, lkE_rest, sx, substE, opVA, objs0, List.replicate, XA_seq, XA_region, XOA_go, goE_someA, opV, ev, putA, layAll, XOA_nil, XA_skip_seq, XA_skip_nil, XOA_gd, goG_tA, goG_uA, binV, binInt, unV, XA_ret_nil, XA_ret_cons, endFA_r, endFA_n, endTA_r, endTA_n, endRA_r, endRA_n, fltR, resultsA, resAs, resA, XA_block, XA_cond, pickX_t, pickX_f, pickX_b, XA_skip_blk, XA_skip_lp, XA_exit_seq, XA_exit_lp, XA_exit_blk, XA_exit_nil, load1, Ev.loadCells, objCells, bodyCells, setCells, AV.flat, AV.flat1, backR, backV, backCell, mapO, AV.cells, AV.atom, AV.tree, fillV, repeatL, treeCell, freezeAll, eqCells, callV_T, callV_F, passV, passCell, srcCells, sliceBounds, hiB, loB, thenQ_nA, thenQ_xA, thenQ_rA, runK_nA, runK_xA, runK_rA, wrap_i64, wrap_u64, wrap_u32, wrap_u8, wrap_u16, rI, rR, e1, g, wakes_ev]
  | true =>
    have hl := good_len g
    have hn : IntKind.i64.wrap ((S.length : Int) + 1) = (S.length : Int) + 1 := wrap_i64 (by omega) (by omega)
    have h1 := held_ev x ((S.length : Int) + 1) hx.1 hx.2 (by omega)
    have h2 := held_ev y ((S.length : Int) + 1) hy.1 hy.2 (by omega)
    have i1 := held_in x ((S.length : Int) + 1) hx.1 (by omega)
    have i2 := held_in y ((S.length : Int) + 1) hy.1 (by omega)
    generalize x.tmod ((S.length : Int) + 1) = p at h1 i1
    generalize y.tmod ((S.length : Int) + 1) = q at h2 i2
    obtain ⟨A, hA⟩ : ∃ A, min p q = A := ⟨_, rfl⟩
    obtain ⟨B, hB⟩ : ∃ A, max p q = A := ⟨_, rfl⟩
    have a0 : 0 ≤ A := by omega
    have ab : A ≤ B := by omega
    have bn : B ≤ S.length := by omega
    obtain ⟨A, rfl⟩ : ∃ n : Nat, A = n := ⟨A.toNat, by omega⟩
    obtain ⟨B, rfl⟩ : ∃ n : Nat, B = n := ⟨B.toNat, by omega⟩
    have ab' : A ≤ B := by omega
    have bn' : B ≤ S.length := by omega
    have e2 := refSize_ev S U A hS hU
    have e3 := refSize_ev S U B hS hU
    have rA := sizeD_range S U A
    have rB := sizeD_range S U B
    have hu : ∀ m : Int, 0 ≤ m → m < sizeD S U B → underD S U B m A = underP S U B m A (sizeD S U A).toNat := fun m c1 c2 => by
      unfold underD
      rw [if_pos ⟨ab, c1, c2⟩]
    have e4 := fun m : Int => Under_ev S U B m A hS hU
    have e5 := fun m : Int => Lift_ev S U A B m hS hU
    simp only [rI, rR, Int.toNat_natCast] at e2 e3 e4 e5
    have z0 : List.map (AV.int .i64) (seenL (fun _ => false)) = List.replicate 40 (.int .i64 0) := rfl
    simp [beqI, bneI, mm_min2, mm_max2, mm_min3, mm_max3, startE, lkE, lkX, lkE_rest, sx, substE, opVA, objs0, List.replicate, XA_seq, XA_region, XOA_go, goE_someA, opV, ev, putA, layAll, XOA_nil, XA_skip_seq, XA_skip_nil, XOA_gd, goG_tA, goG_uA, binV, binInt, unV, XA_ret_nil, XA_ret_cons, endFA_r, endFA_n, endTA_r, endTA_n, endRA_r, endRA_n, fltR, resultsA, resAs, resA, XA_block, XA_cond, pickX_t, pickX_f, pickX_b, XA_skip_blk, XA_skip_lp, XA_exit_seq, XA_exit_lp, XA_exit_blk, XA_exit_nil, load1, Ev.loadCells, objCells, bodyCells, setCells, AV.flat, AV.flat1, backR, backV, backCell, mapO, AV.cells, AV.atom, AV.tree, fillV, repeatL, treeCell, freezeAll, eqCells, callV_T, callV_F, passV, passCell, srcCells, sliceBounds, hiB, loB, thenQ_nA, thenQ_xA, thenQ_rA, runK_nA, runK_xA, runK_rA, wrap_i64, wrap_u64, wrap_u32, wrap_u8, wrap_u16, rI, rR, e1, g, hn, h1, h2, hA, hB]
    refine XA_for (fun m => ⟨[(3, .ptr 0 0 0), (8, .int .i64 A), (9, .int .i64 B), (10, .own 1 0 0 40 1), (11, .int .i64 (cnt S U A B m)), (12, .int .i64 m)], [⟨0, .var [.ro S.length (S.map (.int .i64)), .ro U.length (U.map rI)]⟩, ⟨0, .row true 1 ((seenL (below S U A B m)).map (.int .i64))⟩]⟩)
      (fun _ => True) (sizeD S U B).toNat 0 (Nat.zero_le _) (by simp [AV.atom, normA, lkE, fixObjs, fixBody, fixV, fixCell, below_zero S U A B g ab' bn', cnt_zero S U A B g ab' bn', z0, List.replicate]) trivial ?_ ?_
    · intro m _ hm _
      have hm' : (m : Int) < sizeD S U B := by omega
      have hum := hu m (by omega) hm'
      simp [beqI, bneI, mm_min2, mm_max2, mm_min3, mm_max3, startE, lkE, lkX, lkE_rest, sx, substE, opVA, objs0, List.replicate, XA_seq, XA_region, XOA_go, goE_someA, opV, ev, putA, layAll, XOA_nil, XA_skip_seq, XA_skip_nil, XOA_gd, goG_tA, goG_uA, binV, binInt, unV, XA_ret_nil, XA_ret_cons, endFA_r, endFA_n, endTA_r, endTA_n, endRA_r, endRA_n, fltR, resultsA, resAs, resA, XA_block, XA_cond, pickX_t, pickX_f, pickX_b, XA_skip_blk, XA_skip_lp, XA_exit_seq, XA_exit_lp, XA_exit_blk, XA_exit_nil, load1, Ev.loadCells, objCells, bodyCells, setCells, AV.flat, AV.flat1, backR, backV, backCell, mapO, AV.cells, AV.atom, AV.tree, fillV, repeatL, treeCell, freezeAll, eqCells, callV_T, callV_F, passV, passCell, srcCells, sliceBounds, hiB, loB, thenQ_nA, thenQ_xA, thenQ_rA, runK_nA, runK_xA, runK_rA, wrap_i64, wrap_u64, wrap_u32, wrap_u8, wrap_u16, AV.atom, normA, lkE, fixObjs, fixBody, fixV, fixCell, e3, hm', e4, hum]
      have hsort := underP_sorted S U A B m (sizeD S U A).toNat
      have hmem := underP_mem S U A B m (sizeD S U A).toNat
      have hcnt := cnt_succ S U A B m
      have hbel := fun v => below_succ S U A B m v (by omega)
      have hcle := cnt_le S U A B (m + 1)
      generalize underP S U B m A (sizeD S U A).toNat = u at hsort hmem hcnt hbel
      refine XA_for (fun i => ⟨[(3, .ptr 0 0 0), (8, .int .i64 A), (9, .int .i64 B), (10, .own 1 0 0 40 1), (11, .int .i64 (cnt S U A B m + i)), (12, .int .i64 m), (13, .ro u.length (u.map (.int .i64))), (14, .int .i64 i)], [⟨0, .var [.ro S.length (S.map (.int .i64)), .ro U.length (U.map rI)]⟩, ⟨0, .row true 1 ((seenL (fun v => below S U A B m v || (u.take i).contains (v : Int))).map (.int .i64))⟩]⟩)
        (fun _ => True) u.length 0 (Nat.zero_le _) (by simp [AV.atom, normA, lkE, fixObjs, fixBody, fixV, fixCell]) trivial ?_ ?_
      · intro i _ hi _
        have hi' : (i : Int) < u.length := by omega
        obtain ⟨k, hk, hk1, hk2⟩ := hmem (u[i]) (List.getElem_mem hi)
        have hkA : (k : Int) < sizeD S U A := by omega
        have hk40 : k < 40 := by omega
        have hkA' : ¬ sizeD S U A ≤ (k : Int) := by omega
        have hk0 : ¬ (k : Int) < 0 := by omega
        have hk40' : (k : Int) < 40 := by omega
        have hok := liftOk_of g a0 ab bn (show 0 ≤ (k : Int) by omega) hkA
        have hix := idxI u i hi
        rw [hk] at hix
        have hnot : (u.take i).contains (k : Int) = false := by
          rw [Bool.eq_false_iff]
          intro hc
          rw [List.contains_iff_mem] at hc
          obtain ⟨j, hj, hj2⟩ := List.mem_iff_getElem.1 hc
          rw [List.getElem_take] at hj2
          rw [List.length_take] at hj
          have := List.pairwise_iff_getElem.1 hsort j i (by omega) hi (by omega)
          omega
        have hbk : below S U A B m k = false := by
          simp [below, hk2]
        have hg : ((seenL (fun v => below S U A B m v || (u.take i).contains (v : Int))).map (AV.int .i64))[k]? = some (.int .i64 0) := by
          rw [List.getElem?_map, seenL_get _ _ hk40]
          simp only [hbk, hnot]
          rfl
        have hset : List.take k ((seenL (fun v => below S U A B m v || (u.take i).contains (v : Int))).map (AV.int .i64)) ++ AV.int .i64 1 :: List.drop (k + 1) ((seenL (fun v => below S U A B m v || (u.take i).contains (v : Int))).map (AV.int .i64))
            = (seenL (fun v => below S U A B m v || (u.take (i + 1)).contains (v : Int))).map (.int .i64) := by
          rw [set_map _ _ _ _ (by rw [seenL_len]; exact hk40), seenL_set]
          congr 2
          funext v
          rw [List.take_succ_eq_append_getElem hi, hk, List.contains_append]
          have e : decide ((v : Int) = (k : Int)) = decide (v = k) := by
            by_cases c : v = k
            · simp [c]
            · have : ¬ (v : Int) = k := by omega
              simp [c, this]
          simp [Bool.or_assoc, e]
        have hw1 : IntKind.i64.wrap ((cnt S U A B m : Int) + (i : Int) + 1) = (cnt S U A B m : Int) + ((i : Int) + 1) := by rw [wrap_i64 (by omega) (by omega)]; omega
        have hsn := seenL_len (fun v => below S U A B m v || (u.take i).contains (v : Int))
        generalize seenL (fun v => below S U A B m v || (u.take i).contains (v : Int)) = sn at hg hset hsn
        have hfin : k + 1 ≤ sn.length := by omega
        by_cases c0 : 0 < i
        · obtain ⟨j, hj⟩ : ∃ j, i = j + 1 := ⟨i - 1, by omega⟩
          have c0' : (0 : Int) < (i : Int) := by omega
          have hwi : IntKind.i64.wrap ((i : Int) - 1) = (j : Int) := by rw [wrap_i64 (by omega) (by omega)]; omega
          have hlt := List.pairwise_iff_getElem.1 hsort j i (by omega) hi (by omega)
          rw [hk] at hlt
          have hix2 := idxI u j (by omega)
          have hlt' : ¬ (k : Int) ≤ u[j] := by omega
          have hi2 : (j : Int) < u.length := by omega
          simp [beqI, bneI, mm_min2, mm_max2, mm_min3, mm_max3, startE, lkE, lkX, lkE_rest, sx, substE, opVA, objs0, List.replicate, XA_seq, XA_region, XOA_go, goE_someA, opV, ev, putA, layAll, XOA_nil, XA_skip_seq, XA_skip_nil, XOA_gd, goG_tA, goG_uA, binV, binInt, unV, XA_ret_nil, XA_ret_cons, endFA_r, endFA_n, endTA_r, endTA_n, endRA_r, endRA_n, fltR, resultsA, resAs, resA, XA_block, XA_cond, pickX_t, pickX_f, pickX_b, XA_skip_blk, XA_skip_lp, XA_exit_seq, XA_exit_lp, XA_exit_blk, XA_exit_nil, load1, Ev.loadCells, objCells, bodyCells, setCells, AV.flat, AV.flat1, backR, backV, backCell, mapO, AV.cells, AV.atom, AV.tree, fillV, repeatL, treeCell, freezeAll, eqCells, callV_T, callV_F, passV, passCell, srcCells, sliceBounds, hiB, loB, thenQ_nA, thenQ_xA, thenQ_rA, runK_nA, runK_xA, runK_rA, wrap_i64, wrap_u64, wrap_u32, wrap_u8, wrap_u16, AV.atom, normA, lkE, fixObjs, fixBody, fixV, fixCell, hi', hix, hk0, hkA', e2, hg, hk40', e5, hok, hk2, hset, hw1, hfin, c0, c0', hwi, hix2, hlt', hi2, wrap_succ i u.length hi (by omega)]
        · have c0' : ¬ (0 : Int) < (i : Int) := by omega
          simp [beqI, bneI, mm_min2, mm_max2, mm_min3, mm_max3, startE, lkE, lkX, lkE_rest, sx, substE, opVA, objs0, List.replicate, XA_seq, XA_region, XOA_go, goE_someA, opV, ev, putA, layAll, XOA_nil, XA_skip_seq, XA_skip_nil, XOA_gd, goG_tA, goG_uA, binV, binInt, unV, XA_ret_nil, XA_ret_cons, endFA_r, endFA_n, endTA_r, endTA_n, endRA_r, endRA_n, fltR, resultsA, resAs, resA, XA_block, XA_cond, pickX_t, pickX_f, pickX_b, XA_skip_blk, XA_skip_lp, XA_exit_seq, XA_exit_lp, XA_exit_blk, XA_exit_nil, load1, Ev.loadCells, objCells, bodyCells, setCells, AV.flat, AV.flat1, backR, backV, backCell, mapO, AV.cells, AV.atom, AV.tree, fillV, repeatL, treeCell, freezeAll, eqCells, callV_T, callV_F, passV, passCell, srcCells, sliceBounds, hiB, loB, thenQ_nA, thenQ_xA, thenQ_rA, runK_nA, runK_xA, runK_rA, wrap_i64, wrap_u64, wrap_u32, wrap_u8, wrap_u16, AV.atom, normA, lkE, fixObjs, fixBody, fixV, fixCell, hi', hix, hk0, hkA', e2, hg, hk40', e5, hok, hk2, hset, hw1, hfin, c0, c0', wrap_succ i u.length hi (by omega)]
      · intro _
        have hseen : (fun v => below S U A B m v || (u.take u.length).contains (v : Int)) = below S U A B ((m : Int) + 1) := by
          funext v
          rw [List.take_length]
          exact (hbel v).symm
        simp only [hseen]
        have hc2 : (cnt S U A B m : Int) + (u.length : Int) = (cnt S U A B ((m : Int) + 1) : Int) := by omega
        simp [beqI, bneI, mm_min2, mm_max2, mm_min3, mm_max3, startE, lkE, lkX, lkE_rest, sx, substE, opVA, objs0, List.replicate, XA_seq, XA_region, XOA_go, goE_someA, opV, ev, putA, layAll, XOA_nil, XA_skip_seq, XA_skip_nil, XOA_gd, goG_tA, goG_uA, binV, binInt, unV, XA_ret_nil, XA_ret_cons, endFA_r, endFA_n, endTA_r, endTA_n, endRA_r, endRA_n, fltR, resultsA, resAs, resA, XA_block, XA_cond, pickX_t, pickX_f, pickX_b, XA_skip_blk, XA_skip_lp, XA_exit_seq, XA_exit_lp, XA_exit_blk, XA_exit_nil, load1, Ev.loadCells, objCells, bodyCells, setCells, AV.flat, AV.flat1, backR, backV, backCell, mapO, AV.cells, AV.atom, AV.tree, fillV, repeatL, treeCell, freezeAll, eqCells, callV_T, callV_F, passV, passCell, srcCells, sliceBounds, hiB, loB, thenQ_nA, thenQ_xA, thenQ_rA, runK_nA, runK_xA, runK_rA, wrap_i64, wrap_u64, wrap_u32, wrap_u8, wrap_u16, AV.atom, normA, lkE, fixObjs, fixBody, fixV, fixCell, hc2, wrap_succ m (sizeD S U B).toNat hm (by omega)]
    · intro _
      have hn2 : ((sizeD S U B).toNat : Int) = sizeD S U B := by omega
      have hca := cnt_all S U A B g ab' bn'
      simp [beqI, bneI, mm_min2, mm_max2, mm_min3, mm_max3, startE, lkE, lkX, lkE_rest, sx, substE, opVA, objs0, List.replicate, XA_seq, XA_region, XOA_go, goE_someA, opV, ev, putA, layAll, XOA_nil, XA_skip_seq, XA_skip_nil, XOA_gd, goG_tA, goG_uA, binV, binInt, unV, XA_ret_nil, XA_ret_cons, endFA_r, endFA_n, endTA_r, endTA_n, endRA_r, endRA_n, fltR, resultsA, resAs, resA, XA_block, XA_cond, pickX_t, pickX_f, pickX_b, XA_skip_blk, XA_skip_lp, XA_exit_seq, XA_exit_lp, XA_exit_blk, XA_exit_nil, load1, Ev.loadCells, objCells, bodyCells, setCells, AV.flat, AV.flat1, backR, backV, backCell, mapO, AV.cells, AV.atom, AV.tree, fillV, repeatL, treeCell, freezeAll, eqCells, callV_T, callV_F, passV, passCell, srcCells, sliceBounds, hiB, loB, thenQ_nA, thenQ_xA, thenQ_rA, runK_nA, runK_xA, runK_rA, wrap_i64, wrap_u64, wrap_u32, wrap_u8, wrap_u16, AV.atom, normA, lkE, fixObjs, fixBody, fixV, fixCell, hn2, e2, e3, hca, wakes_ev]
theorem hierParts_law (l : List AV) (h : RDargs [gDim, .int .u8, .int .u8] l) : ∃ H1, cfT tab 5 l [] = some (.bool true, H1) := by
  obtain ⟨d, r, rfl, hd, x, r, rfl, hx, y, r, rfl, hy, rfl⟩ := h
  obtain ⟨S, U, rfl, hD⟩ := rdarg_dim hd
  obtain ⟨x, rfl, hx'⟩ := rdarg_u8 hx
  obtain ⟨y, rfl, hy'⟩ := rdarg_u8 hy
  exact cvF_bool (hierParts_ev S U x y hD hx' hy')
theorem hierParts_lifted (os : Os) (started : os.Started) (H : Type) (enc : TypeId × Value → H) :
    ReturnsInHanded {} Try.checked os 5 .any (Rows.hierPartsSpec.pre6 enc Try.prog Try.f5 Rows.hierPartsRow.domain false) (Rows.hierPartsSpec.post enc Try.prog Try.f5 false true false false) := by
  refine returnsInHanded_of_change (C := Try.checked) Try.own started (by kernel_rfl) Try.func5
    (ChangeSpec.witness6 (enc := enc) (C := Try.checked) false ⟨#[], #[.agg #[.slice none 0 0, .slice none 0 0], .int .u8 0, .int .u8 0], []⟩ 8 (by kernel_rfl) (by kernel_rfl) (by kernel_rfl) (by kernel_rfl)) ?_
  intro W base args ds gs before hval hW hcnd _
  have hval' : ∀ (j : Nat) (t : TypeId) (v : Value), Try.f5.params.toList[j]? = some t → args[j]? = some v → Value.okWide Try.prog W .any base t v := fun j t v h1 h2 => hval j t v (by simpa using h1) h2
  obtain ⟨p, q, hA, hV, hpq, _, _⟩ := id hW
  have hg : gtsB Try.prog [gDim, .int .u8, .int .u8] Try.f5.params.toList = true := by kernel_rfl
  refine (law_calls' tab_ok hg hierParts_law hval' hA).mono fun e W' ⟨he, hb⟩ => ?_
  subst he
  refine ⟨_, rfl, post_true Try.laidOut (rt := 4) (fun ds h => ?_) rfl (by kernel_rfl) (by kernel_rfl) (by kernel_rfl) hW hb⟩
  match ds, h with
  | [_, _, _], _ => rfl
theorem hierParts_holds : Rows.HierPartsSaid :=
  OpenClaim.holds_of_wide 5 Try.f5 rfl rfl rfl rfl rfl rfl rfl ⟨rfl, rfl, rfl, rfl, rfl⟩ rfl rfl rfl rfl rfl (by kernel_rfl) Try.func5 (by kernel_rfl)
    (of_decide_eq_true (by kernel_rfl)) (by unfold Func.isWrapper; first | (rw [if_pos (by decide +kernel)]; kernel_rfl) | (rw [if_neg (by decide +kernel)]; exact ⟨rfl, rfl⟩))
    (fun os started H enc _ => hierParts_lifted os started H enc)
end Go.Proofs.Ytgijhnaplifpdaa
