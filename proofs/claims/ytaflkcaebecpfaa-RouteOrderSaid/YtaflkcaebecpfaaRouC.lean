/- Nodes in order: the program's. -/
import Derived.Test.YtaflkcaebecpfaaRouB
set_option linter.unusedSimpArgs false
set_option linter.unusedVariables false
set_option maxHeartbeats 8000000
set_option maxRecDepth 100000
namespace Go.Proofs.Ytaflkcaebecpfaa
open Go.Ev
theorem ordB_zero (f : Nat → Int) (k : Nat) : ordB f 0 k = [] := by unfold ordB; simp
theorem ordB_len (f : Nat → Int) (k : Nat) : ∀ n, (∀ i, i < n → 0 ≤ f i ∧ f i < k) → (ordB f n k).length = n
  | 0, _ => by rw [ordB_zero]; rfl
  | n + 1, h => by
    have h1 := h n (by omega)
    have h2 := ordB_len f k n fun i hi => h i (by omega)
    have h3 := ord_split f n ((f n).toNat + 1) k (by omega)
    rw [h3] at h2
    rw [ord_more f n k (f n).toNat (by omega) (by omega)]
    simp only [List.length_append, List.length_cons] at *
    omega
theorem dN_append (a b : List Nat) : dN (a ++ b) = dN a ++ dN b := List.map_append ..
theorem dN_len (a : List Nat) : (dN a).length = a.length := List.length_map ..
theorem isort_ev (l : List (List Int)) (hl : okNs l) (hn : 1 ≤ l.length) (hn2 : l.length ≤ 12) (hf : ∀ i, i < l.length → 0 ≤ rk l i ∧ rk l i < (21 : Nat)) :
    cfT tab 47 [.own 1 0 0 l.length 1, .int .i64 0, .int .i64 l.length, .fn 27 [] [.ptr 0 0 0]] [⟨0, .var [rN l]⟩, ⟨0, .row true 1 (dN (List.range l.length))⟩] =
      some (.tup [], [⟨0, .var [rN l]⟩, ⟨0, .row true 1 (dN (ordB (rk l) l.length 21))⟩]) := by
  refine cfTA_R (mf := Mf.f47) rfl rfl (by kernel_rfl) ?_
  simp only [Mf.f47]
  obtain ⟨n, hnn⟩ : ∃ n, l.length = n := ⟨_, rfl⟩
  obtain ⟨RN, hRN⟩ : ∃ R, rN l = R := ⟨_, rfl⟩
  have hRN' : RN = .ro l.length (flatN l) := hRN.symm
  have hstart : dN (List.range n) = dN (ordB (rk l) 1 21 ++ List.range' 1 (n - 1)) := by
    have h0 := hf 0 (by omega)
    rw [ord_more (rk l) 0 21 (rk l 0).toNat (by omega) (by omega), ordB_zero]
    have : ordA (rk l) 0 ((rk l 0).toNat + 1) 21 = [] := by unfold ordA; simp
    have h1 : List.range n = 0 :: List.range' 1 (n - 1) := by
      obtain ⟨n', rfl⟩ : ∃ n', n = n' + 1 := ⟨n - 1, by omega⟩
      rw [List.range_eq_range', List.range'_succ]
      simp
    rw [this, h1]
    rfl
  rw [hnn, hstart, hRN]
  have hcl : ∀ i j, i < n → j < n → cfT tab 27 [.int .i64 i, .int .i64 j, .ptr 0 0 0] [⟨0, .var [RN]⟩] = some (.int .i64 (cmpI (rk l i) (rk l j)), [⟨0, .var [RN]⟩]) := fun i j hi hj => by
    have := clos_ev l hl i j (by omega) (by omega)
    rw [hRN] at this
    exact this
  simp [beqI, bneI, mm_min2, mm_max2, mm_min3, mm_max3, startE, lkE, lkX, lkE_rest, sx, substE, opVA, objs0, List.replicate, XA_seq, XA_region, XOA_go, goE_someA, opV, ev, putA, layAll, XOA_nil, XA_skip_seq, XA_skip_nil, XOA_gd, goG_tA, goG_uA, binV, binInt, unV, XA_ret_nil, XA_ret_cons, endFA_r, endFA_n, endTA_r, endTA_n, endRA_r, endRA_n, fltR, resultsA, resAs, resA, XA_block, XA_cond, pickX_t, pickX_f, pickX_b, XA_skip_blk, XA_skip_lp, XA_exit_seq, XA_exit_lp, XA_exit_blk, XA_exit_nil, load1, Ev.loadCells, objCells, bodyCells, setCells, AV.flat, AV.flat1, backR, backV, backCell, mapO, AV.cells, AV.atom, AV.tree, fillV, repeatL, treeCell, freezeAll, eqCells, callV_T, callV_F, passN, passV, passCell, srcCells, sliceBounds, hiB, loB, thenQ_nA, thenQ_xA, thenQ_rA, runK_nA, runK_xA, runK_rA, wrap_i64, wrap_u64, wrap_u32, wrap_u8, wrap_u16]
  refine XA_for (fun i => ⟨[(0, .own 1 0 0 n 1), (1, .int .i64 0), (2, .int .i64 n), (3, .fn 27 [] [.ptr 0 0 0]), (8, .int .i64 i)], [⟨0, .var [RN]⟩, ⟨0, .row true 1 (dN (ordB (rk l) i 21 ++ List.range' i (n - i)))⟩]⟩)
    (fun i => True) n 1 (by omega) (by simp [AV.atom, normA, lkE, fixObjs, fixBody, fixV, fixCell, hRN']) trivial ?_ ?_
  · intro i hi1 hi _
    have hi' : (i : Int) < n := by omega
    obtain ⟨r, hr⟩ : ∃ r : Nat, rk l i = r := ⟨(rk l i).toNat, by have := hf i (by omega); omega⟩
    have hr21 : r < 21 := by have := hf i (by omega); omega
    have hsp := ord_split (rk l) i (r + 1) 21 (by omega)
    have hmo := ord_more (rk l) i 21 r hr hr21
    have hlen := ordB_len (rk l) 21 i fun j hj => hf j (by omega)
    have hA : ∀ z ∈ ordB (rk l) i (r + 1), z < i ∧ rk l z ≤ r := fun z hz => by have := ordB_mem hz; omega
    have hB : ∀ z ∈ ordA (rk l) i (r + 1) 21, z < i ∧ (r : Int) < rk l z := fun z hz => by have := ordA_mem hz; omega
    rw [hsp] at hlen
    rw [hsp, hmo]
    generalize ordB (rk l) i (r + 1) = A at *
    generalize ordA (rk l) i (r + 1) 21 = B at *
    clear hsp hmo
    rw [List.length_append] at hlen
    have hR : List.range' i (n - i) = i :: List.range' (i + 1) (n - (i + 1)) := by
      rw [show n - i = (n - (i + 1)) + 1 from by omega, List.range'_succ]
    rw [hR]
    generalize List.range' (i + 1) (n - (i + 1)) = R at *
    have hwi := wrap_succ i n hi (by omega)
    simp [beqI, bneI, mm_min2, mm_max2, mm_min3, mm_max3, startE, lkE, lkX, lkE_rest, sx, substE, opVA, objs0, List.replicate, XA_seq, XA_region, XOA_go, goE_someA, opV, ev, putA, layAll, XOA_nil, XA_skip_seq, XA_skip_nil, XOA_gd, goG_tA, goG_uA, binV, binInt, unV, XA_ret_nil, XA_ret_cons, endFA_r, endFA_n, endTA_r, endTA_n, endRA_r, endRA_n, fltR, resultsA, resAs, resA, XA_block, XA_cond, pickX_t, pickX_f, pickX_b, XA_skip_blk, XA_skip_lp, XA_exit_seq, XA_exit_lp, XA_exit_blk, XA_exit_nil, load1, Ev.loadCells, objCells, bodyCells, setCells, AV.flat, AV.flat1, backR, backV, backCell, mapO, AV.cells, AV.atom, AV.tree, fillV, repeatL, treeCell, freezeAll, eqCells, callV_T, callV_F, passN, passV, passCell, srcCells, sliceBounds, hiB, loB, thenQ_nA, thenQ_xA, thenQ_rA, runK_nA, runK_xA, runK_rA, wrap_i64, wrap_u64, wrap_u32, wrap_u8, wrap_u16, AV.atom, normA, lkE, fixObjs, fixBody, fixV, fixCell, hi', hRN']
    rw [← hRN']
    refine XA_for (fun k => ⟨[(0, .own 1 0 0 n 1), (1, .int .i64 0), (2, .int .i64 n), (3, .fn 27 [] [.ptr 0 0 0]), (8, .int .i64 i), (9, .int .i64 ((i : Int) - k))], [⟨0, .var [RN]⟩, ⟨0, .row true 1 (dN (A ++ B.take (B.length - k)) ++ .int .i64 i :: dN (B.drop (B.length - k) ++ R))⟩]⟩)
      (fun k => True) B.length 0 (by omega) (by simp [AV.atom, normA, lkE, fixObjs, fixBody, fixV, fixCell, hRN', dN]) trivial ?_ ?_
    · intro k _ hk _
      obtain ⟨t, ht⟩ : ∃ t, B.length - (k + 1) = t := ⟨_, rfl⟩
      have htB : t < B.length := by omega
      have h1 : B.take (B.length - k) = B.take t ++ [B[t]] := by
        rw [show B.length - k = t + 1 from by omega, List.take_succ_eq_append_getElem htB]
      have h2 : B.drop t = B[t] :: B.drop (B.length - k) := by
        rw [show B.length - k = t + 1 from by omega, List.drop_eq_getElem_cons htB]
      have hy := hB _ (List.getElem_mem htB)
      rw [h1, ht, h2]
      generalize B.drop (B.length - k) = BD at *
      obtain ⟨P, hP⟩ : ∃ P, dN (A ++ B.take t) = P := ⟨_, rfl⟩
      obtain ⟨Q, hQ⟩ : ∃ Q, dN (BD ++ R) = Q := ⟨_, rfl⟩
      have hPl : P.length = i - (k + 1) := by rw [← hP, dN_len, List.length_append, List.length_take]; omega
      have e1 : dN (A ++ (B.take t ++ [B[t]])) ++ .int .i64 i :: dN (BD ++ R) = P ++ .int .i64 (B[t] : Nat) :: .int .i64 i :: Q := by
        rw [← List.append_assoc, dN_append, hP, hQ]; simp [dN]
      have e2 : dN (A ++ B.take t) ++ .int .i64 i :: dN (B[t] :: BD ++ R) = P ++ .int .i64 i :: .int .i64 (B[t] : Nat) :: Q := by
        rw [hP, ← hQ]; simp [dN]
      have e3 := swap_cells P Q (.int .i64 (B[t] : Nat)) (.int .i64 i)
      have hc := hcl i B[t] (by omega) (by omega)
      have hcm : cmpI (rk l i) (rk l B[t]) = -1 := by unfold cmpI; rw [if_pos (by omega)]
      rw [hcm] at hc
      rw [e1, e2]
      have hPQ : (P ++ AV.int .i64 (B[t] : Nat) :: .int .i64 i :: Q).length = P.length + Q.length + 2 := by simp; omega
      generalize B[t] = y at *
      obtain ⟨p, hp⟩ : ∃ p, P.length = p := ⟨_, rfl⟩
      rw [hp] at e3 hPl hPQ
      obtain ⟨f1, f2, f3, f4⟩ := e3
      have j1 : (i : Int) - k = ((p + 1 : Nat) : Int) := by omega
      have j2 : (i : Int) - ((k : Int) + 1) = (p : Int) := by omega
      have j3 : IntKind.i64.wrap (((p + 1 : Nat) : Int) - 1) = (p : Int) := by rw [wrap_i64 (by omega) (by omega)]; omega
      have j4 : (0 : Int) < ((p + 1 : Nat) : Int) := by omega
      have j5 : ((p + 1 : Nat) : Int) < n := by omega
      have j6 : (p : Int) < n := by omega
      have j7 : (0 : Int) ≤ ((p + 1 : Nat) : Int) := by omega
      have j8 : (0 : Int) ≤ (p : Int) := by omega
      rw [j1]
      simp only [show ((k + 1 : Nat) : Int) = (k : Int) + 1 from by omega, j2]
      have f5 : (P ++ AV.int .i64 y :: .int .i64 y :: Q).length = p + Q.length + 2 := by simp; omega
      have g3 : p + 1 + 1 ≤ p + Q.length + 2 := by omega
      have g4 : p + 1 ≤ p + Q.length + 2 := by omega
      generalize P ++ AV.int .i64 y :: .int .i64 i :: Q = D0 at *
      generalize P ++ AV.int .i64 y :: .int .i64 y :: Q = D1 at *
      generalize P ++ AV.int .i64 i :: .int .i64 y :: Q = D2 at *
      generalize p + Q.length + 2 = L at *
      obtain ⟨p1, hp1⟩ : ∃ p1, p + 1 = p1 := ⟨_, rfl⟩
      have f4' := f4
      rw [hp1] at f1 f3 f4' j3 j4 j5 j7 g3 ⊢
      have j4' : 0 < p1 := by omega
      rw [hRN'] at hc
      simp [j4', beqI, bneI, mm_min2, mm_max2, mm_min3, mm_max3, startE, lkE, lkX, lkE_rest, sx, substE, opVA, objs0, List.replicate, XA_seq, XA_region, XOA_go, goE_someA, opV, ev, putA, layAll, XOA_nil, XA_skip_seq, XA_skip_nil, XOA_gd, goG_tA, goG_uA, binV, binInt, unV, XA_ret_nil, XA_ret_cons, endFA_r, endFA_n, endTA_r, endTA_n, endRA_r, endRA_n, fltR, resultsA, resAs, resA, XA_block, XA_cond, pickX_t, pickX_f, pickX_b, XA_skip_blk, XA_skip_lp, XA_exit_seq, XA_exit_lp, XA_exit_blk, XA_exit_nil, load1, Ev.loadCells, objCells, bodyCells, setCells, AV.flat, AV.flat1, backR, backV, backCell, mapO, AV.cells, AV.atom, AV.tree, fillV, repeatL, treeCell, freezeAll, eqCells, callV_T, callV_F, passN, passV, passCell, srcCells, sliceBounds, hiB, loB, thenQ_nA, thenQ_xA, thenQ_rA, runK_nA, runK_xA, runK_rA, wrap_i64, wrap_u64, wrap_u32, wrap_u8, wrap_u16, callV_O, okIds, passObjs, passBody, backObjs, backBody, adopts, List.idxOf?, List.findIdx?, List.findIdx?.go, AV.atom, normA, lkE, fixObjs, fixBody, fixV, fixCell, hRN', j3, j4, j5, j6, j7, j8, f1, f2, f3, f4, f4', hPQ, f5, g3, g4, hc]
    · intro _
      have hb0 : B.length - B.length = 0 := by omega
      simp only [hb0, List.take_zero, List.append_nil, List.drop_zero]
      by_cases hA0 : A.length = 0
      · have hA0' : A = [] := List.length_eq_zero_iff.1 hA0
        subst hA0'
        have j1 : (i : Int) - (B.length : Nat) = 0 := by simp at hlen; omega
        simp [beqI, bneI, mm_min2, mm_max2, mm_min3, mm_max3, startE, lkE, lkX, lkE_rest, sx, substE, opVA, objs0, List.replicate, XA_seq, XA_region, XOA_go, goE_someA, opV, ev, putA, layAll, XOA_nil, XA_skip_seq, XA_skip_nil, XOA_gd, goG_tA, goG_uA, binV, binInt, unV, XA_ret_nil, XA_ret_cons, endFA_r, endFA_n, endTA_r, endTA_n, endRA_r, endRA_n, fltR, resultsA, resAs, resA, XA_block, XA_cond, pickX_t, pickX_f, pickX_b, XA_skip_blk, XA_skip_lp, XA_exit_seq, XA_exit_lp, XA_exit_blk, XA_exit_nil, load1, Ev.loadCells, objCells, bodyCells, setCells, AV.flat, AV.flat1, backR, backV, backCell, mapO, AV.cells, AV.atom, AV.tree, fillV, repeatL, treeCell, freezeAll, eqCells, callV_T, callV_F, passN, passV, passCell, srcCells, sliceBounds, hiB, loB, thenQ_nA, thenQ_xA, thenQ_rA, runK_nA, runK_xA, runK_rA, wrap_i64, wrap_u64, wrap_u32, wrap_u8, wrap_u16, callV_O, okIds, passObjs, passBody, backObjs, backBody, adopts, List.idxOf?, List.findIdx?, List.findIdx?.go, AV.atom, normA, lkE, fixObjs, fixBody, fixV, fixCell, hRN', j1, hwi, dN]
      · obtain ⟨A', z, rfl⟩ : ∃ A' z, A = A' ++ [z] := ⟨A.dropLast, A.getLast (fun h => hA0 (by rw [h]; rfl)), (List.dropLast_concat_getLast _).symm⟩
        have hz := hA z (by simp)
        obtain ⟨P, hP⟩ : ∃ P, dN A' = P := ⟨_, rfl⟩
        obtain ⟨Q, hQ⟩ : ∃ Q, dN (B ++ R) = Q := ⟨_, rfl⟩
        have hPl : P.length = i - B.length - 1 := by rw [← hP, dN_len]; simp at hlen; omega
        have e1 : dN (A' ++ [z]) ++ .int .i64 i :: dN (B ++ R) = P ++ .int .i64 (z : Nat) :: .int .i64 i :: Q := by rw [dN_append, hP, hQ]; simp [dN]
        have e2 : dN (A' ++ [z] ++ i :: B ++ R) = P ++ .int .i64 (z : Nat) :: .int .i64 i :: Q := by rw [← e1]; simp [dN]
        have e3 := swap_cells P Q (.int .i64 (z : Nat)) (.int .i64 i)
        have hc := hcl i z (by omega) (by omega)
        have hcm : ¬ cmpI (rk l i) (rk l z) < 0 := by unfold cmpI; rw [if_neg (by omega)]; split <;> omega
        generalize cmpI (rk l i) (rk l z) = cm at *
        simp only [e1]
        obtain ⟨p, hp⟩ : ∃ p, P.length = p := ⟨_, rfl⟩
        rw [hp] at e3 hPl
        obtain ⟨f1, f2, -, -⟩ := e3
        simp only [List.length_append, List.length_cons, List.length_nil] at hlen
        have j1 : (i : Int) - (B.length : Nat) = ((p + 1 : Nat) : Int) := by omega
        have j3 : IntKind.i64.wrap (((p + 1 : Nat) : Int) - 1) = (p : Int) := by rw [wrap_i64 (by omega) (by omega)]; omega
        have j4 : (0 : Int) < ((p + 1 : Nat) : Int) := by omega
        have j5 : ((p + 1 : Nat) : Int) < n := by omega
        have j6 : (p : Int) < n := by omega
        have j7 : (0 : Int) ≤ ((p + 1 : Nat) : Int) := by omega
        have j8 : (0 : Int) ≤ (p : Int) := by omega
        rw [j1]
        have e4 : dN (A' ++ [z] ++ i :: (B ++ R)) = P ++ .int .i64 (z : Nat) :: .int .i64 i :: Q := by rw [← e2]; simp
        simp only [e4]
        generalize P ++ AV.int .i64 (z : Nat) :: .int .i64 i :: Q = D0 at *
        obtain ⟨p1, hp1⟩ : ∃ p1, p + 1 = p1 := ⟨_, rfl⟩
        rw [hp1] at f1 j3 j4 j5 j7 ⊢
        have j4' : 0 < p1 := by omega
        rw [hRN'] at hc
        simp [j4', beqI, bneI, mm_min2, mm_max2, mm_min3, mm_max3, startE, lkE, lkX, lkE_rest, sx, substE, opVA, objs0, List.replicate, XA_seq, XA_region, XOA_go, goE_someA, opV, ev, putA, layAll, XOA_nil, XA_skip_seq, XA_skip_nil, XOA_gd, goG_tA, goG_uA, binV, binInt, unV, XA_ret_nil, XA_ret_cons, endFA_r, endFA_n, endTA_r, endTA_n, endRA_r, endRA_n, fltR, resultsA, resAs, resA, XA_block, XA_cond, pickX_t, pickX_f, pickX_b, XA_skip_blk, XA_skip_lp, XA_exit_seq, XA_exit_lp, XA_exit_blk, XA_exit_nil, load1, Ev.loadCells, objCells, bodyCells, setCells, AV.flat, AV.flat1, backR, backV, backCell, mapO, AV.cells, AV.atom, AV.tree, fillV, repeatL, treeCell, freezeAll, eqCells, callV_T, callV_F, passN, passV, passCell, srcCells, sliceBounds, hiB, loB, thenQ_nA, thenQ_xA, thenQ_rA, runK_nA, runK_xA, runK_rA, wrap_i64, wrap_u64, wrap_u32, wrap_u8, wrap_u16, callV_O, okIds, passObjs, passBody, backObjs, backBody, adopts, List.idxOf?, List.findIdx?, List.findIdx?.go, AV.atom, normA, lkE, fixObjs, fixBody, fixV, fixCell, hRN', j3, j4, j5, j6, j7, j8, f1, f2, hc, hcm, hwi]
  · intro _
    simp [beqI, bneI, mm_min2, mm_max2, mm_min3, mm_max3, startE, lkE, lkX, lkE_rest, sx, substE, opVA, objs0, List.replicate, XA_seq, XA_region, XOA_go, goE_someA, opV, ev, putA, layAll, XOA_nil, XA_skip_seq, XA_skip_nil, XOA_gd, goG_tA, goG_uA, binV, binInt, unV, XA_ret_nil, XA_ret_cons, endFA_r, endFA_n, endTA_r, endTA_n, endRA_r, endRA_n, fltR, resultsA, resAs, resA, XA_block, XA_cond, pickX_t, pickX_f, pickX_b, XA_skip_blk, XA_skip_lp, XA_exit_seq, XA_exit_lp, XA_exit_blk, XA_exit_nil, load1, Ev.loadCells, objCells, bodyCells, setCells, AV.flat, AV.flat1, backR, backV, backCell, mapO, AV.cells, AV.atom, AV.tree, fillV, repeatL, treeCell, freezeAll, eqCells, callV_T, callV_F, passN, passV, passCell, srcCells, sliceBounds, hiB, loB, thenQ_nA, thenQ_xA, thenQ_rA, runK_nA, runK_xA, runK_rA, wrap_i64, wrap_u64, wrap_u32, wrap_u8, wrap_u16, AV.atom, normA, lkE, fixObjs, fixBody, fixV, fixCell, endRA_n, endRA_r]
theorem stable_ev (l : List (List Int)) (hl : okNs l) (hn : 1 ≤ l.length) (hn2 : l.length ≤ 12) (hf : ∀ i, i < l.length → 0 ≤ rk l i ∧ rk l i < (21 : Nat)) :
    cfT tab 39 [.own 1 0 0 l.length 1, .int .i64 l.length, .fn 27 [] [.ptr 0 0 0]] [⟨0, .var [rN l]⟩, ⟨0, .row true 1 (dN (List.range l.length))⟩] =
      some (.tup [], [⟨0, .var [rN l]⟩, ⟨0, .row true 1 (dN (ordB (rk l) l.length 21))⟩]) := by
  refine cfTA_R (mf := Mf.f39) rfl rfl (by kernel_rfl) ?_
  simp only [Mf.f39]
  have e := isort_ev l hl hn hn2 hf
  have c1 : ¬ (20 : Int) ≤ (l.length : Int) := by omega
  have c2 : ¬ (20 : Int) < (l.length : Int) := by omega
  simp only [rN] at e ⊢
  simp [beqI, bneI, mm_min2, mm_max2, mm_min3, mm_max3, startE, lkE, lkX, lkE_rest, sx, substE, opVA, objs0, List.replicate, XA_seq, XA_region, XOA_go, goE_someA, opV, ev, putA, layAll, XOA_nil, XA_skip_seq, XA_skip_nil, XOA_gd, goG_tA, goG_uA, binV, binInt, unV, XA_ret_nil, XA_ret_cons, endFA_r, endFA_n, endTA_r, endTA_n, endRA_r, endRA_n, fltR, resultsA, resAs, resA, XA_block, XA_cond, pickX_t, pickX_f, pickX_b, XA_skip_blk, XA_skip_lp, XA_exit_seq, XA_exit_lp, XA_exit_blk, XA_exit_nil, load1, Ev.loadCells, objCells, bodyCells, setCells, AV.flat, AV.flat1, backR, backV, backCell, mapO, AV.cells, AV.atom, AV.tree, fillV, repeatL, treeCell, freezeAll, eqCells, callV_T, callV_F, passN, passV, passCell, srcCells, sliceBounds, hiB, loB, thenQ_nA, thenQ_xA, thenQ_rA, runK_nA, runK_xA, runK_rA, wrap_i64, wrap_u64, wrap_u32, wrap_u8, wrap_u16]
  refine XA_for (fun _ => ⟨[(0, .own 1 0 0 l.length 1), (1, .int .i64 l.length), (2, .fn 27 [] [.ptr 0 0 0]), (6, .int .i64 20), (7, .int .i64 0), (8, .int .i64 20)], [⟨0, .var [.ro l.length (flatN l)]⟩, ⟨0, .row true 1 (dN (List.range l.length))⟩]⟩)
    (fun _ => True) 0 0 (by omega) (by simp [AV.atom, normA, lkE, fixObjs, fixBody, fixV, fixCell]) trivial (fun i h1 h2 => by omega) ?_
  intro _
  simp [beqI, bneI, mm_min2, mm_max2, mm_min3, mm_max3, startE, lkE, lkX, lkE_rest, sx, substE, opVA, objs0, List.replicate, XA_seq, XA_region, XOA_go, goE_someA, opV, ev, putA, layAll, XOA_nil, XA_skip_seq, XA_skip_nil, XOA_gd, goG_tA, goG_uA, binV, binInt, unV, XA_ret_nil, XA_ret_cons, endFA_r, endFA_n, endTA_r, endTA_n, endRA_r, endRA_n, fltR, resultsA, resAs, resA, XA_block, XA_cond, pickX_t, pickX_f, pickX_b, XA_skip_blk, XA_skip_lp, XA_exit_seq, XA_exit_lp, XA_exit_blk, XA_exit_nil, load1, Ev.loadCells, objCells, bodyCells, setCells, AV.flat, AV.flat1, backR, backV, backCell, mapO, AV.cells, AV.atom, AV.tree, fillV, repeatL, treeCell, freezeAll, eqCells, callV_T, callV_F, passN, passV, passCell, srcCells, sliceBounds, hiB, loB, thenQ_nA, thenQ_xA, thenQ_rA, runK_nA, runK_xA, runK_rA, wrap_i64, wrap_u64, wrap_u32, wrap_u8, wrap_u16, callV_O, okIds, passObjs, passBody, backObjs, backBody, adopts, List.idxOf?, List.findIdx?, List.findIdx?.go, AV.atom, normA, lkE, fixObjs, fixBody, fixV, fixCell, c1, e]
  refine XA_for (fun _ => ⟨[(0, .own 1 0 0 l.length 1), (1, .int .i64 l.length), (2, .fn 27 [] [.ptr 0 0 0]), (6, .int .i64 20)], [⟨0, .var [.ro l.length (flatN l)]⟩, ⟨0, .row true 1 (dN (ordB (rk l) l.length 21))⟩]⟩)
    (fun _ => True) 0 0 (by omega) (by simp [AV.atom, normA, lkE, fixObjs, fixBody, fixV, fixCell]) trivial (fun i h1 h2 => by omega) ?_
  intro _
  simp [beqI, bneI, mm_min2, mm_max2, mm_min3, mm_max3, startE, lkE, lkX, lkE_rest, sx, substE, opVA, objs0, List.replicate, XA_seq, XA_region, XOA_go, goE_someA, opV, ev, putA, layAll, XOA_nil, XA_skip_seq, XA_skip_nil, XOA_gd, goG_tA, goG_uA, binV, binInt, unV, XA_ret_nil, XA_ret_cons, endFA_r, endFA_n, endTA_r, endTA_n, endRA_r, endRA_n, fltR, resultsA, resAs, resA, XA_block, XA_cond, pickX_t, pickX_f, pickX_b, XA_skip_blk, XA_skip_lp, XA_exit_seq, XA_exit_lp, XA_exit_blk, XA_exit_nil, load1, Ev.loadCells, objCells, bodyCells, setCells, AV.flat, AV.flat1, backR, backV, backCell, mapO, AV.cells, AV.atom, AV.tree, fillV, repeatL, treeCell, freezeAll, eqCells, callV_T, callV_F, passN, passV, passCell, srcCells, sliceBounds, hiB, loB, thenQ_nA, thenQ_xA, thenQ_rA, runK_nA, runK_xA, runK_rA, wrap_i64, wrap_u64, wrap_u32, wrap_u8, wrap_u16, callV_O, okIds, passObjs, passBody, backObjs, backBody, adopts, List.idxOf?, List.findIdx?, List.findIdx?.go, AV.atom, normA, lkE, fixObjs, fixBody, fixV, fixCell, c2, endRA_n, endRA_r]
theorem sortSt_ev (l : List (List Int)) (hl : okNs l) (hn : 1 ≤ l.length) (hn2 : l.length ≤ 12) (hf : ∀ i, i < l.length → 0 ≤ rk l i ∧ rk l i < (21 : Nat)) :
    cfT tab 26 [.own 1 0 0 l.length 1, .fn 27 [] [.ptr 0 0 0]] [⟨0, .var [rN l]⟩, ⟨0, .row true 1 (dN (List.range l.length))⟩] =
      some (.tup [], [⟨0, .var [rN l]⟩, ⟨0, .row true 1 (dN (ordB (rk l) l.length 21))⟩]) := by
  refine cfTA_R (mf := Mf.f26) rfl rfl (by kernel_rfl) ?_
  simp only [Mf.f26]
  have e := stable_ev l hl hn hn2 hf
  simp only [rN] at e ⊢
  simp [beqI, bneI, mm_min2, mm_max2, mm_min3, mm_max3, startE, lkE, lkX, lkE_rest, sx, substE, opVA, objs0, List.replicate, XA_seq, XA_region, XOA_go, goE_someA, opV, ev, putA, layAll, XOA_nil, XA_skip_seq, XA_skip_nil, XOA_gd, goG_tA, goG_uA, binV, binInt, unV, XA_ret_nil, XA_ret_cons, endFA_r, endFA_n, endTA_r, endTA_n, endRA_r, endRA_n, fltR, resultsA, resAs, resA, XA_block, XA_cond, pickX_t, pickX_f, pickX_b, XA_skip_blk, XA_skip_lp, XA_exit_seq, XA_exit_lp, XA_exit_blk, XA_exit_nil, load1, Ev.loadCells, objCells, bodyCells, setCells, AV.flat, AV.flat1, backR, backV, backCell, mapO, AV.cells, AV.atom, AV.tree, fillV, repeatL, treeCell, freezeAll, eqCells, callV_T, callV_F, passN, passV, passCell, srcCells, sliceBounds, hiB, loB, thenQ_nA, thenQ_xA, thenQ_rA, runK_nA, runK_xA, runK_rA, wrap_i64, wrap_u64, wrap_u32, wrap_u8, wrap_u16, callV_O, okIds, passObjs, passBody, backObjs, backBody, adopts, List.idxOf?, List.findIdx?, List.findIdx?.go, e, endRA_n, endRA_r]
/-- A good node's rank. -/
theorem rank_in {ds : List Dm} {m : Int} {v : List Int} (g : goodN ds m v = true) (hv : okN v) : 0 ≤ rankN v ∧ rankN v < (21 : Nat) := by
  have hc := goodN_good g
  have h := (goodN_iff hc hv).1 g
  have w0 := wOf_le hc 0
  have w1 := wOf_le hc 1
  have w2 := wOf_le hc 2
  have w3 := wOf_le hc 3
  obtain ⟨a, b, c, d, rfl, h0, h1, h2, h3⟩ := four hv
  unfold byte at h0 h1 h2 h3
  simp only [gI, List.getD_cons_zero, List.getD_cons_succ] at h
  unfold rankN
  simp
  omega
theorem goodR_at {ds : List Dm} {m : Int} {l : List (List Int)} (g : goodR ds m l = true) : goodC ds m = true ∧ 1 ≤ l.length ∧ l.length ≤ 12 ∧ (∀ i, i < l.length → goodN ds m (gR l i) = true) ∧ l.Nodup ∧ zero4 ∈ l := by
  unfold goodR at g
  simp only [Bool.and_eq_true, decide_eq_true_eq] at g
  exact ⟨g.1, g.2.1, g.2.2.1, fun i hi => List.all_eq_true.1 g.2.2.2.1 _ (gR_mem hi), g.2.2.2.2.1, g.2.2.2.2.2⟩
theorem rk_in {ds : List Dm} {m : Int} {l : List (List Int)} (g : goodR ds m l = true) (hl : okNs l) : ∀ i, i < l.length → 0 ≤ rk l i ∧ rk l i < (21 : Nat) :=
  fun i hi => rank_in ((goodR_at g).2.2.2.1 i hi) (hl.at hi)
def rNat (l : List Nat) : AV := .ro l.length (dN l)
def orderN (ds : List Dm) (m : Int) (l : List (List Int)) : List Nat := if goodR ds m l = true then ordB (rk l) l.length 21 else []
theorem order_ev (ds : List Dm) (m : Int) (l : List (List Int)) (hC : okC ds) (hl : okNs l) : cvT tab 12 [.agg [.ro ds.length (flatD ds), .int .i64 m], rN l] = some (rNat (orderN ds m l)) := by
  refine cvTA_R (mf := Mf.f12) rfl rfl (by kernel_rfl) ?_
  simp only [Mf.f12]
  have e1 := rogood_ev ds m l hC hl
  simp only [rN] at e1 ⊢
  cases g : goodR ds m l with
  | false =>
    rw [g] at e1
    simp [beqI, bneI, mm_min2, mm_max2, mm_min3, mm_max3, startE, lkE, lkX, lkE_rest, sx, substE, opVA, objs0, List.replicate, XA_seq, XA_region, XOA_go, goE_someA, opV, ev, putA, layAll, XOA_nil, XA_skip_seq, XA_skip_nil, XOA_gd, goG_tA, goG_uA, binV, binInt, unV, XA_ret_nil, XA_ret_cons, endFA_r, endFA_n, endTA_r, endTA_n, endRA_r, endRA_n, fltR, resultsA, resAs, resA, XA_block, XA_cond, pickX_t, pickX_f, pickX_b, XA_skip_blk, XA_skip_lp, XA_exit_seq, XA_exit_lp, XA_exit_blk, XA_exit_nil, load1, Ev.loadCells, objCells, bodyCells, setCells, AV.flat, AV.flat1, backR, backV, backCell, mapO, AV.cells, AV.atom, AV.tree, fillV, repeatL, treeCell, freezeAll, eqCells, callV_T, callV_F, passN, passV, passCell, srcCells, sliceBounds, hiB, loB, thenQ_nA, thenQ_xA, thenQ_rA, runK_nA, runK_xA, runK_rA, wrap_i64, wrap_u64, wrap_u32, wrap_u8, wrap_u16, e1, orderN, g, rNat, dN]
  | true =>
    rw [g] at e1
    obtain ⟨_, h1, h2, _, _, _⟩ := goodR_at g
    have e2 := sortSt_ev l hl h1 h2 (rk_in g hl)
    have hlen := ordB_len (rk l) 21 l.length (rk_in g hl)
    have hdl := dN_len (ordB (rk l) l.length 21)
    rw [hlen] at hdl
    simp only [rN] at e2
    simp [beqI, bneI, mm_min2, mm_max2, mm_min3, mm_max3, startE, lkE, lkX, lkE_rest, sx, substE, opVA, objs0, List.replicate, XA_seq, XA_region, XOA_go, goE_someA, opV, ev, putA, layAll, XOA_nil, XA_skip_seq, XA_skip_nil, XOA_gd, goG_tA, goG_uA, binV, binInt, unV, XA_ret_nil, XA_ret_cons, endFA_r, endFA_n, endTA_r, endTA_n, endRA_r, endRA_n, fltR, resultsA, resAs, resA, XA_block, XA_cond, pickX_t, pickX_f, pickX_b, XA_skip_blk, XA_skip_lp, XA_exit_seq, XA_exit_lp, XA_exit_blk, XA_exit_nil, load1, Ev.loadCells, objCells, bodyCells, setCells, AV.flat, AV.flat1, backR, backV, backCell, mapO, AV.cells, AV.atom, AV.tree, fillV, repeatL, treeCell, freezeAll, eqCells, callV_T, callV_F, passN, passV, passCell, srcCells, sliceBounds, hiB, loB, thenQ_nA, thenQ_xA, thenQ_rA, runK_nA, runK_xA, runK_rA, wrap_i64, wrap_u64, wrap_u32, wrap_u8, wrap_u16, e1]
    refine XA_for (fun i => ⟨[(3, .ptr 1 0 0), (5, .own 2 0 0 i 1), (12, .int .i64 l.length), (13, .int .i64 i)], [⟨0, .none⟩, ⟨0, .var [.ro l.length (flatN l)]⟩, ⟨0, .row true 1 (dN (List.range i))⟩]⟩)
      (fun i => True) l.length 0 (Nat.zero_le _) (by simp [AV.atom, normA, lkE, fixObjs, fixBody, fixV, fixCell, dN]) trivial ?_ ?_
    · intro i _ hi _
      have hi' : (i : Int) < l.length := by omega
      have hw := wrap_succ i l.length hi (by omega)
      have q1 : (i + 1) * 8 ≤ 140737488355328 := by omega
      have q2 : i + 1 < 4611686018427387904 := by omega
      have q3 := dN_len (List.range i)
      rw [List.length_range] at q3
      have q4 : dN (List.range (i + 1)) = dN (List.range i) ++ [.int .i64 i] := by rw [List.range_succ, dN_append]; rfl
      rw [q4]
      generalize dN (List.range i) = D at *
      simp [beqI, bneI, mm_min2, mm_max2, mm_min3, mm_max3, startE, lkE, lkX, lkE_rest, sx, substE, opVA, objs0, List.replicate, XA_seq, XA_region, XOA_go, goE_someA, opV, ev, putA, layAll, XOA_nil, XA_skip_seq, XA_skip_nil, XOA_gd, goG_tA, goG_uA, binV, binInt, unV, XA_ret_nil, XA_ret_cons, endFA_r, endFA_n, endTA_r, endTA_n, endRA_r, endRA_n, fltR, resultsA, resAs, resA, XA_block, XA_cond, pickX_t, pickX_f, pickX_b, XA_skip_blk, XA_skip_lp, XA_exit_seq, XA_exit_lp, XA_exit_blk, XA_exit_nil, load1, Ev.loadCells, objCells, bodyCells, setCells, AV.flat, AV.flat1, backR, backV, backCell, mapO, AV.cells, AV.atom, AV.tree, fillV, repeatL, treeCell, freezeAll, eqCells, callV_T, callV_F, passN, passV, passCell, srcCells, sliceBounds, hiB, loB, thenQ_nA, thenQ_xA, thenQ_rA, runK_nA, runK_xA, runK_rA, wrap_i64, wrap_u64, wrap_u32, wrap_u8, wrap_u16, AV.atom, normA, lkE, fixObjs, fixBody, fixV, fixCell, hi', hw, q1, q2, q3]
    · intro _
      have hlt : List.take l.length (dN (ordB (rk l) l.length 21)) = dN (ordB (rk l) l.length 21) := List.take_of_length_le (by omega)
      simp [beqI, bneI, mm_min2, mm_max2, mm_min3, mm_max3, startE, lkE, lkX, lkE_rest, sx, substE, opVA, objs0, List.replicate, XA_seq, XA_region, XOA_go, goE_someA, opV, ev, putA, layAll, XOA_nil, XA_skip_seq, XA_skip_nil, XOA_gd, goG_tA, goG_uA, binV, binInt, unV, XA_ret_nil, XA_ret_cons, endFA_r, endFA_n, endTA_r, endTA_n, endRA_r, endRA_n, fltR, resultsA, resAs, resA, XA_block, XA_cond, pickX_t, pickX_f, pickX_b, XA_skip_blk, XA_skip_lp, XA_exit_seq, XA_exit_lp, XA_exit_blk, XA_exit_nil, load1, Ev.loadCells, objCells, bodyCells, setCells, AV.flat, AV.flat1, backR, backV, backCell, mapO, AV.cells, AV.atom, AV.tree, fillV, repeatL, treeCell, freezeAll, eqCells, callV_T, callV_F, passN, passV, passCell, srcCells, sliceBounds, hiB, loB, thenQ_nA, thenQ_xA, thenQ_rA, runK_nA, runK_xA, runK_rA, wrap_i64, wrap_u64, wrap_u32, wrap_u8, wrap_u16, callV_O, okIds, passObjs, passBody, backObjs, backBody, adopts, List.idxOf?, List.findIdx?, List.findIdx?.go, AV.atom, normA, lkE, fixObjs, fixBody, fixV, fixCell, e2, hdl, hlt, orderN, g, rNat, hlen]
end Go.Proofs.Ytaflkcaebecpfaa
