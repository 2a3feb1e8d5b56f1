/- Rows: the document's sort. -/
import Derived.Test.YtmnafjgkhhdidaaRowV
import Derived.Test.YtmnafjgkhhdidaaUntil
set_option linter.unusedSimpArgs false
set_option linter.unusedVariables false
set_option maxHeartbeats 4000000
set_option maxRecDepth 100000
namespace Go.Proofs.Ytmnafjgkhhdidaa
open Go.Ev
theorem rinsert_ev (l : List Rw) (r : Rw) (hl : okL l) (hr : okW r) (hn : l.length ≤ 1000) : cvT tab 42 [rW l, .agg (rowC r)] = some (rW (insR r l)) := by
  refine cvTA_R (mf := Mf.f42) rfl rfl (by kernel_rfl) ?_
  simp only [Mf.f42]
  have hR : rW (insR r l) = .ro (l.length + 1) (flatW (insR r l)) := by unfold rW; rw [insR_len]
  rw [hR]
  obtain ⟨V, hV⟩ : ∃ V, AV.ro (l.length + 1) (flatW (insR r l)) = V := ⟨_, rfl⟩
  rw [hV]
  have hlf := flatW_len l
  simp only [rW]
  simp [beqI, bneI, mm_min2, mm_max2, mm_min3, mm_max3, startE, lkE, lkX, lkE_rest, sx, substE, opVA, objs0, List.replicate, XA_seq, XA_region, XOA_go, goE_someA, opV, ev, putA, layAll, XOA_nil, XA_skip_seq, XA_skip_nil, XOA_gd, goG_tA, goG_uA, binV, bi_add, bi_sub, bi_mul, bi_quo, bi_rem, bi_eql, bi_neq, bi_lss, bi_leq, bi_gtr, bi_geq, bi_shl, bi_shr, bi_and, bi_or, bi_xor, unV, XA_ret_nil, XA_ret_cons, endFA_r, endFA_n, endTA_r, endTA_n, endRA_r, endRA_n, endEA_r, endEA_n, List.take, fltR, resultsA, resAs, resA, XA_block, XA_cond, pickX_t, pickX_f, pickX_b, XA_skip_blk, XA_skip_lp, XA_exit_seq, XA_exit_lp, XA_exit_blk, XA_exit_nil, load1, Ev.loadCells, objCells, bodyCells, setCells, AV.flat, AV.flat1, backR, backV, backCell, mapO, AV.cells, AV.atom, AV.tree, fillV, repeatL, treeCell, freezeAll, eqCells, callV_T, callV_F, passN, passV, passCell, srcCells, sliceBounds, hiB, loB, thenQ_nA, thenQ_xA, thenQ_rA, runK_nA, runK_xA, runK_rA, wrap_i64, wrap_u64, wrap_u32, wrap_u8, wrap_u16, rowC]
  refine XA_until (fun i => ⟨[(0, .ro l.length (flatW l)), (3, .ptr 0 0 0), (5, .int .i64 i)], [⟨0, .var (rowC r)⟩, ⟨0, .none⟩]⟩)
    (fun i => ∀ j (h : j < l.length), j < i → ¬ ltR r l[j]) (fun i => ∃ h : i < l.length, ltR r l[i]) l.length 0 (Nat.zero_le _) (by simp [AV.atom, normA, lkE, fixObjs, fixBody, fixV, fixCell, rowC]) (fun j _ h => by omega) ?_ ?_
  · intro i _ hi hst hJ
    have hi' : (i : Int) < l.length := by omega
    have hd := dropW l i hi
    have hnlt : ¬ ltR r l[i] := fun h => hst ⟨hi, h⟩
    have e := rless_ev r l[i] hr (hl _ (List.getElem_mem hi))
    rw [decide_eq_false hnlt] at e
    have hw := wrap_succ i l.length hi (by omega)
    have hJ2 : ∀ j (h : j < l.length), j < i + 1 → ¬ ltR r l[j] := fun j h hj => by
      by_cases hji : j = i
      · subst hji; exact hnlt
      · exact hJ j h (by omega)
    generalize l[i] = p at *
    simp only [rowC, List.cons_append, List.nil_append] at e hd
    simp [beqI, bneI, mm_min2, mm_max2, mm_min3, mm_max3, startE, lkE, lkX, lkE_rest, sx, substE, opVA, objs0, List.replicate, XA_seq, XA_region, XOA_go, goE_someA, opV, ev, putA, layAll, XOA_nil, XA_skip_seq, XA_skip_nil, XOA_gd, goG_tA, goG_uA, binV, bi_add, bi_sub, bi_mul, bi_quo, bi_rem, bi_eql, bi_neq, bi_lss, bi_leq, bi_gtr, bi_geq, bi_shl, bi_shr, bi_and, bi_or, bi_xor, unV, XA_ret_nil, XA_ret_cons, endFA_r, endFA_n, endTA_r, endTA_n, endRA_r, endRA_n, endEA_r, endEA_n, List.take, fltR, resultsA, resAs, resA, XA_block, XA_cond, pickX_t, pickX_f, pickX_b, XA_skip_blk, XA_skip_lp, XA_exit_seq, XA_exit_lp, XA_exit_blk, XA_exit_nil, load1, Ev.loadCells, objCells, bodyCells, setCells, AV.flat, AV.flat1, backR, backV, backCell, mapO, AV.cells, AV.atom, AV.tree, fillV, repeatL, treeCell, freezeAll, eqCells, callV_T, callV_F, passN, passV, passCell, srcCells, sliceBounds, hiB, loB, thenQ_nA, thenQ_xA, thenQ_rA, runK_nA, runK_xA, runK_rA, wrap_i64, wrap_u64, wrap_u32, wrap_u8, wrap_u16, AV.atom, normA, lkE, fixObjs, fixBody, fixV, fixCell, rowC, hi', hi, hd, e, hw]
    exact hJ2
  · intro i _ hin hoi hJ
    have hat := insR_at r l i hin hJ (fun h => by
      rcases hoi with rfl | ⟨_, h2⟩
      · omega
      · exact h2)
    have lA : (flatW (l.take i)).length = i * 6 := by rw [flatW_len, List.length_take, Nat.min_eq_left hin]
    have lB : (flatW (l.drop i)).length = (l.length - i) * 6 := by rw [flatW_len, List.length_drop]
    have hA : List.take (i * 6) (flatW l) = flatW (l.take i) := flatW_take l i
    have hB : List.drop (i * 6) (flatW l) = flatW (l.drop i) := flatW_drop l i
    have tA := flatW_tree (l.take i)
    have tB := flatW_tree (l.drop i)
    have hfin : flatW (insR r l) = flatW (l.take i) ++ (rowC r ++ flatW (l.drop i)) := by
      rw [hat, flatW_append]; rfl
    rw [← hV, hfin]
    have hcond : (i : Int) < l.length → cvF tab 61 [.agg (rowC r), .agg (rowC (l.getD i r))] = some (.bool true) := fun h => by
      have hi : i < l.length := by omega
      have h2 : ltR r l[i] := by
        rcases hoi with h3 | ⟨_, h3⟩
        · omega
        · exact h3
      have e := rless_ev r l[i] hr (hl _ (List.getElem_mem hi))
      rw [decide_eq_true h2] at e
      rw [List.getD_eq_getElem?_getD, List.getElem?_eq_getElem hi]
      exact e
    have hdl := fun (h : i < l.length) => dropW l i h
    have hcd := hcond
    have hlt : ∀ h : i < l.length, (l.getD i r) = l[i] := fun h => by rw [List.getD_eq_getElem?_getD, List.getElem?_eq_getElem h]; rfl
    have q1 : i * 24 ≤ 140737488355328 := by omega
    have q2 : i < 4611686018427387904 := by omega
    have q3 : (i + 1) * 24 ≤ 140737488355328 := by omega
    have q4 : i + 1 < 4611686018427387904 := by omega
    have q5 : (i : Int) ≤ (l.length : Int) := by omega
    have q6 : (i + 1 + (l.length - i)) * 24 ≤ 140737488355328 := by omega
    have q7 : i + 1 + (l.length - i) < 4611686018427387904 := by omega
    have q8 : i + 1 + (l.length - i) = l.length + 1 := by omega
    have q9 : (l.length + 1) * 24 ≤ 140737488355328 := by omega
    have q10 : l.length + 1 < 4611686018427387904 := by omega
    have t1 : List.take (i * 6) (flatW (l.take i)) = flatW (l.take i) := List.take_of_length_le (by omega)
    have t2 : List.take ((l.length - i) * 6) (flatW (l.drop i)) = flatW (l.drop i) := List.take_of_length_le (by omega)
    have t3 : ∀ (x : List AV), x.length = 6 → List.take ((l.length + 1) * 6) (flatW (l.take i) ++ (x ++ flatW (l.drop i))) = flatW (l.take i) ++ (x ++ flatW (l.drop i)) := fun x hx => List.take_of_length_le (by simp only [List.length_append, hx]; omega)
    have t3' := t3 (rowC r) rfl
    have q14 : (i + 1) * 6 = i * 6 + 6 := by omega
    have q11 : (l.length + 1) * 6 ≤ i * 6 + (6 + (l.length - i) * 6) := by omega
    have q12 : (l.length + 1) * 6 ≤ i * 6 + ((l.length - i) * 6 + 6) := by omega
    simp only [rowC, List.cons_append, List.nil_append] at t3' hcd hdl
    by_cases c : i < l.length
    · have c' : (i : Int) < l.length := by omega
      have e := hcd c'
      rw [hlt c] at e
      have d := hdl c
      rw [hB] at d
      have d6 : List.take 6 (flatW (l.drop i)) = [.int .u8 l[i].a, .int .u8 l[i].b, .int .u8 l[i].c, .int .u8 l[i].d, .int .i64 l[i].x, .int .i64 l[i].y] := by rw [d]; rfl
      have q13 : 6 ≤ (l.length - i) * 6 := by omega
      clear d
      simp [beqI, bneI, mm_min2, mm_max2, mm_min3, mm_max3, startE, lkE, lkX, lkE_rest, sx, substE, opVA, objs0, List.replicate, XA_seq, XA_region, XOA_go, goE_someA, opV, ev, putA, layAll, XOA_nil, XA_skip_seq, XA_skip_nil, XOA_gd, goG_tA, goG_uA, binV, bi_add, bi_sub, bi_mul, bi_quo, bi_rem, bi_eql, bi_neq, bi_lss, bi_leq, bi_gtr, bi_geq, bi_shl, bi_shr, bi_and, bi_or, bi_xor, unV, XA_ret_nil, XA_ret_cons, endFA_r, endFA_n, endTA_r, endTA_n, endRA_r, endRA_n, endEA_r, endEA_n, List.take, fltR, resultsA, resAs, resA, XA_block, XA_cond, pickX_t, pickX_f, pickX_b, XA_skip_blk, XA_skip_lp, XA_exit_seq, XA_exit_lp, XA_exit_blk, XA_exit_nil, load1, Ev.loadCells, objCells, bodyCells, setCells, AV.flat, AV.flat1, backR, backV, backCell, mapO, AV.cells, AV.atom, AV.tree, fillV, repeatL, treeCell, freezeAll, eqCells, callV_T, callV_F, passN, passV, passCell, srcCells, sliceBounds, hiB, loB, thenQ_nA, thenQ_xA, thenQ_rA, runK_nA, runK_xA, runK_rA, wrap_i64, wrap_u64, wrap_u32, wrap_u8, wrap_u16, AV.atom, normA, lkE, fixObjs, fixBody, fixV, fixCell, rowC, c', c, d6, q13, q14, e, q1, q2, q3, q4, q5, q6, q7, q8, q9, q10, q11, q12, t1, t2, t3', lA, lB, hA, hB, tA, tB, hlf, hin]
    · have c' : ¬ (i : Int) < l.length := by omega
      simp [beqI, bneI, mm_min2, mm_max2, mm_min3, mm_max3, startE, lkE, lkX, lkE_rest, sx, substE, opVA, objs0, List.replicate, XA_seq, XA_region, XOA_go, goE_someA, opV, ev, putA, layAll, XOA_nil, XA_skip_seq, XA_skip_nil, XOA_gd, goG_tA, goG_uA, binV, bi_add, bi_sub, bi_mul, bi_quo, bi_rem, bi_eql, bi_neq, bi_lss, bi_leq, bi_gtr, bi_geq, bi_shl, bi_shr, bi_and, bi_or, bi_xor, unV, XA_ret_nil, XA_ret_cons, endFA_r, endFA_n, endTA_r, endTA_n, endRA_r, endRA_n, endEA_r, endEA_n, List.take, fltR, resultsA, resAs, resA, XA_block, XA_cond, pickX_t, pickX_f, pickX_b, XA_skip_blk, XA_skip_lp, XA_exit_seq, XA_exit_lp, XA_exit_blk, XA_exit_nil, load1, Ev.loadCells, objCells, bodyCells, setCells, AV.flat, AV.flat1, backR, backV, backCell, mapO, AV.cells, AV.atom, AV.tree, fillV, repeatL, treeCell, freezeAll, eqCells, callV_T, callV_F, passN, passV, passCell, srcCells, sliceBounds, hiB, loB, thenQ_nA, thenQ_xA, thenQ_rA, runK_nA, runK_xA, runK_rA, wrap_i64, wrap_u64, wrap_u32, wrap_u8, wrap_u16, AV.atom, normA, lkE, fixObjs, fixBody, fixV, fixCell, rowC, c', c, q14, q1, q2, q3, q4, q5, q6, q7, q8, q9, q10, q11, q12, t1, t2, t3', lA, lB, hA, hB, tA, tB, hlf, hin]
theorem insR_sorted (x : Rw) : ∀ {l : List Rw}, l.Pairwise (fun a b => ¬ ltR b a) → (insR x l).Pairwise fun a b => ¬ ltR b a
  | [], _ => by simp [insR]
  | y :: r, h => by
    unfold insR
    obtain ⟨h1, h2⟩ := List.pairwise_cons.1 h
    split
    · rename_i c
      refine List.pairwise_cons.2 ⟨fun z hz => ?_, h⟩
      rcases List.mem_cons.1 hz with rfl | hz
      · exact fun hc => ltR_irrefl _ (ltR_trans c hc)
      · have := h1 z hz
        unfold ltR at *
        omega
    · rename_i c
      refine List.pairwise_cons.2 ⟨fun z hz => ?_, insR_sorted x h2⟩
      rcases List.mem_cons.1 ((insR_perm x r).mem_iff.1 hz) with rfl | hz
      · exact c
      · exact h1 z hz
def rS (l : List Rw) : List Rw := l.foldl (fun out r => insR r out) []
theorem foldR_perm : ∀ (l out : List Rw), (l.foldl (fun out r => insR r out) out).Perm (l ++ out)
  | [], out => .refl _
  | x :: l, out => (foldR_perm l (insR x out)).trans (((insR_perm x out).append_left l).trans (by simp))
theorem foldR_sorted : ∀ (l : List Rw) {out : List Rw}, out.Pairwise (fun a b => ¬ ltR b a) → (l.foldl (fun out r => insR r out) out).Pairwise fun a b => ¬ ltR b a
  | [], _, h => h
  | x :: l, _, h => foldR_sorted l (insR_sorted x h)
theorem rS_perm (l : List Rw) : (rS l).Perm l := by
  have := foldR_perm l []
  rwa [List.append_nil] at this
theorem rS_sorted (l : List Rw) : (rS l).Pairwise fun a b => ¬ ltR b a := foldR_sorted l .nil
theorem rS_succ (l : List Rw) (i : Nat) (h : i < l.length) : rS (l.take (i + 1)) = insR l[i] (rS (l.take i)) := by
  unfold rS
  rw [List.take_succ_eq_append_getElem h, List.foldl_append]; rfl
end Go.Proofs.Ytmnafjgkhhdidaa
