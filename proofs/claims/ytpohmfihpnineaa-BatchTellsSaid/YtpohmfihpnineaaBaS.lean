/- The document's base: Do. -/
import Derived.Test.YtpohmfihpnineaaBaR
set_option linter.unusedSimpArgs false
set_option linter.unusedVariables false
set_option maxHeartbeats 16000000
set_option maxRecDepth 100000
namespace Go.Proofs.Ytpohmfihpnineaa
open Go.Ev
def nxtW (ds : List Dm) (m : Int) (L : List Rw) (del : Bool) (r : Rw) : List Rw :=
  if errL ds m L del r = 0 then (if del = true then L.erase r else insR r L) else L
theorem nxtW_perm (ds : List Dm) (m : Int) (L : List Rw) (del : Bool) (r : Rw) : (nxtW ds m L del r).Perm (nxtL ds m L del r) := by
  unfold nxtW nxtL
  split
  · split
    · exact .refl _
    · exact insR_perm r L
  · exact .refl _
theorem nxtW_sorted {ds : List Dm} {m : Int} {L : List Rw} {del : Bool} {r : Rw} (h : L.Pairwise fun a b => ¬ ltR b a) : (nxtW ds m L del r).Pairwise fun a b => ¬ ltR b a := by
  unfold nxtW
  split
  · split
    · exact h.sublist (List.erase_sublist)
    · exact insR_sorted r h
  · exact h
theorem srt_sorted {L : List Rw} (hk : okL L) (h : L.Pairwise fun a b => ¬ ltR b a) : srt L = L := by
  refine List.Perm.eq_of_pairwise (le := fun x y => ltD y x = false) (fun x y hx hy h1 h2 => ?_) (ltD_swo hk) (h.imp fun h => decide_eq_false h) (srt_perm L)
  by_cases c : x = y
  · exact c
  · rcases ltR_tri (srt_ok hk x hx) (hk y hy) c with c | c
    · exact absurd c (of_decide_eq_false h2)
    · exact absurd c (of_decide_eq_false h1)
theorem rdo_cf (ds : List Dm) (m : Int) (L : List Rw) (del : Bool) (r : Rw) (hC : okC ds) (hk : okL L) (hr : okW r) (hl : L.length ≤ 900) : ∃ X H, cfT tab 45 [.ptr 0 0 0, .agg (chC del r)] [wV 0 ds m L] =
    some (.int .i64 (errL ds m L del r), ⟨0, .var [.ro ds.length (flatD ds), .int .i64 m, X]⟩ :: H) ∧ (X = rW (nxtW ds m L del r) ∨ ∃ n cs b, X = .own 2 3 0 n 6 ∧ H = [b, ⟨3, .row true 6 cs⟩] ∧ rW (nxtW ds m L del r) = .ro n cs ∧ cs.length = n * 6) := by
  have e1 := rwgood_ev ds m r hC hr
  obtain ⟨HF, e2, her⟩ := find_cf ds m L r (by omega)
  have e3 := rinsert_ev L r hk hr (by omega)
  have hkI : okL (insR r L) := fun x hx => by
    rcases List.mem_cons.1 ((insR_perm r L).mem_iff.1 hx) with rfl | hx
    · exact hr
    · exact hk x hx
  have e4 := rmass_ev (insR r L) (by rw [insR_len]; omega) hkI
  have hmp : massG (insR r L) = massG (r :: L) := massG_perm (insR_perm r L)
  unfold massR at e4
  rw [hmp] at e4
  unfold nxtW errL
  by_cases c1 : goodW ds m r = false
  · rw [c1] at e1
    refine ⟨rW L, [⟨1, .var (chC del r)⟩, ⟨0, .none⟩], ?_, .inl (by simp only [c1, if_true]; rw [if_neg (by omega)])⟩
    rw [if_pos c1]
    refine cfTA_R (mf := Mf.f45) rfl rfl (by kernel_rfl) ?_
    simp only [Mf.f45]
    simp only [rowC] at e1
    simp [beqI, bneI, mm_min2, mm_max2, mm_min3, mm_max3, startE, lkE, lkX, lkE_rest, sx, substE, opVA, objs0, List.replicate, XA_seq, XA_region, XOA_go, goE_someA, opV, ev, putA, layAll, XOA_nil, XA_skip_seq, XA_skip_nil, XOA_gd, goG_tA, goG_uA, binV, bi_add, bi_sub, bi_mul, bi_quo, bi_rem, bi_eql, bi_neq, bi_lss, bi_leq, bi_gtr, bi_geq, bi_shl, bi_shr, bi_and, bi_or, bi_xor, unV, XA_ret_nil, XA_ret_cons, endFA_r, endFA_n, endTA_r, endTA_n, endRA_r, endRA_n, endEA_r, endEA_n, List.take, fltR, resultsA, resAs, resA, XA_block, XA_cond, pickX_t, pickX_f, pickX_b, XA_skip_blk, XA_skip_lp, XA_exit_seq, XA_exit_lp, XA_exit_blk, XA_exit_nil, load1, Ev.loadCells, objCells, bodyCells, setCells, AV.flat, AV.flat1, backR, backV, backCell, mapO, AV.cells, AV.atom, AV.tree, fillV, repeatL, treeCell, freezeAll, eqCells, callV_T, callV_F, passN, passV, passCell, srcCells, sliceBounds, hiB, loB, thenQ_nA, thenQ_xA, thenQ_rA, runK_nA, runK_xA, runK_rA, wrap_i64, wrap_u64, wrap_u32, wrap_u8, wrap_u16, callV_O, okIds, passObjs, passBody, backObjs, backBody, adopts, List.idxOf?, List.findIdx?, List.findIdx?.go, isNilP, mapLook, mapGet, keyGet, adopts, List.lookup, wV, rW, chC, rowC, e1]
  · have c1' : goodW ds m r = true := by simpa using c1
    rw [c1'] at e1
    rw [if_neg c1]
    cases del with
    | true =>
      simp only [if_true]
      by_cases c2 : r ∈ L
      · have hlt : L.idxOf r < L.length := List.idxOf_lt_length_iff.2 c2
        rw [if_pos c2] at e2
        have her := her c2
        obtain ⟨k, hk'⟩ : ∃ k, L.idxOf r = k := ⟨_, rfl⟩
        rw [hk'] at e2 her hlt
        have q1 := flatW_len (L.take k)
        have q2 := flatW_len (L.drop (k + 1))
        rw [List.length_take, Nat.min_eq_left (by omega)] at q1
        rw [List.length_drop] at q2
        have q3 : (flatW L).take (k * 6) = flatW (L.take k) := flatW_take L k
        have q4 : (flatW L).drop ((k + 1) * 6) = flatW (L.drop (k + 1)) := flatW_drop L (k + 1)
        have q5 : (flatW (L.drop (k + 1))).take ((L.length - (k + 1)) * 6) = flatW (L.drop (k + 1)) := List.take_of_length_le (by omega)
        have hlen : (L.erase r).length = k + (L.length - (k + 1)) := by rw [her]; simp; omega
        have hfl : flatW (L.erase r) = flatW (L.take k) ++ flatW (L.drop (k + 1)) := by rw [her, flatW_append]
        refine ⟨.own 2 3 0 (k + (L.length - (k + 1))) 6, [⟨1, .var (chC true r)⟩, ⟨3, .row true 6 (flatW (L.take k) ++ flatW (L.drop (k + 1)))⟩], ?_, ?_⟩
        · rw [if_pos c2]
          refine cfTA_R (mf := Mf.f45) rfl rfl (by kernel_rfl) ?_
          simp only [Mf.f45]
          simp only [rowC, wV, rW] at e1 e2 ⊢
          have w1 : IntKind.i64.wrap ((k : Int) + 1) = ((k + 1 : Nat) : Int) := by rw [wrap_i64 (by omega) (by omega)]; omega
          have p1 : ¬ (k : Int) < 0 := by omega
          have p2 : (k : Int) ≤ L.length := by omega
          have p3 : k ≤ L.length := by omega
          have p4 : k + 1 ≤ L.length := by omega
          have p5 : k * 24 ≤ 140737488355328 := by omega
          have p6 : (k + (L.length - (k + 1))) * 24 ≤ 140737488355328 := by omega
          have p7 : k + (L.length - (k + 1)) < 4611686018427387904 := by omega
          have p8 : k < 4611686018427387904 := by omega
          have p9 : ((k + 1 : Nat) : Int) ≤ L.length := by omega
          have p10 : (0 : Int) ≤ ((k + 1 : Nat) : Int) := by omega
          have p11 : (((k + 1 : Nat) : Int)).toNat = k + 1 := by omega
          generalize flatW (L.take k) = A at *
          generalize flatW (L.drop (k + 1)) = B at *
          generalize flatW L = fl at *
          generalize L.length = n at *
          generalize ((k + 1 : Nat) : Int) = z at *
          simp [beqI, bneI, mm_min2, mm_max2, mm_min3, mm_max3, startE, lkE, lkX, lkE_rest, sx, substE, opVA, objs0, List.replicate, XA_seq, XA_region, XOA_go, goE_someA, opV, ev, putA, layAll, XOA_nil, XA_skip_seq, XA_skip_nil, XOA_gd, goG_tA, goG_uA, binV, bi_add, bi_sub, bi_mul, bi_quo, bi_rem, bi_eql, bi_neq, bi_lss, bi_leq, bi_gtr, bi_geq, bi_shl, bi_shr, bi_and, bi_or, bi_xor, unV, XA_ret_nil, XA_ret_cons, endFA_r, endFA_n, endTA_r, endTA_n, endRA_r, endRA_n, endEA_r, endEA_n, List.take, fltR, resultsA, resAs, resA, XA_block, XA_cond, pickX_t, pickX_f, pickX_b, XA_skip_blk, XA_skip_lp, XA_exit_seq, XA_exit_lp, XA_exit_blk, XA_exit_nil, load1, Ev.loadCells, objCells, bodyCells, setCells, AV.flat, AV.flat1, backR, backV, backCell, mapO, AV.cells, AV.atom, AV.tree, fillV, repeatL, treeCell, freezeAll, eqCells, callV_T, callV_F, passN, passV, passCell, srcCells, sliceBounds, hiB, loB, thenQ_nA, thenQ_xA, thenQ_rA, runK_nA, runK_xA, runK_rA, wrap_i64, wrap_u64, wrap_u32, wrap_u8, wrap_u16, callV_O, okIds, passObjs, passBody, backObjs, backBody, adopts, List.idxOf?, List.findIdx?, List.findIdx?.go, isNilP, mapLook, mapGet, keyGet, adopts, List.lookup, wV, rW, chC, rowC, e1, e2, w1, p1, p2, p3, p4, p5, p6, p7, p8, p9, p10, p11, q1, q2, q3, q4, q5]
        · refine .inr ⟨_, _, _, rfl, rfl, ?_, ?_⟩
          · simp only [c2, if_true]
            unfold rW
            rw [hlen, hfl]
          · rw [List.length_append]; omega
      · rw [if_neg c2] at e2
        refine ⟨rW L, [⟨1, .var (chC true r)⟩, ⟨0, .none⟩], ?_, .inl (by simp only [c2, if_false]; rw [if_neg (by omega)])⟩
        rw [if_neg c2]
        refine cfTA_R (mf := Mf.f45) rfl rfl (by kernel_rfl) ?_
        simp only [Mf.f45]
        simp only [rowC, wV, rW] at e1 e2
        simp [beqI, bneI, mm_min2, mm_max2, mm_min3, mm_max3, startE, lkE, lkX, lkE_rest, sx, substE, opVA, objs0, List.replicate, XA_seq, XA_region, XOA_go, goE_someA, opV, ev, putA, layAll, XOA_nil, XA_skip_seq, XA_skip_nil, XOA_gd, goG_tA, goG_uA, binV, bi_add, bi_sub, bi_mul, bi_quo, bi_rem, bi_eql, bi_neq, bi_lss, bi_leq, bi_gtr, bi_geq, bi_shl, bi_shr, bi_and, bi_or, bi_xor, unV, XA_ret_nil, XA_ret_cons, endFA_r, endFA_n, endTA_r, endTA_n, endRA_r, endRA_n, endEA_r, endEA_n, List.take, fltR, resultsA, resAs, resA, XA_block, XA_cond, pickX_t, pickX_f, pickX_b, XA_skip_blk, XA_skip_lp, XA_exit_seq, XA_exit_lp, XA_exit_blk, XA_exit_nil, load1, Ev.loadCells, objCells, bodyCells, setCells, AV.flat, AV.flat1, backR, backV, backCell, mapO, AV.cells, AV.atom, AV.tree, fillV, repeatL, treeCell, freezeAll, eqCells, callV_T, callV_F, passN, passV, passCell, srcCells, sliceBounds, hiB, loB, thenQ_nA, thenQ_xA, thenQ_rA, runK_nA, runK_xA, runK_rA, wrap_i64, wrap_u64, wrap_u32, wrap_u8, wrap_u16, callV_O, okIds, passObjs, passBody, backObjs, backBody, adopts, List.idxOf?, List.findIdx?, List.findIdx?.go, isNilP, mapLook, mapGet, keyGet, adopts, List.lookup, wV, rW, chC, rowC, e1, e2]
    | false =>
      simp only [Bool.false_eq_true, if_false]
      by_cases c2 : massG (r :: L) = true
      · rw [if_pos c2] at e4
        refine ⟨rW (insR r L), [⟨1, .var (chC false r)⟩, ⟨0, .none⟩], ?_, .inl (by simp only [c2, if_true])⟩
        rw [if_pos c2]
        refine cfTA_R (mf := Mf.f45) rfl rfl (by kernel_rfl) ?_
        simp only [Mf.f45]
        simp only [rowC, wV, rW] at e1 e2 e3 e4
        simp [beqI, bneI, mm_min2, mm_max2, mm_min3, mm_max3, startE, lkE, lkX, lkE_rest, sx, substE, opVA, objs0, List.replicate, XA_seq, XA_region, XOA_go, goE_someA, opV, ev, putA, layAll, XOA_nil, XA_skip_seq, XA_skip_nil, XOA_gd, goG_tA, goG_uA, binV, bi_add, bi_sub, bi_mul, bi_quo, bi_rem, bi_eql, bi_neq, bi_lss, bi_leq, bi_gtr, bi_geq, bi_shl, bi_shr, bi_and, bi_or, bi_xor, unV, XA_ret_nil, XA_ret_cons, endFA_r, endFA_n, endTA_r, endTA_n, endRA_r, endRA_n, endEA_r, endEA_n, List.take, fltR, resultsA, resAs, resA, XA_block, XA_cond, pickX_t, pickX_f, pickX_b, XA_skip_blk, XA_skip_lp, XA_exit_seq, XA_exit_lp, XA_exit_blk, XA_exit_nil, load1, Ev.loadCells, objCells, bodyCells, setCells, AV.flat, AV.flat1, backR, backV, backCell, mapO, AV.cells, AV.atom, AV.tree, fillV, repeatL, treeCell, freezeAll, eqCells, callV_T, callV_F, passN, passV, passCell, srcCells, sliceBounds, hiB, loB, thenQ_nA, thenQ_xA, thenQ_rA, runK_nA, runK_xA, runK_rA, wrap_i64, wrap_u64, wrap_u32, wrap_u8, wrap_u16, callV_O, okIds, passObjs, passBody, backObjs, backBody, adopts, List.idxOf?, List.findIdx?, List.findIdx?.go, isNilP, mapLook, mapGet, keyGet, adopts, List.lookup, wV, rW, chC, rowC, e1, e2, e3, e4]
      · rw [if_neg c2] at e4
        refine ⟨rW L, [⟨1, .var (chC false r)⟩, ⟨0, .none⟩], ?_, .inl (by rw [if_neg (by rw [if_neg c2]; omega)])⟩
        rw [if_neg c2]
        refine cfTA_R (mf := Mf.f45) rfl rfl (by kernel_rfl) ?_
        simp only [Mf.f45]
        simp only [rowC, wV, rW] at e1 e2 e3 e4
        simp [beqI, bneI, mm_min2, mm_max2, mm_min3, mm_max3, startE, lkE, lkX, lkE_rest, sx, substE, opVA, objs0, List.replicate, XA_seq, XA_region, XOA_go, goE_someA, opV, ev, putA, layAll, XOA_nil, XA_skip_seq, XA_skip_nil, XOA_gd, goG_tA, goG_uA, binV, bi_add, bi_sub, bi_mul, bi_quo, bi_rem, bi_eql, bi_neq, bi_lss, bi_leq, bi_gtr, bi_geq, bi_shl, bi_shr, bi_and, bi_or, bi_xor, unV, XA_ret_nil, XA_ret_cons, endFA_r, endFA_n, endTA_r, endTA_n, endRA_r, endRA_n, endEA_r, endEA_n, List.take, fltR, resultsA, resAs, resA, XA_block, XA_cond, pickX_t, pickX_f, pickX_b, XA_skip_blk, XA_skip_lp, XA_exit_seq, XA_exit_lp, XA_exit_blk, XA_exit_nil, load1, Ev.loadCells, objCells, bodyCells, setCells, AV.flat, AV.flat1, backR, backV, backCell, mapO, AV.cells, AV.atom, AV.tree, fillV, repeatL, treeCell, freezeAll, eqCells, callV_T, callV_F, passN, passV, passCell, srcCells, sliceBounds, hiB, loB, thenQ_nA, thenQ_xA, thenQ_rA, runK_nA, runK_xA, runK_rA, wrap_i64, wrap_u64, wrap_u32, wrap_u8, wrap_u16, callV_O, okIds, passObjs, passBody, backObjs, backBody, adopts, List.idxOf?, List.findIdx?, List.findIdx?.go, isNilP, mapLook, mapGet, keyGet, adopts, List.lookup, wV, rW, chC, rowC, e1, e2, e3, e4]
end Go.Proofs.Ytpohmfihpnineaa
