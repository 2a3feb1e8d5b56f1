/- Batches of bytes: read. -/
import Derived.Test.YtpohmfihpnineaaBtG
set_option linter.unusedSimpArgs false
set_option linter.unusedVariables false
set_option maxHeartbeats 16000000
set_option maxRecDepth 100000
namespace Go.Proofs.Ytpohmfihpnineaa
open Go.Ev
def readsV : Option (List Ch) → AV
  | some l => .tup [rH l, .bool true]
  | none => .tup [.ro 0 [], .bool false]
theorem flatH_snoc (l : List Ch) (b : Bool) (r : Rw) : flatH (l ++ [(b, r)]) = flatH l ++ chC b r := by rw [flatH_append]; simp [flatH]
theorem bread_ev (b : List Int) (hb : okB b) (hl : b.length ≤ 100000) : cvT tabC 19 [rB b] = some (readsV (readBat b)) := by
  have eg := cvFC (cvFB (cvFS (get_ev b hb (by omega))))
  unfold readBat
  cases e0 : gv b 0 0 with
  | none =>
    rw [e0] at eg
    simp only [getV, rB] at eg
    refine cvTA_R (mf := Mf.f19) rfl rfl (by kernel_rfl) ?_
    simp only [Mf.f19]
    simp [beqI, bneI, mm_min2, mm_max2, mm_min3, mm_max3, startE, lkE, lkX, lkE_rest, sx, substE, opVA, objs0, List.replicate, XA_seq, XA_region, XOA_go, goE_someA, opV, ev, putA, layAll, XOA_nil, XA_skip_seq, XA_skip_nil, XOA_gd, goG_tA, goG_uA, binV, bi_add, bi_sub, bi_mul, bi_quo, bi_rem, bi_eql, bi_neq, bi_lss, bi_leq, bi_gtr, bi_geq, bi_shl, bi_shr, bi_and, bi_or, bi_xor, unV, XA_ret_nil, XA_ret_cons, endFA_r, endFA_n, endTA_r, endTA_n, endRA_r, endRA_n, endEA_r, endEA_n, List.take, fltR, resultsA, resAs, resA, XA_block, XA_cond, pickX_t, pickX_f, pickX_b, XA_skip_blk, XA_skip_lp, XA_exit_seq, XA_exit_lp, XA_exit_blk, XA_exit_nil, load1, Ev.loadCells, objCells, bodyCells, setCells, AV.flat, AV.flat1, backR, backV, backCell, mapO, AV.cells, AV.atom, AV.tree, fillV, repeatL, treeCell, freezeAll, eqCells, callV_T, callV_F, passN, passV, passCell, srcCells, sliceBounds, hiB, loB, thenQ_nA, thenQ_xA, thenQ_rA, runK_nA, runK_xA, runK_rA, wrap_i64, wrap_u64, wrap_u32, wrap_u8, wrap_u16, callV_O, okIds, passObjs, passBody, backObjs, backBody, adopts, List.idxOf?, List.findIdx?, List.findIdx?.go, isNilP, mapLook, mapGet, keyGet, adopts, List.lookup, rB, eg, readsV]
  | some p =>
    obtain ⟨u, n⟩ := p
    rw [e0] at eg
    simp only [getV] at eg
    have hn := gv_nn hb e0
    have hu := gv_inU hb e0
    have hd := rB_drop b n hn.2
    have hn2 : (n : Int) ≤ b.length := by omega
    have hbd : okB (b.drop n) := okB_drop hb n
    have hll : (b.drop n).length ≤ 100000 := by rw [List.length_drop]; omega
    have hw : IntKind.u64.wrap ((b.drop n).length : Int) = (b.drop n).length := wrap_u64 (by omega) (by omega)
    simp only
    simp only [rB] at eg hd ⊢
    have hlen : b.length - n = (b.drop n).length := by rw [List.length_drop]
    generalize b.drop n = R at *
    generalize hN : b.length = N at *
    generalize b.map (AV.int .u8) = cells at *
    simp only [AV.ro.injEq] at hd
    obtain ⟨hd1, hd2⟩ := hd
    rw [hd1] at hd2
    by_cases c : (R.length : Int) < u
    · rw [if_pos c]
      refine cvTA_R (mf := Mf.f19) rfl rfl (by kernel_rfl) ?_
      simp only [Mf.f19]
      simp [beqI, bneI, mm_min2, mm_max2, mm_min3, mm_max3, startE, lkE, lkX, lkE_rest, sx, substE, opVA, objs0, List.replicate, XA_seq, XA_region, XOA_go, goE_someA, opV, ev, putA, layAll, XOA_nil, XA_skip_seq, XA_skip_nil, XOA_gd, goG_tA, goG_uA, binV, bi_add, bi_sub, bi_mul, bi_quo, bi_rem, bi_eql, bi_neq, bi_lss, bi_leq, bi_gtr, bi_geq, bi_shl, bi_shr, bi_and, bi_or, bi_xor, unV, XA_ret_nil, XA_ret_cons, endFA_r, endFA_n, endTA_r, endTA_n, endRA_r, endRA_n, endEA_r, endEA_n, List.take, fltR, resultsA, resAs, resA, XA_block, XA_cond, pickX_t, pickX_f, pickX_b, XA_skip_blk, XA_skip_lp, XA_exit_seq, XA_exit_lp, XA_exit_blk, XA_exit_nil, load1, Ev.loadCells, objCells, bodyCells, setCells, AV.flat, AV.flat1, backR, backV, backCell, mapO, AV.cells, AV.atom, AV.tree, fillV, repeatL, treeCell, freezeAll, eqCells, callV_T, callV_F, passN, passV, passCell, srcCells, sliceBounds, hiB, loB, thenQ_nA, thenQ_xA, thenQ_rA, runK_nA, runK_xA, runK_rA, wrap_i64, wrap_u64, wrap_u32, wrap_u8, wrap_u16, callV_O, okIds, passObjs, passBody, backObjs, backBody, adopts, List.idxOf?, List.findIdx?, List.findIdx?.go, isNilP, mapLook, mapGet, keyGet, adopts, List.lookup, eg, hn2, hn.2, hd1, hd2, hw, c, readsV]
    · rw [if_neg c]
      obtain ⟨U, hU⟩ : ∃ U : Nat, u = U := ⟨u.toNat, by omega⟩
      subst hU
      rw [Int.toNat_natCast]
      generalize hS : readsC U R = SP
      refine cvTA_R (mf := Mf.f19) rfl rfl (by kernel_rfl) ?_
      simp only [Mf.f19]
      simp [beqI, bneI, mm_min2, mm_max2, mm_min3, mm_max3, startE, lkE, lkX, lkE_rest, sx, substE, opVA, objs0, List.replicate, XA_seq, XA_region, XOA_go, goE_someA, opV, ev, putA, layAll, XOA_nil, XA_skip_seq, XA_skip_nil, XOA_gd, goG_tA, goG_uA, binV, bi_add, bi_sub, bi_mul, bi_quo, bi_rem, bi_eql, bi_neq, bi_lss, bi_leq, bi_gtr, bi_geq, bi_shl, bi_shr, bi_and, bi_or, bi_xor, unV, XA_ret_nil, XA_ret_cons, endFA_r, endFA_n, endTA_r, endTA_n, endRA_r, endRA_n, endEA_r, endEA_n, List.take, fltR, resultsA, resAs, resA, XA_block, XA_cond, pickX_t, pickX_f, pickX_b, XA_skip_blk, XA_skip_lp, XA_exit_seq, XA_exit_lp, XA_exit_blk, XA_exit_nil, load1, Ev.loadCells, objCells, bodyCells, setCells, AV.flat, AV.flat1, backR, backV, backCell, mapO, AV.cells, AV.atom, AV.tree, fillV, repeatL, treeCell, freezeAll, eqCells, callV_T, callV_F, passN, passV, passCell, srcCells, sliceBounds, hiB, loB, thenQ_nA, thenQ_xA, thenQ_rA, runK_nA, runK_xA, runK_rA, wrap_i64, wrap_u64, wrap_u32, wrap_u8, wrap_u16, callV_O, okIds, passObjs, passBody, backObjs, backBody, adopts, List.idxOf?, List.findIdx?, List.findIdx?.go, isNilP, mapLook, mapGet, keyGet, adopts, List.lookup, eg, hn2, hn.2, hd1, hd2, hw, c]
      refine XA_loop (α := Nat × List Int × List Ch) (fun x => ⟨[(0, .ro x.2.1.length (x.2.1.map (.int .u8))), (7, .own 0 0 0 x.2.2.length 7), (29, .int .u64 U), (30, .int .u64 x.1)], [⟨0, .row true 7 (flatH x.2.2)⟩, ⟨0, .none⟩]⟩)
        (fun x => okB x.2.1 ∧ x.2.1.length ≤ 100000 ∧ x.1 ≤ U ∧ x.2.2.length = x.1 ∧ (readsC (U - x.1) x.2.1).map (x.2.2 ++ ·) = SP) (fun x => U - x.1) (0, R, []) (by simp [AV.atom, normA, lkE, fixObjs, fixBody, fixV, fixCell, flatH]) ⟨hbd, hll, by omega, rfl, by simp [hS]⟩ ?_
      rintro ⟨i, rest, acc⟩ ⟨k1, k2, k3, k4, k5⟩
      simp only at k1 k2 k3 k4 k5
      have hfa := flatH_len acc
      rw [k4] at hfa
      by_cases ci : i < U
      · have ci' : (i : Int) < (U : Int) := by omega
        obtain ⟨j, hj⟩ : ∃ j, U - i = j + 1 := ⟨U - i - 1, by omega⟩
        rw [hj] at k5
        cases rest with
        | nil =>
          simp only [readsC, Option.map_none] at k5
          subst k5
          simp [beqI, bneI, mm_min2, mm_max2, mm_min3, mm_max3, startE, lkE, lkX, lkE_rest, sx, substE, opVA, objs0, List.replicate, XA_seq, XA_region, XOA_go, goE_someA, opV, ev, putA, layAll, XOA_nil, XA_skip_seq, XA_skip_nil, XOA_gd, goG_tA, goG_uA, binV, bi_add, bi_sub, bi_mul, bi_quo, bi_rem, bi_eql, bi_neq, bi_lss, bi_leq, bi_gtr, bi_geq, bi_shl, bi_shr, bi_and, bi_or, bi_xor, unV, XA_ret_nil, XA_ret_cons, endFA_r, endFA_n, endTA_r, endTA_n, endRA_r, endRA_n, endEA_r, endEA_n, List.take, fltR, resultsA, resAs, resA, XA_block, XA_cond, pickX_t, pickX_f, pickX_b, XA_skip_blk, XA_skip_lp, XA_exit_seq, XA_exit_lp, XA_exit_blk, XA_exit_nil, load1, Ev.loadCells, objCells, bodyCells, setCells, AV.flat, AV.flat1, backR, backV, backCell, mapO, AV.cells, AV.atom, AV.tree, fillV, repeatL, treeCell, freezeAll, eqCells, callV_T, callV_F, passN, passV, passCell, srcCells, sliceBounds, hiB, loB, thenQ_nA, thenQ_xA, thenQ_rA, runK_nA, runK_xA, runK_rA, wrap_i64, wrap_u64, wrap_u32, wrap_u8, wrap_u16, callV_O, okIds, passObjs, passBody, backObjs, backBody, adopts, List.idxOf?, List.findIdx?, List.findIdx?.go, isNilP, mapLook, mapGet, keyGet, adopts, List.lookup, AV.atom, normA, lkE, fixObjs, fixBody, fixV, fixCell, ci', ci, readsV]
        | cons d t =>
          have hdB := k1 d (by simp)
          have ht : okB t := fun x hx => k1 x (by simp [hx])
          simp only [List.length_cons] at k2
          have er := cvFC (cvFB (cvFS (rowRead_ev t ht (by omega))))
          have s1 := rB_drop (d :: t) 1 (by simp)
          have i0 : ((d :: t).map (AV.int .u8))[0]? = some (.int .u8 d) := rfl
          have hN0 : (d :: t).length = t.length + 1 := rfl
          simp only [List.drop_one, List.tail_cons] at s1
          by_cases cd : 1 < d
          · simp only [readsC, if_pos cd, Option.map_none] at k5
            subst k5
            generalize (d :: t).map (AV.int .u8) = cs at *
            generalize hM : (d :: t).length = M at *
            have m1 : (0 : Int) < M := by omega
            have m2 : 0 < M := by omega
            have m3 : ¬ M = 0 := by omega
            simp [beqI, bneI, mm_min2, mm_max2, mm_min3, mm_max3, startE, lkE, lkX, lkE_rest, sx, substE, opVA, objs0, List.replicate, XA_seq, XA_region, XOA_go, goE_someA, opV, ev, putA, layAll, XOA_nil, XA_skip_seq, XA_skip_nil, XOA_gd, goG_tA, goG_uA, binV, bi_add, bi_sub, bi_mul, bi_quo, bi_rem, bi_eql, bi_neq, bi_lss, bi_leq, bi_gtr, bi_geq, bi_shl, bi_shr, bi_and, bi_or, bi_xor, unV, XA_ret_nil, XA_ret_cons, endFA_r, endFA_n, endTA_r, endTA_n, endRA_r, endRA_n, endEA_r, endEA_n, List.take, fltR, resultsA, resAs, resA, XA_block, XA_cond, pickX_t, pickX_f, pickX_b, XA_skip_blk, XA_skip_lp, XA_exit_seq, XA_exit_lp, XA_exit_blk, XA_exit_nil, load1, Ev.loadCells, objCells, bodyCells, setCells, AV.flat, AV.flat1, backR, backV, backCell, mapO, AV.cells, AV.atom, AV.tree, fillV, repeatL, treeCell, freezeAll, eqCells, callV_T, callV_F, passN, passV, passCell, srcCells, sliceBounds, hiB, loB, thenQ_nA, thenQ_xA, thenQ_rA, runK_nA, runK_xA, runK_rA, wrap_i64, wrap_u64, wrap_u32, wrap_u8, wrap_u16, callV_O, okIds, passObjs, passBody, backObjs, backBody, adopts, List.idxOf?, List.findIdx?, List.findIdx?.go, isNilP, mapLook, mapGet, keyGet, adopts, List.lookup, AV.atom, normA, lkE, fixObjs, fixBody, fixV, fixCell, ci', ci, m1, m2, m3, i0, cd, readsV]
          · simp only [readsC, if_neg cd] at k5
            cases e1 : readW t with
            | none =>
              rw [e1] at er k5
              simp only [Option.map_none] at k5
              subst k5
              generalize (d :: t).map (AV.int .u8) = cs at *
              generalize hM : (d :: t).length = M at *
              have m1 : (0 : Int) < M := by omega
              have m2 : 0 < M := by omega
              have m3 : ¬ M = 0 := by omega
              have m4 : (1 : Int) ≤ M := by omega
              have m5 : 1 ≤ M := by omega
              simp only [readWV, rowC, rB] at er s1
              simp [beqI, bneI, mm_min2, mm_max2, mm_min3, mm_max3, startE, lkE, lkX, lkE_rest, sx, substE, opVA, objs0, List.replicate, XA_seq, XA_region, XOA_go, goE_someA, opV, ev, putA, layAll, XOA_nil, XA_skip_seq, XA_skip_nil, XOA_gd, goG_tA, goG_uA, binV, bi_add, bi_sub, bi_mul, bi_quo, bi_rem, bi_eql, bi_neq, bi_lss, bi_leq, bi_gtr, bi_geq, bi_shl, bi_shr, bi_and, bi_or, bi_xor, unV, XA_ret_nil, XA_ret_cons, endFA_r, endFA_n, endTA_r, endTA_n, endRA_r, endRA_n, endEA_r, endEA_n, List.take, fltR, resultsA, resAs, resA, XA_block, XA_cond, pickX_t, pickX_f, pickX_b, XA_skip_blk, XA_skip_lp, XA_exit_seq, XA_exit_lp, XA_exit_blk, XA_exit_nil, load1, Ev.loadCells, objCells, bodyCells, setCells, AV.flat, AV.flat1, backR, backV, backCell, mapO, AV.cells, AV.atom, AV.tree, fillV, repeatL, treeCell, freezeAll, eqCells, callV_T, callV_F, passN, passV, passCell, srcCells, sliceBounds, hiB, loB, thenQ_nA, thenQ_xA, thenQ_rA, runK_nA, runK_xA, runK_rA, wrap_i64, wrap_u64, wrap_u32, wrap_u8, wrap_u16, callV_O, okIds, passObjs, passBody, backObjs, backBody, adopts, List.idxOf?, List.findIdx?, List.findIdx?.go, isNilP, mapLook, mapGet, keyGet, adopts, List.lookup, AV.atom, normA, lkE, fixObjs, fixBody, fixV, fixCell, ci', ci, m1, m2, m3, m4, m5, i0, cd, s1, er, readsV]
            | some q =>
              obtain ⟨r, k⟩ := q
              rw [e1] at er k5
              simp only at k5
              have hkt := (readW_pre ht e1 []).2
              have s2 := rB_drop (d :: t) (1 + k) (by simp; omega)
              rw [show 1 + k = k + 1 by omega] at s2
              simp only [List.drop_succ_cons] at s2
              generalize (d :: t).map (AV.int .u8) = cs at *
              generalize hM : (d :: t).length = M at *
              have m1 : (0 : Int) < M := by omega
              have m2 : 0 < M := by omega
              have m3 : ¬ M = 0 := by omega
              have m4 : (1 : Int) ≤ M := by omega
              have m5 : 1 ≤ M := by omega
              have m6 : ((k : Int) + 1) ≤ M := by omega
              have m7 : k + 1 ≤ M := by omega
              have m8 : ((k : Int) + 1).toNat = k + 1 := by omega
              have m9 : (0 : Int) ≤ (k : Int) + 1 := by omega
              have w1 : IntKind.i64.wrap (1 + (k : Int)) = ((k + 1 : Nat) : Int) := by rw [wrap_i64 (by omega) (by omega)]; omega
              have w2 : IntKind.u64.wrap ((i : Int) + 1) = ((i + 1 : Nat) : Int) := by rw [wrap_u64 (by omega) (by omega)]; omega
              have q1 : (i + 1) * 32 ≤ 140737488355328 := by omega
              have q2 : i + 1 < 4611686018427387904 := by omega
              have hf := flatH_snoc acc (decide (d = 1)) r
              simp only [readWV, rowC, rB] at er s1 s2
              simp only [chC, rowC] at hf
              simp [beqI, bneI, mm_min2, mm_max2, mm_min3, mm_max3, startE, lkE, lkX, lkE_rest, sx, substE, opVA, objs0, List.replicate, XA_seq, XA_region, XOA_go, goE_someA, opV, ev, putA, layAll, XOA_nil, XA_skip_seq, XA_skip_nil, XOA_gd, goG_tA, goG_uA, binV, bi_add, bi_sub, bi_mul, bi_quo, bi_rem, bi_eql, bi_neq, bi_lss, bi_leq, bi_gtr, bi_geq, bi_shl, bi_shr, bi_and, bi_or, bi_xor, unV, XA_ret_nil, XA_ret_cons, endFA_r, endFA_n, endTA_r, endTA_n, endRA_r, endRA_n, endEA_r, endEA_n, List.take, fltR, resultsA, resAs, resA, XA_block, XA_cond, pickX_t, pickX_f, pickX_b, XA_skip_blk, XA_skip_lp, XA_exit_seq, XA_exit_lp, XA_exit_blk, XA_exit_nil, load1, Ev.loadCells, objCells, bodyCells, setCells, AV.flat, AV.flat1, backR, backV, backCell, mapO, AV.cells, AV.atom, AV.tree, fillV, repeatL, treeCell, freezeAll, eqCells, callV_T, callV_F, passN, passV, passCell, srcCells, sliceBounds, hiB, loB, thenQ_nA, thenQ_xA, thenQ_rA, runK_nA, runK_xA, runK_rA, wrap_i64, wrap_u64, wrap_u32, wrap_u8, wrap_u16, callV_O, okIds, passObjs, passBody, backObjs, backBody, adopts, List.idxOf?, List.findIdx?, List.findIdx?.go, isNilP, mapLook, mapGet, keyGet, adopts, List.lookup, AV.atom, normA, lkE, fixObjs, fixBody, fixV, fixCell, ci', ci, m1, m2, m3, m4, m5, m6, m7, m8, m9, i0, cd, s1, s2, er, k4, w1, w2, q1, q2, hfa]
              refine ⟨i + 1, t.drop k, acc ++ [(decide (d = 1), r)], ?_⟩
              simp only [rB, hf]
              simp [okB_drop ht k, k4]
              have hj2 : U - (i + 1) = j := by omega
              rw [hj2]
              refine ⟨⟨by omega, by omega, ?_⟩, by omega⟩
              rw [← k5, Option.map_map]
              cases readsC j (t.drop k) <;> simp
      · have hiU : i = U := by omega
        subst hiU
        have ci' : ¬ (i : Int) < (i : Int) := by omega
        rw [Nat.sub_self] at k5
        cases rest with
        | nil =>
          simp only [readsC, Option.map_some, List.append_nil] at k5
          subst k5
          have ht : List.take (i * 7) (flatH acc) = flatH acc := List.take_of_length_le (by omega)
          simp [beqI, bneI, mm_min2, mm_max2, mm_min3, mm_max3, startE, lkE, lkX, lkE_rest, sx, substE, opVA, objs0, List.replicate, XA_seq, XA_region, XOA_go, goE_someA, opV, ev, putA, layAll, XOA_nil, XA_skip_seq, XA_skip_nil, XOA_gd, goG_tA, goG_uA, binV, bi_add, bi_sub, bi_mul, bi_quo, bi_rem, bi_eql, bi_neq, bi_lss, bi_leq, bi_gtr, bi_geq, bi_shl, bi_shr, bi_and, bi_or, bi_xor, unV, XA_ret_nil, XA_ret_cons, endFA_r, endFA_n, endTA_r, endTA_n, endRA_r, endRA_n, endEA_r, endEA_n, List.take, fltR, resultsA, resAs, resA, XA_block, XA_cond, pickX_t, pickX_f, pickX_b, XA_skip_blk, XA_skip_lp, XA_exit_seq, XA_exit_lp, XA_exit_blk, XA_exit_nil, load1, Ev.loadCells, objCells, bodyCells, setCells, AV.flat, AV.flat1, backR, backV, backCell, mapO, AV.cells, AV.atom, AV.tree, fillV, repeatL, treeCell, freezeAll, eqCells, callV_T, callV_F, passN, passV, passCell, srcCells, sliceBounds, hiB, loB, thenQ_nA, thenQ_xA, thenQ_rA, runK_nA, runK_xA, runK_rA, wrap_i64, wrap_u64, wrap_u32, wrap_u8, wrap_u16, callV_O, okIds, passObjs, passBody, backObjs, backBody, adopts, List.idxOf?, List.findIdx?, List.findIdx?.go, isNilP, mapLook, mapGet, keyGet, adopts, List.lookup, AV.atom, normA, lkE, fixObjs, fixBody, fixV, fixCell, readsV, rH, k4, hfa, ht]
        | cons d t =>
          simp only [readsC, Option.map_none] at k5
          subst k5
          simp [beqI, bneI, mm_min2, mm_max2, mm_min3, mm_max3, startE, lkE, lkX, lkE_rest, sx, substE, opVA, objs0, List.replicate, XA_seq, XA_region, XOA_go, goE_someA, opV, ev, putA, layAll, XOA_nil, XA_skip_seq, XA_skip_nil, XOA_gd, goG_tA, goG_uA, binV, bi_add, bi_sub, bi_mul, bi_quo, bi_rem, bi_eql, bi_neq, bi_lss, bi_leq, bi_gtr, bi_geq, bi_shl, bi_shr, bi_and, bi_or, bi_xor, unV, XA_ret_nil, XA_ret_cons, endFA_r, endFA_n, endTA_r, endTA_n, endRA_r, endRA_n, endEA_r, endEA_n, List.take, fltR, resultsA, resAs, resA, XA_block, XA_cond, pickX_t, pickX_f, pickX_b, XA_skip_blk, XA_skip_lp, XA_exit_seq, XA_exit_lp, XA_exit_blk, XA_exit_nil, load1, Ev.loadCells, objCells, bodyCells, setCells, AV.flat, AV.flat1, backR, backV, backCell, mapO, AV.cells, AV.atom, AV.tree, fillV, repeatL, treeCell, freezeAll, eqCells, callV_T, callV_F, passN, passV, passCell, srcCells, sliceBounds, hiB, loB, thenQ_nA, thenQ_xA, thenQ_rA, runK_nA, runK_xA, runK_rA, wrap_i64, wrap_u64, wrap_u32, wrap_u8, wrap_u16, callV_O, okIds, passObjs, passBody, backObjs, backBody, adopts, List.idxOf?, List.findIdx?, List.findIdx?.go, isNilP, mapLook, mapGet, keyGet, adopts, List.lookup, AV.atom, normA, lkE, fixObjs, fixBody, fixV, fixCell, readsV]
end Go.Proofs.Ytpohmfihpnineaa
