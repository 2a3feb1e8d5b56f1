/- A query in memory of its own. -/
import Derived.Test.YtambpbcdnhekbaaQI
set_option linter.unusedSimpArgs false
set_option linter.unusedVariables false
set_option maxHeartbeats 8000000
set_option maxRecDepth 100000
namespace Go.Proofs.Ytambpbcdnhekbaa
open Go.Ev
theorem callV_grow {M : Go.Ev.Tab} {H : List AObj} {f : FuncId} {t sz : Nat} {n : Int} (ob : AObj) (hf : M.fn f = none)
    (hx : M.ext f [.nilsl, .int .i64 n] [] = some (.own 0 1 0 0 sz, [⟨1, .row true sz []⟩])) (ht : H[t]? = some ob)
    (hid : okIds [] [] [(0, t)] = true) :
    callV (cfT M) H (.fn f [] []) [.nilsl, .int .i64 n] [] [] [(0, t)] true = some (.own t (ob.ver + 1) 0 0 sz, [(t, ⟨ob.ver + 1, .row true sz []⟩)]) := by
  have hc := cfT_ext hf hx
  simp [callV, hid, mapO, passN, passV, passCell, passObjs, hc, backR, backV, backCell, backObjs, adopts, freezeAll, ht, List.lookup]
theorem concat_ev (A B : List Fx) (hA : A.length ≤ 1000) (hB : B.length ≤ 1000) :
    cfT tab 70 [.ro 2 [.ro A.length (flatF A), .ro B.length (flatF B)]] [] = some (.own 0 0 0 (A.length + B.length) 3, [⟨0, .row true 3 (flatF A ++ flatF B)⟩]) := by
  refine cfTA_R (mf := Mf.f70) rfl rfl (by kernel_rfl) ?_
  simp only [Mf.f70]
  have w1 : IntKind.i64.wrap (A.length : Int) = A.length := wrap_i64 (by omega) (by omega)
  have w2 : IntKind.i64.wrap ((A.length : Int) + B.length) = (A.length : Int) + B.length := wrap_i64 (by omega) (by omega)
  have c1 : ¬ (A.length : Int) < 0 := by omega
  have c2 : ¬ (A.length : Int) + B.length < 0 := by omega
  have hg := callV_grow (M := tab) (H := [⟨0, .none⟩]) (f := 76) (t := 0) (sz := 3) (n := (A.length : Int) + B.length) ⟨0, .none⟩ rfl (by
      simp only [tab, orX]
      unfold growX
      simp [growIds, List.lookup]
      rw [if_pos ⟨by omega, by omega, by omega⟩]) rfl (by decide)
  have lA := flatF_len A
  have lB := flatF_len B
  have tA := flatF_tree A
  have tB' := flatF_tree B
  generalize flatF A = fa at *
  generalize flatF B = fb at *
  generalize A.length = n at *
  generalize B.length = k at *
  have q1 : n * 40 ≤ 140737488355328 := by omega
  have q2 : n < 4611686018427387904 := by omega
  have q3 : (n + k) * 40 ≤ 140737488355328 := by omega
  have q4 : n + k < 4611686018427387904 := by omega
  simp [beqI, bneI, mm_min2, mm_max2, mm_min3, mm_max3, startE, lkE, lkX, lkE_rest, sx, substE, opVA, objs0, List.replicate, XA_seq, XA_region, XOA_go, goE_someA, opV, ev, putA, layAll, XOA_nil, XA_skip_seq, XA_skip_nil, XOA_gd, goG_tA, goG_uA, binV, bi_add, bi_sub, bi_mul, bi_quo, bi_rem, bi_eql, bi_neq, bi_lss, bi_leq, bi_gtr, bi_geq, bi_shl, bi_shr, bi_and, bi_or, bi_xor, unV, XA_ret_nil, XA_ret_cons, endFA_r, endFA_n, endTA_r, endTA_n, endRA_r, endRA_n, fltR, resultsA, resAs, resA, XA_block, XA_cond, pickX_t, pickX_f, pickX_b, XA_skip_blk, XA_skip_lp, XA_exit_seq, XA_exit_lp, XA_exit_blk, XA_exit_nil, load1, Ev.loadCells, objCells, bodyCells, setCells, AV.flat, AV.flat1, backR, backV, backCell, mapO, AV.cells, AV.atom, AV.tree, fillV, repeatL, treeCell, freezeAll, eqCells, callV_T, callV_F, passN, passV, passCell, srcCells, sliceBounds, hiB, loB, thenQ_nA, thenQ_xA, thenQ_rA, runK_nA, runK_xA, runK_rA, wrap_i64, wrap_u64, wrap_u32, wrap_u8, wrap_u16, XA_round, normA, lkE, fixObjs, fixBody, fixV, fixCell, goN_someA, w1, w2, c1, c2, hg, lA, lB, tA, tB', q1, q2, q3, q4]
def Qy.withF (q : Qy) (F : List Fx) : Qy := { q with F := F }
theorem flatF_set (G : List Fx) (i : Nat) (h : i < G.length) : List.take (i * 3 + 2) (flatF G) ++ rI G[i].ms :: List.drop (i * 3 + 3) (flatF G) = flatF G := by
  have h1 := dropF' G i h
  have h2 : List.drop (i * 3 + 2) (flatF G) = rI G[i].ms :: List.drop (i * 3 + 3) (flatF G) := by
    have h3 : List.drop (i * 3 + 3) (flatF G) = flatF (G.drop (i + 1)) := by
      rw [show i * 3 + 3 = (i + 1) * 3 from by omega, flatF_drop]
    rw [h3, ← List.drop_drop, h1]
    rfl
  rw [← h2, List.take_append_drop]
theorem cloneI_cf (l : List Int) (hl : l.length ≤ 1000000000) : cfT tab 71 [rI l] [] = some (.own 0 2 0 l.length 1, [⟨2, .row true 1 (l.map (.int .i64))⟩]) := by
  refine cfT_ext rfl ?_
  simp only [tab, rI]
  rw [orX_ro, cloneY_ro]
  unfold cloneX
  simp [cloneIds, List.lookup]
  omega
theorem own_ev (q : Qy) (M : List Fx) (hF : q.F.length ≤ 500) (hM : M.length ≤ 500) (hms : ∀ f ∈ q.F ++ M, f.ms.length ≤ 1000000000) :
    cvT tab 50 [.agg (qyC q), .ro M.length (flatF M)] = some (.agg (qyC (q.withF (q.F ++ M)))) := by
  refine cvTA_R (mf := Mf.f50) rfl rfl (by kernel_rfl) ?_
  simp only [Mf.f50]
  obtain ⟨a, b, c, e, F, t, me, fn, li⟩ := q
  simp only [qyC, Qy.withF] at hF hms ⊢
  have e1 := concat_ev F M (by omega) (by omega)
  have hl := flatF_len (F ++ M)
  have hap := flatF_append F M
  rw [← hap, ← List.length_append] at e1
  have htr := flatF_tree (F ++ M)
  have hgl : (F ++ M).length ≤ 1000 := by rw [List.length_append]; omega
  clear hap
  generalize F ++ M = G at *
  simp [beqI, bneI, mm_min2, mm_max2, mm_min3, mm_max3, startE, lkE, lkX, lkE_rest, sx, substE, opVA, objs0, List.replicate, XA_seq, XA_region, XOA_go, goE_someA, opV, ev, putA, layAll, XOA_nil, XA_skip_seq, XA_skip_nil, XOA_gd, goG_tA, goG_uA, binV, bi_add, bi_sub, bi_mul, bi_quo, bi_rem, bi_eql, bi_neq, bi_lss, bi_leq, bi_gtr, bi_geq, bi_shl, bi_shr, bi_and, bi_or, bi_xor, unV, XA_ret_nil, XA_ret_cons, endFA_r, endFA_n, endTA_r, endTA_n, endRA_r, endRA_n, fltR, resultsA, resAs, resA, XA_block, XA_cond, pickX_t, pickX_f, pickX_b, XA_skip_blk, XA_skip_lp, XA_exit_seq, XA_exit_lp, XA_exit_blk, XA_exit_nil, load1, Ev.loadCells, objCells, bodyCells, setCells, AV.flat, AV.flat1, backR, backV, backCell, mapO, AV.cells, AV.atom, AV.tree, fillV, repeatL, treeCell, freezeAll, eqCells, callV_T, callV_F, passN, passV, passCell, srcCells, sliceBounds, hiB, loB, thenQ_nA, thenQ_xA, thenQ_rA, runK_nA, runK_xA, runK_rA, wrap_i64, wrap_u64, wrap_u32, wrap_u8, wrap_u16, callV_O, okIds, passObjs, passBody, backObjs, backBody, adopts, List.idxOf?, List.findIdx?, List.findIdx?.go, callV_A, e1]
  refine XA_for (fun i => ⟨[(2, .ptr 0 0 0), (4, .ptr 1 0 0), (14, .own 2 0 0 G.length 3), (15, .int .i64 G.length), (16, .int .i64 i)], [⟨0, .var [.int .u8 a, .int .u8 b, .int .u8 c, .int .u8 e, .own 2 0 0 G.length 3, .int .i64 t, .int .i64 me, .int .i64 fn, .int .i64 li]⟩, ⟨0, .var [.int .u8 0, .int .u8 0, .int .u8 0, .int .u8 0, .nilsl, .int .i64 0, .int .i64 0, .int .i64 0, .int .i64 0]⟩, ⟨0, .row true 3 (flatF G)⟩, ⟨0, .none⟩, ⟨0, .none⟩]⟩)
    (fun _ => True) G.length 0 (Nat.zero_le _) (by simp [AV.atom, normA, lkE, fixObjs, fixBody, fixV, fixCell]) trivial ?_ ?_
  · intro i _ hi _
    have hi' : (i : Int) < G.length := by omega
    have hdr := dropF' G i hi
    have hws := wrap_succ i G.length hi (by omega)
    have hset := flatF_set G i hi
    have hc := cloneI_cf _ (hms _ (List.getElem_mem hi))
    have hin : i * 3 + 3 ≤ G.length * 3 := by omega
    have hin2 : i * 3 + 2 + 1 ≤ G.length * 3 := by omega
    generalize G[i] = f at *
    generalize flatF G = cs at *
    generalize G.length = n at *
    simp only [rI] at hdr hset hc
    simp [beqI, bneI, mm_min2, mm_max2, mm_min3, mm_max3, startE, lkE, lkX, lkE_rest, sx, substE, opVA, objs0, List.replicate, XA_seq, XA_region, XOA_go, goE_someA, opV, ev, putA, layAll, XOA_nil, XA_skip_seq, XA_skip_nil, XOA_gd, goG_tA, goG_uA, binV, bi_add, bi_sub, bi_mul, bi_quo, bi_rem, bi_eql, bi_neq, bi_lss, bi_leq, bi_gtr, bi_geq, bi_shl, bi_shr, bi_and, bi_or, bi_xor, unV, XA_ret_nil, XA_ret_cons, endFA_r, endFA_n, endTA_r, endTA_n, endRA_r, endRA_n, fltR, resultsA, resAs, resA, XA_block, XA_cond, pickX_t, pickX_f, pickX_b, XA_skip_blk, XA_skip_lp, XA_exit_seq, XA_exit_lp, XA_exit_blk, XA_exit_nil, load1, Ev.loadCells, objCells, bodyCells, setCells, AV.flat, AV.flat1, backR, backV, backCell, mapO, AV.cells, AV.atom, AV.tree, fillV, repeatL, treeCell, freezeAll, eqCells, callV_T, callV_F, passN, passV, passCell, srcCells, sliceBounds, hiB, loB, thenQ_nA, thenQ_xA, thenQ_rA, runK_nA, runK_xA, runK_rA, wrap_i64, wrap_u64, wrap_u32, wrap_u8, wrap_u16, callV_O, okIds, passObjs, passBody, backObjs, backBody, adopts, List.idxOf?, List.findIdx?, List.findIdx?.go, callV_A, AV.atom, normA, lkE, fixObjs, fixBody, fixV, fixCell, hi', hi, hdr, hc, hws, hset, hl, hin, hin2]
    rw [show List.take f.ms.length (f.ms.map (AV.int .i64)) = f.ms.map (AV.int .i64) from List.take_of_length_le (by simp)]
    exact hset
  · intro _
    have ht : List.take (G.length * 3) (flatF G) = flatF G := List.take_of_length_le (by omega)
    simp [beqI, bneI, mm_min2, mm_max2, mm_min3, mm_max3, startE, lkE, lkX, lkE_rest, sx, substE, opVA, objs0, List.replicate, XA_seq, XA_region, XOA_go, goE_someA, opV, ev, putA, layAll, XOA_nil, XA_skip_seq, XA_skip_nil, XOA_gd, goG_tA, goG_uA, binV, bi_add, bi_sub, bi_mul, bi_quo, bi_rem, bi_eql, bi_neq, bi_lss, bi_leq, bi_gtr, bi_geq, bi_shl, bi_shr, bi_and, bi_or, bi_xor, unV, XA_ret_nil, XA_ret_cons, endFA_r, endFA_n, endTA_r, endTA_n, endRA_r, endRA_n, fltR, resultsA, resAs, resA, XA_block, XA_cond, pickX_t, pickX_f, pickX_b, XA_skip_blk, XA_skip_lp, XA_exit_seq, XA_exit_lp, XA_exit_blk, XA_exit_nil, load1, Ev.loadCells, objCells, bodyCells, setCells, AV.flat, AV.flat1, backR, backV, backCell, mapO, AV.cells, AV.atom, AV.tree, fillV, repeatL, treeCell, freezeAll, eqCells, callV_T, callV_F, passN, passV, passCell, srcCells, sliceBounds, hiB, loB, thenQ_nA, thenQ_xA, thenQ_rA, runK_nA, runK_xA, runK_rA, wrap_i64, wrap_u64, wrap_u32, wrap_u8, wrap_u16, AV.atom, normA, lkE, fixObjs, fixBody, fixV, fixCell, hl, ht]
end Go.Proofs.Ytambpbcdnhekbaa
