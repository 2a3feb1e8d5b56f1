/- The base: a row many times. -/
import Derived.Test.YtpohmfihpnineaaBaD
set_option linter.unusedSimpArgs false
set_option linter.unusedVariables false
set_option maxHeartbeats 16000000
set_option maxRecDepth 100000
namespace Go.Proofs.Ytpohmfihpnineaa
open Go.Ev
theorem bin_and32_u64 (a : Int) (h0 : 0 ≤ a) (h1 : a ≤ 18446744073709551615) : bAnd .u64 a 4294967295 = a % 4294967296 := by
  unfold bAnd
  obtain ⟨n, rfl⟩ := nat_of h0
  have := and_nat 64 n 4294967295 (by simp; omega) (by decide)
  rw [show (4294967295 : Nat) = 2 ^ 32 - 1 from rfl, and_low] at this
  have e : (BitVec.ofInt IntKind.u64.bits (n : Int) &&& BitVec.ofInt IntKind.u64.bits 4294967295).toNat = n % 2 ^ 32 := this
  rw [e, wrap_u64 (by omega) (by simp; omega)]
  simp
theorem mul64_ev (n : Int) (h0 : 0 ≤ n) (h1 : n ≤ 1000000) : cvF tab 97 [.int .u64 1, .int .u64 n] = some (.tup [.int .u64 0, .int .u64 n]) := by
  refine cvFA_R (mf := Mf.f97) rfl rfl (by kernel_rfl) ?_
  simp only [Mf.f97]
  have a1 := bin_and32_u64 1 (by omega) (by omega)
  have a2 := bin_and32_u64 n (by omega) (by omega)
  have a3 := bin_and32_u64 0 (by omega) (by omega)
  rw [show (1 : Int) % 4294967296 = 1 from rfl] at a1
  rw [show (0 : Int) % 4294967296 = 0 from rfl] at a3
  rw [Int.emod_eq_of_lt h0 (by omega)] at a2
  have f1 : n.fdiv 4294967296 = 0 := by rw [Int.fdiv_eq_ediv_of_nonneg _ (by omega)]; exact Int.ediv_eq_zero_of_lt h0 (by omega)
  have w1 : IntKind.u64.wrap n = n := wrap_u64 (by omega) (by omega)
  have w0 : IntKind.u64.wrap 0 = 0 := rfl
  have f0 : (1 : Int).fdiv 4294967296 = 0 := by decide
  have f2 : (0 : Int).fdiv 4294967296 = 0 := by decide
  simp [beqI, bneI, mm_min2, mm_max2, mm_min3, mm_max3, startE, lkE, lkX, lkE_rest, sx, substE, opVA, objs0, List.replicate, XA_seq, XA_region, XOA_go, goE_someA, opV, ev, putA, layAll, XOA_nil, XA_skip_seq, XA_skip_nil, XOA_gd, goG_tA, goG_uA, binV, bi_add, bi_sub, bi_mul, bi_quo, bi_rem, bi_eql, bi_neq, bi_lss, bi_leq, bi_gtr, bi_geq, bi_shl, bi_shr, bi_and, bi_or, bi_xor, unV, XA_ret_nil, XA_ret_cons, endFA_r, endFA_n, endTA_r, endTA_n, endRA_r, endRA_n, endEA_r, endEA_n, List.take, fltR, resultsA, resAs, resA, XA_block, XA_cond, pickX_t, pickX_f, pickX_b, XA_skip_blk, XA_skip_lp, XA_exit_seq, XA_exit_lp, XA_exit_blk, XA_exit_nil, load1, Ev.loadCells, objCells, bodyCells, setCells, AV.flat, AV.flat1, backR, backV, backCell, mapO, AV.cells, AV.atom, AV.tree, fillV, repeatL, treeCell, freezeAll, eqCells, callV_T, callV_F, passN, passV, passCell, srcCells, sliceBounds, hiB, loB, thenQ_nA, thenQ_xA, thenQ_rA, runK_nA, runK_xA, runK_rA, wrap_i64, wrap_u64, wrap_u32, wrap_u8, wrap_u16, IntKind.bits, a1, a2, a3, f0, f1, f2, w1, w0]
theorem mul_ev (n : Int) (h0 : 0 ≤ n) (h1 : n ≤ 1000000) : cvF tab 76 [.int .u64 1, .int .u64 n] = some (.tup [.int .u64 0, .int .u64 n]) := by
  refine cvFA_R (mf := Mf.f76) rfl rfl (by kernel_rfl) ?_
  simp only [Mf.f76]
  have e := mul64_ev n h0 h1
  simp [beqI, bneI, mm_min2, mm_max2, mm_min3, mm_max3, startE, lkE, lkX, lkE_rest, sx, substE, opVA, objs0, List.replicate, XA_seq, XA_region, XOA_go, goE_someA, opV, ev, putA, layAll, XOA_nil, XA_skip_seq, XA_skip_nil, XOA_gd, goG_tA, goG_uA, binV, bi_add, bi_sub, bi_mul, bi_quo, bi_rem, bi_eql, bi_neq, bi_lss, bi_leq, bi_gtr, bi_geq, bi_shl, bi_shr, bi_and, bi_or, bi_xor, unV, XA_ret_nil, XA_ret_cons, endFA_r, endFA_n, endTA_r, endTA_n, endRA_r, endRA_n, endEA_r, endEA_n, List.take, fltR, resultsA, resAs, resA, XA_block, XA_cond, pickX_t, pickX_f, pickX_b, XA_skip_blk, XA_skip_lp, XA_exit_seq, XA_exit_lp, XA_exit_blk, XA_exit_nil, load1, Ev.loadCells, objCells, bodyCells, setCells, AV.flat, AV.flat1, backR, backV, backCell, mapO, AV.cells, AV.atom, AV.tree, fillV, repeatL, treeCell, freezeAll, eqCells, callV_T, callV_F, passN, passV, passCell, srcCells, sliceBounds, hiB, loB, thenQ_nA, thenQ_xA, thenQ_rA, runK_nA, runK_xA, runK_rA, wrap_i64, wrap_u64, wrap_u32, wrap_u8, wrap_u16, e]
def rw0 : Rw := ⟨0, 0, 0, 0, 0, 0⟩
def repA (r : Rw) (n m : Nat) : List Rw := List.replicate m r ++ List.replicate (n - m) rw0
theorem repA_len (r : Rw) (n m : Nat) (h : m ≤ n) : (repA r n m).length = n := by simp [repA]; omega
theorem rep_zero (n : Nat) : (List.replicate n [AV.int .u8 0, .int .u8 0, .int .u8 0, .int .u8 0, .int .i64 0, .int .i64 0]).flatten = flatW (List.replicate n rw0) := by
  induction n with
  | zero => rfl
  | succ n ih => simp only [List.replicate_succ, List.flatten_cons, flatW, List.flatMap_cons] at ih ⊢; rw [ih]; rfl
theorem set_rep (r : Rw) (n m k : Nat) (h : m + k ≤ n) : setCells (flatW (repA r n m)) (m * 6) (flatW (List.replicate k r)) = flatW (repA r n (m + k)) := by
  unfold setCells
  rw [flatW_len, List.length_replicate, ← Nat.add_mul, flatW_take, flatW_drop, ← flatW_append, ← flatW_append]
  congr 1
  unfold repA
  have e1 : (List.replicate m r ++ List.replicate (n - m) rw0).take m = List.replicate m r := by
    rw [List.take_append_of_le_length (by simp)]; simp
  have e2 : (List.replicate m r ++ List.replicate (n - m) rw0).drop (m + k) = List.replicate (n - (m + k)) rw0 := by
    rw [List.drop_append]
    simp
    omega
  rw [e1, e2]
  simp
theorem repeat_ev (r : Rw) (n : Nat) (h1 : 1 ≤ n) (h2 : n ≤ 1000000) : cvT tab 52 [.ro 1 (rowC r), .int .i64 n] = some (rW (List.replicate n r)) := by
  refine cvTA_R (mf := Mf.f52) rfl rfl (by kernel_rfl) ?_
  simp only [Mf.f52]
  have e1 := mul_ev n (by omega) (by omega)
  have c1 : ¬ (n : Int) < 0 := by omega
  have w1 : IntKind.u64.wrap (n : Int) = n := wrap_u64 (by omega) (by omega)
  have w2 : IntKind.i64.wrap (n : Int) = n := wrap_i64 (by omega) (by omega)
  have c2 : ¬ (9223372036854775807 : Int) < n := by omega
  have g1 : n * 24 ≤ 140737488355328 := by omega
  have g2 : n < 4611686018427387904 := by omega
  have g3 : (n : Int) * 24 ≤ 140737488355328 := by omega
  have g4 : (n : Int) < 4611686018427387904 := by omega
  have hz := rep_zero n
  have s0 := set_rep r n 0 1 (by omega)
  have z0 : repA r n 0 = List.replicate n rw0 := by simp [repA]
  rw [z0] at s0
  simp only [Nat.zero_mul, List.replicate_one, flatW, List.flatMap_cons, List.flatMap_nil, List.append_nil, Nat.zero_add] at s0
  have hl0 : (flatW (List.replicate n rw0)).length = n * 6 := by rw [flatW_len, List.length_replicate]
  have c3 : ((min 1 n : Nat) : Int) = 1 := by rw [Nat.min_eq_left h1]; rfl
  have c4 : min 1 n = 1 := Nat.min_eq_left h1
  have c5 : 6 ≤ n * 6 := by omega
  have fin : rW (List.replicate n r) = .ro n (flatW (repA r n n)) := by simp [rW, repA]
  rw [fin]
  simp only [rowC, setCells] at *
  simp [beqI, bneI, mm_min2, mm_max2, mm_min3, mm_max3, startE, lkE, lkX, lkE_rest, sx, substE, opVA, objs0, List.replicate, XA_seq, XA_region, XOA_go, goE_someA, opV, ev, putA, layAll, XOA_nil, XA_skip_seq, XA_skip_nil, XOA_gd, goG_tA, goG_uA, binV, bi_add, bi_sub, bi_mul, bi_quo, bi_rem, bi_eql, bi_neq, bi_lss, bi_leq, bi_gtr, bi_geq, bi_shl, bi_shr, bi_and, bi_or, bi_xor, unV, XA_ret_nil, XA_ret_cons, endFA_r, endFA_n, endTA_r, endTA_n, endRA_r, endRA_n, endEA_r, endEA_n, List.take, fltR, resultsA, resAs, resA, XA_block, XA_cond, pickX_t, pickX_f, pickX_b, XA_skip_blk, XA_skip_lp, XA_exit_seq, XA_exit_lp, XA_exit_blk, XA_exit_nil, load1, Ev.loadCells, objCells, bodyCells, setCells, AV.flat, AV.flat1, backR, backV, backCell, mapO, AV.cells, AV.atom, AV.tree, fillV, repeatL, treeCell, freezeAll, eqCells, callV_T, callV_F, passN, passV, passCell, srcCells, sliceBounds, hiB, loB, thenQ_nA, thenQ_xA, thenQ_rA, runK_nA, runK_xA, runK_rA, wrap_i64, wrap_u64, wrap_u32, wrap_u8, wrap_u16, callV_O, okIds, passObjs, passBody, backObjs, backBody, adopts, List.idxOf?, List.findIdx?, List.findIdx?.go, isNilP, mapLook, mapGet, keyGet, adopts, List.lookup, e1, c1, c2, w1, w2, g1, g2, g3, g4, hz, s0, hl0, c3, c4, c5]
  refine XA_loop (fun m : Nat => ⟨[(7, .own 0 0 0 n 6), (8, .int .i64 m)], [⟨0, .row true 6 (flatW (repA r n m))⟩]⟩) (fun m => 1 ≤ m ∧ m ≤ n) (fun m => n - m) 1
    (by simp [AV.atom, normA, lkE, fixObjs, fixBody, fixV, fixCell]; exact s0) ⟨by omega, h1⟩ ?_
  rintro m ⟨hm1, hm2⟩
  have hl : (flatW (repA r n m)).length = n * 6 := by rw [flatW_len, repA_len r n m hm2]
  by_cases c : m < n
  · have c' : (m : Int) < n := by omega
    have ht : List.take (m * 6) (flatW (repA r n m)) = flatW (List.replicate m r) := by
      rw [flatW_take]
      congr 1
      unfold repA
      rw [List.take_append_of_le_length (by simp)]
      simp
    have htr := flatW_tree (List.replicate m r)
    have hlr : (flatW (List.replicate m r)).length = m * 6 := by rw [flatW_len, List.length_replicate]
    have q1 : m * 6 ≤ n * 6 := by omega
    have q2 : m * 6 + (n - m) * 6 = n * 6 := by omega
    have q3 : ¬ m = n := by omega
    have q4 : ¬ m = 0 := by omega
    have q5 : ¬ 0 = m := by omega
    obtain ⟨k, hk⟩ : ∃ k, min m (n - m) = k := ⟨_, rfl⟩
    have hk1 : 1 ≤ k := by omega
    have hk2 : m + k ≤ n := by omega
    have hk3 : k ≤ m := by omega
    have hst := set_rep r n m k hk2
    have htk : List.take (k * 6) (flatW (List.replicate m r)) = flatW (List.replicate k r) := by
      rw [flatW_take]; congr 1; simp; omega
    have hlk : (flatW (List.replicate k r)).length = k * 6 := by rw [flatW_len, List.length_replicate]
    have w3 : IntKind.i64.wrap ((m : Int) + (k : Int)) = ((m + k : Nat) : Int) := by rw [wrap_i64 (by omega) (by omega)]; omega
    simp only [setCells, hlk] at hst
    have hmin : ((min m (n - m) : Nat) : Int) = k := by rw [hk]
    simp [beqI, bneI, mm_min2, mm_max2, mm_min3, mm_max3, startE, lkE, lkX, lkE_rest, sx, substE, opVA, objs0, List.replicate, XA_seq, XA_region, XOA_go, goE_someA, opV, ev, putA, layAll, XOA_nil, XA_skip_seq, XA_skip_nil, XOA_gd, goG_tA, goG_uA, binV, bi_add, bi_sub, bi_mul, bi_quo, bi_rem, bi_eql, bi_neq, bi_lss, bi_leq, bi_gtr, bi_geq, bi_shl, bi_shr, bi_and, bi_or, bi_xor, unV, XA_ret_nil, XA_ret_cons, endFA_r, endFA_n, endTA_r, endTA_n, endRA_r, endRA_n, endEA_r, endEA_n, List.take, fltR, resultsA, resAs, resA, XA_block, XA_cond, pickX_t, pickX_f, pickX_b, XA_skip_blk, XA_skip_lp, XA_exit_seq, XA_exit_lp, XA_exit_blk, XA_exit_nil, load1, Ev.loadCells, objCells, bodyCells, setCells, AV.flat, AV.flat1, backR, backV, backCell, mapO, AV.cells, AV.atom, AV.tree, fillV, repeatL, treeCell, freezeAll, eqCells, callV_T, callV_F, passN, passV, passCell, srcCells, sliceBounds, hiB, loB, thenQ_nA, thenQ_xA, thenQ_rA, runK_nA, runK_xA, runK_rA, wrap_i64, wrap_u64, wrap_u32, wrap_u8, wrap_u16, callV_O, okIds, passObjs, passBody, backObjs, backBody, adopts, List.idxOf?, List.findIdx?, List.findIdx?.go, isNilP, mapLook, mapGet, keyGet, adopts, List.lookup, AV.atom, normA, lkE, fixObjs, fixBody, fixV, fixCell, c', hl, ht, htr, hlr, q1, q2, q3, q4, hk, htk, hst, w3, hlk, c, hm2, q5]
    rw [ht, List.append_assoc] at hst
    exact ⟨m + k, ⟨by omega, hst⟩, ⟨by omega, hk2⟩, by omega⟩
  · have hmn : m = n := by omega
    subst hmn
    simp [beqI, bneI, mm_min2, mm_max2, mm_min3, mm_max3, startE, lkE, lkX, lkE_rest, sx, substE, opVA, objs0, List.replicate, XA_seq, XA_region, XOA_go, goE_someA, opV, ev, putA, layAll, XOA_nil, XA_skip_seq, XA_skip_nil, XOA_gd, goG_tA, goG_uA, binV, bi_add, bi_sub, bi_mul, bi_quo, bi_rem, bi_eql, bi_neq, bi_lss, bi_leq, bi_gtr, bi_geq, bi_shl, bi_shr, bi_and, bi_or, bi_xor, unV, XA_ret_nil, XA_ret_cons, endFA_r, endFA_n, endTA_r, endTA_n, endRA_r, endRA_n, endEA_r, endEA_n, List.take, fltR, resultsA, resAs, resA, XA_block, XA_cond, pickX_t, pickX_f, pickX_b, XA_skip_blk, XA_skip_lp, XA_exit_seq, XA_exit_lp, XA_exit_blk, XA_exit_nil, load1, Ev.loadCells, objCells, bodyCells, setCells, AV.flat, AV.flat1, backR, backV, backCell, mapO, AV.cells, AV.atom, AV.tree, fillV, repeatL, treeCell, freezeAll, eqCells, callV_T, callV_F, passN, passV, passCell, srcCells, sliceBounds, hiB, loB, thenQ_nA, thenQ_xA, thenQ_rA, runK_nA, runK_xA, runK_rA, wrap_i64, wrap_u64, wrap_u32, wrap_u8, wrap_u16, callV_O, okIds, passObjs, passBody, backObjs, backBody, adopts, List.idxOf?, List.findIdx?, List.findIdx?.go, isNilP, mapLook, mapGet, keyGet, adopts, List.lookup, AV.atom, normA, lkE, fixObjs, fixBody, fixV, fixCell, hl]
    exact List.take_of_length_le (by omega)
end Go.Proofs.Ytpohmfihpnineaa
