/- Numbers as bytes. -/
import Derived.Test.YtmnafjgkhhdidaaCodeA
set_option linter.unusedSimpArgs false
set_option linter.unusedVariables false
set_option maxHeartbeats 4000000
set_option maxRecDepth 100000
namespace Go.Proofs.Ytmnafjgkhhdidaa
open Go.Ev
/-- A row of bytes. -/
def rB (l : List Int) : AV := .ro l.length (l.map (.int .u8))
theorem idxB (l : List Int) (i : Nat) (h : i < l.length) : (List.drop i (l.map (AV.int .u8)))[0]? = some (.int .u8 (l[i])) := by
  simp [h]
def digN (u : Nat) : List Int := if u < 128 then [(u : Int)] else ((u % 128 + 128 : Nat) : Int) :: digN (u / 128)
  termination_by u
  decreasing_by omega
theorem digN_low {u : Nat} (h : u < 128) : digN u = [(u : Int)] := by
  rw [digN, if_pos h]
theorem digN_high {u : Nat} (h : ¬ u < 128) : digN u = ((u % 128 + 128 : Nat) : Int) :: digN (u / 128) := by
  rw [digN, if_neg h]
theorem digN_len : ∀ (n u : Nat), u < 128 ^ (n + 1) → (digN u).length ≤ n + 1
  | 0, u, h => by rw [digN_low (by simpa using h)]; simp
  | n + 1, u, h => by
    by_cases c : u < 128
    · rw [digN_low c]; simp
    · rw [digN_high c, List.length_cons]
      have := digN_len n (u / 128) (by rw [Nat.div_lt_iff_lt_mul (by omega), ← Nat.pow_succ]; exact h)
      omega
theorem digN_ten {u : Nat} (h : u < 18446744073709551616) : (digN u).length ≤ 10 := digN_len 9 u (by simp; omega)
theorem digN_pos (u : Nat) : 0 < (digN u).length := by
  by_cases c : u < 128
  · rw [digN_low c]; simp
  · rw [digN_high c]; simp
theorem put_ev (b : List Int) (u : Nat) (hb : b.length ≤ 100000000) (hu : u < 18446744073709551616) : cvT tab 67 [rB b, .int .u64 u] = some (rB (b ++ digN u)) := by
  refine cvTA_R (mf := Mf.f67) rfl rfl (by kernel_rfl) ?_
  simp only [Mf.f67]
  have hcl := callV_clone (M := tab) (H := [⟨0, .none⟩]) (f := 76) (a := .ro b.length (b.map (.int .u8))) (fzs := []) (t := 0) (bytes := 1) (sz := 1) (n := b.length) (cs := b.map (.int .u8)) ⟨0, .none⟩ [] rfl
    (fun n cs h1 h2 h3 => by
      simp only [tab]
      unfold cloneX
      simp [cloneIds, List.lookup]
      simp at h1 h2
      exact ⟨h1, h2, h3⟩) rfl (by simp) (by omega) (by omega) rfl rfl (by decide)
  have hlen0 := digN_ten hu
  simp [beqI, bneI, mm_min2, mm_max2, mm_min3, mm_max3, startE, lkE, lkX, lkE_rest, sx, substE, opVA, objs0, List.replicate, XA_seq, XA_region, XOA_go, goE_someA, opV, ev, putA, layAll, XOA_nil, XA_skip_seq, XA_skip_nil, XOA_gd, goG_tA, goG_uA, binV, bi_add, bi_sub, bi_mul, bi_quo, bi_rem, bi_eql, bi_neq, bi_lss, bi_leq, bi_gtr, bi_geq, bi_shl, bi_shr, bi_and, bi_or, bi_xor, unV, XA_ret_nil, XA_ret_cons, endFA_r, endFA_n, endTA_r, endTA_n, endRA_r, endRA_n, endEA_r, endEA_n, List.take, fltR, resultsA, resAs, resA, XA_block, XA_cond, pickX_t, pickX_f, pickX_b, XA_skip_blk, XA_skip_lp, XA_exit_seq, XA_exit_lp, XA_exit_blk, XA_exit_nil, load1, Ev.loadCells, objCells, bodyCells, setCells, AV.flat, AV.flat1, backR, backV, backCell, mapO, AV.cells, AV.atom, AV.tree, fillV, repeatL, treeCell, freezeAll, eqCells, callV_T, callV_F, passN, passV, passCell, srcCells, sliceBounds, hiB, loB, thenQ_nA, thenQ_xA, thenQ_rA, runK_nA, runK_xA, runK_rA, wrap_i64, wrap_u64, wrap_u32, wrap_u8, wrap_u16, rB, hcl]
  refine XA_loop (α := List Int × Nat) (fun x => ⟨[(1, .int .u64 x.2), (5, .own 0 0 0 x.1.length 1)], [⟨0, .row true 1 (x.1.map (.int .u8))⟩]⟩)
    (fun x => x.1 ++ digN x.2 = b ++ digN u ∧ x.2 < 18446744073709551616) (fun x => x.2) (b, u) (by simp [AV.atom, normA, lkE, fixObjs, fixBody, fixV, fixCell]) ⟨rfl, hu⟩ ?_
  rintro ⟨dn, v⟩ ⟨hJ, hv⟩
  simp only at hJ hv
  have hlen : dn.length + (digN v).length = b.length + (digN u).length := by
    have := congrArg List.length hJ
    simpa using this
  have q1 : dn.length + 1 ≤ 140737488355328 := by omega
  have q2 : dn.length + 1 < 4611686018427387904 := by omega
  by_cases c : v < 128
  · have c' : ¬ (128 : Int) ≤ (v : Int) := by omega
    have w : (v : Int) % 256 = v := by omega
    rw [digN_low c] at hJ
    have f1 := congrArg List.length hJ
    have f2 := congrArg (List.map (AV.int .u8)) hJ
    simp at f1 f2
    simp [beqI, bneI, mm_min2, mm_max2, mm_min3, mm_max3, startE, lkE, lkX, lkE_rest, sx, substE, opVA, objs0, List.replicate, XA_seq, XA_region, XOA_go, goE_someA, opV, ev, putA, layAll, XOA_nil, XA_skip_seq, XA_skip_nil, XOA_gd, goG_tA, goG_uA, binV, bi_add, bi_sub, bi_mul, bi_quo, bi_rem, bi_eql, bi_neq, bi_lss, bi_leq, bi_gtr, bi_geq, bi_shl, bi_shr, bi_and, bi_or, bi_xor, unV, XA_ret_nil, XA_ret_cons, endFA_r, endFA_n, endTA_r, endTA_n, endRA_r, endRA_n, endEA_r, endEA_n, List.take, fltR, resultsA, resAs, resA, XA_block, XA_cond, pickX_t, pickX_f, pickX_b, XA_skip_blk, XA_skip_lp, XA_exit_seq, XA_exit_lp, XA_exit_blk, XA_exit_nil, load1, Ev.loadCells, objCells, bodyCells, setCells, AV.flat, AV.flat1, backR, backV, backCell, mapO, AV.cells, AV.atom, AV.tree, fillV, repeatL, treeCell, freezeAll, eqCells, callV_T, callV_F, passN, passV, passCell, srcCells, sliceBounds, hiB, loB, thenQ_nA, thenQ_xA, thenQ_rA, runK_nA, runK_xA, runK_rA, wrap_i64, wrap_u64, wrap_u32, wrap_u8, wrap_u16, AV.atom, normA, lkE, fixObjs, fixBody, fixV, fixCell, c', wrap8, w, q1, q2, List.take_of_length_le]
    exact ⟨f1, f2⟩
  · have c' : (128 : Int) ≤ (v : Int) := by omega
    have o := bin_or_u8 ((v : Int) % 256) (by omega) (by omega)
    have o2 : (v : Int) % 256 % 128 + 128 = ((v % 128 + 128 : Nat) : Int) := by omega
    rw [o2] at o
    have s : (v : Int).fdiv 128 = ((v / 128 : Nat) : Int) := by
      have := fdiv_eq (v : Int) 128
      rw [show ((128 : Nat) : Int) = 128 from rfl] at this
      rw [this]; omega
    rw [digN_high c] at hJ
    simp [beqI, bneI, mm_min2, mm_max2, mm_min3, mm_max3, startE, lkE, lkX, lkE_rest, sx, substE, opVA, objs0, List.replicate, XA_seq, XA_region, XOA_go, goE_someA, opV, ev, putA, layAll, XOA_nil, XA_skip_seq, XA_skip_nil, XOA_gd, goG_tA, goG_uA, binV, bi_add, bi_sub, bi_mul, bi_quo, bi_rem, bi_eql, bi_neq, bi_lss, bi_leq, bi_gtr, bi_geq, bi_shl, bi_shr, bi_and, bi_or, bi_xor, unV, XA_ret_nil, XA_ret_cons, endFA_r, endFA_n, endTA_r, endTA_n, endRA_r, endRA_n, endEA_r, endEA_n, List.take, fltR, resultsA, resAs, resA, XA_block, XA_cond, pickX_t, pickX_f, pickX_b, XA_skip_blk, XA_skip_lp, XA_exit_seq, XA_exit_lp, XA_exit_blk, XA_exit_nil, load1, Ev.loadCells, objCells, bodyCells, setCells, AV.flat, AV.flat1, backR, backV, backCell, mapO, AV.cells, AV.atom, AV.tree, fillV, repeatL, treeCell, freezeAll, eqCells, callV_T, callV_F, passN, passV, passCell, srcCells, sliceBounds, hiB, loB, thenQ_nA, thenQ_xA, thenQ_rA, runK_nA, runK_xA, runK_rA, wrap_i64, wrap_u64, wrap_u32, wrap_u8, wrap_u16, AV.atom, normA, lkE, fixObjs, fixBody, fixV, fixCell, c', wrap8, o, q1, q2, s, IntKind.bits]
    refine ⟨dn ++ [((v % 128 + 128 : Nat) : Int)], v / 128, ?_⟩
    simp
    refine ⟨⟨by simpa using hJ, by omega⟩, by omega⟩
end Go.Proofs.Ytmnafjgkhhdidaa
