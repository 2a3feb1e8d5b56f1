/- Queries are read: the program's fixes. -/
import Derived.Test.YtambpbcdnhekbaaQQ
set_option linter.unusedSimpArgs false
set_option linter.unusedVariables false
set_option maxHeartbeats 8000000
set_option maxRecDepth 100000
namespace Go.Proofs.Ytambpbcdnhekbaa
open Go.Ev
def nlOr (t sz n : Nat) : AV := if n = 0 then .nilsl else .own t 0 0 n sz
def nlObj (sz n : Nat) (cs : List AV) : AObj := if n = 0 then ⟨0, .none⟩ else ⟨0, .row true sz cs⟩
theorem nat_ofQ {x : Int} (h : 0 ≤ x) : ∃ n : Nat, x = n := ⟨x.toNat, (Int.toNat_of_nonneg h).symm⟩
theorem listP_inv (st : Bool → Bool) {s : RS} (hs : okS s) (n : Nat) : (listP st n s).1.length ≤ n ∧ okS (listP st n s).2 ∧ ∀ x ∈ (listP st n s).1, rng x := by
  refine rep_inv (s := ([], s)) (fun (n : Nat) (s : List Int × RS) => s.1.length ≤ n ∧ okS s.2 ∧ ∀ x ∈ s.1, rng x) ?_ ?_ ⟨Nat.le_refl _, hs, by simp⟩ n
  · rintro i s ⟨h1, h2, h3⟩
    refine ⟨by simp [listF]; omega, numQ_okS h2, fun x hx => ?_⟩
    simp only [listF, List.mem_append, List.mem_singleton] at hx
    rcases hx with hx | rfl
    · exact h3 x hx
    · exact numQ_rng h2
  · rintro i s _ ⟨h1, h2, h3⟩
    exact ⟨by omega, h2, h3⟩
theorem listS_succ (i : Nat) (s : RS) : listP stS (i + 1) s = listF (listP stS i s) := by
  unfold listP
  rw [rep_snoc]
  simp [stS]
theorem listS_len (n : Nat) (s : RS) : (listP stS n s).1.length = n := rep_len (f := listF) (fun s => by simp [listF]) ([], s) rfl n
theorem rd_fix (s : RS) (hs : okS s) : ∃ H, cfT tab 43 [.ptr 0 0 0] [vR s] =
      some (.agg [.int .i64 (fixP cnS stS s).1.d, .int .i64 (fixP cnS stS s).1.l, nlOr 3 1 (fixP cnS stS s).1.ms.length], vR (fixP cnS stS s).2 :: H) ∧ H[2]? = some (nlObj 1 (fixP cnS stS s).1.ms.length ((fixP cnS stS s).1.ms.map (.int .i64))) := by
  refine ⟨[⟨0, .var [.int .i64 (fixP cnS stS s).1.d, .int .i64 (fixP cnS stS s).1.l, nlOr 3 1 (fixP cnS stS s).1.ms.length]⟩, ⟨0, .var [.int .i64 (fixP cnS stS s).1.d, .int .i64 (fixP cnS stS s).1.l, nlOr 3 1 (fixP cnS stS s).1.ms.length]⟩, nlObj 1 (fixP cnS stS s).1.ms.length ((fixP cnS stS s).1.ms.map (.int .i64))], ?_, rfl⟩
  refine cfTA_R (mf := Mf.f43) rfl rfl (by kernel_rfl) ?_
  simp only [Mf.f43]
  have e1 := rd_num s hs
  have o1 := numQ_okS hs
  unfold fixP
  generalize numQ s = q at *
  obtain ⟨d, s1⟩ := q
  simp only at o1 e1 ⊢
  have e2 := rd_num s1 o1
  have o2 := numQ_okS o1
  generalize numQ s1 = q at *
  obtain ⟨l, s2⟩ := q
  simp only at o2 e2 ⊢
  have e3 := rd_count s2 o2
  have o3 := cnS_okS o2
  have h3 := cnS_le o2
  generalize cnS s2 = q at *
  obtain ⟨u, s3⟩ := q
  obtain ⟨n, rfl⟩ := nat_ofQ h3.1
  simp only [Int.toNat_natCast] at o3 e3 h3 ⊢
  simp only [vR] at e1 e2 e3
  have hln := listS_len n s3
  obtain ⟨Z, hZ⟩ : ∃ Z, listP stS n s3 = Z := ⟨_, rfl⟩
  rw [hZ] at hln ⊢
  rw [hln]
  simp [beqI, bneI, mm_min2, mm_max2, mm_min3, mm_max3, startE, lkE, lkX, lkE_rest, sx, substE, opVA, objs0, List.replicate, XA_seq, XA_region, XOA_go, goE_someA, opV, ev, putA, layAll, XOA_nil, XA_skip_seq, XA_skip_nil, XOA_gd, goG_tA, goG_uA, binV, bi_add, bi_sub, bi_mul, bi_quo, bi_rem, bi_eql, bi_neq, bi_lss, bi_leq, bi_gtr, bi_geq, bi_shl, bi_shr, bi_and, bi_or, bi_xor, unV, XA_ret_nil, XA_ret_cons, endFA_r, endFA_n, endTA_r, endTA_n, endRA_r, endRA_n, fltR, resultsA, resAs, resA, XA_block, XA_cond, pickX_t, pickX_f, pickX_b, XA_skip_blk, XA_skip_lp, XA_exit_seq, XA_exit_lp, XA_exit_blk, XA_exit_nil, load1, Ev.loadCells, objCells, bodyCells, setCells, AV.flat, AV.flat1, backR, backV, backCell, mapO, AV.cells, AV.atom, AV.tree, fillV, repeatL, treeCell, freezeAll, eqCells, callV_T, callV_F, passN, passV, passCell, srcCells, sliceBounds, hiB, loB, thenQ_nA, thenQ_xA, thenQ_rA, runK_nA, runK_xA, runK_rA, wrap_i64, wrap_u64, wrap_u32, wrap_u8, wrap_u16, callV_O, okIds, passObjs, passBody, backObjs, backBody, adopts, List.idxOf?, List.findIdx?, List.findIdx?.go, vR, e1, e2, e3]
  refine XA_for (fun i => ⟨[(0, .ptr 0 0 0), (2, .ptr 1 0 0), (3, .ptr 2 0 0), (10, .int .i64 n), (11, .int .i64 i)], [vR (listP stS i s3).2, ⟨0, .var [.int .i64 0, .int .i64 0, .nilsl]⟩, ⟨0, .var [.int .i64 d, .int .i64 l, nlOr 3 1 i]⟩, nlObj 1 i ((listP stS i s3).1.map (.int .i64))]⟩)
    (fun i => True) n 0 (Nat.zero_le _) (by simp [AV.atom, normA, lkE, fixObjs, fixBody, fixV, fixCell, vR, listP, rep, nlOr, nlObj]) trivial ?_ ?_
  · intro i _ hi _
    have hi' : (i : Int) < (n : Int) := by omega
    have hP := listP_inv stS o3 i
    have hl := listS_len i s3
    rw [listS_succ]
    generalize listP stS i s3 = p at *
    obtain ⟨L, s4⟩ := p
    simp only at hP hl
    simp only [listF]
    have e4 := rd_num s4 hP.2.1
    generalize numQ s4 = q4 at *
    obtain ⟨x, s5⟩ := q4
    simp only [vR] at e4
    have g1 : (i + 1) * 8 ≤ 140737488355328 := by omega
    have g2 : i + 1 < 4611686018427387904 := by omega
    have hw := wrap_succ i n hi (by omega)
    rcases Nat.eq_zero_or_pos i with h0 | h0
    · subst h0
      have hL : L = [] := List.length_eq_zero_iff.1 hl
      subst hL
      simp at hw
      have z1 : (0 : Int) < n := by omega
      have z2 : 0 < n := by omega
      simp [beqI, bneI, mm_min2, mm_max2, mm_min3, mm_max3, startE, lkE, lkX, lkE_rest, sx, substE, opVA, objs0, List.replicate, XA_seq, XA_region, XOA_go, goE_someA, opV, ev, putA, layAll, XOA_nil, XA_skip_seq, XA_skip_nil, XOA_gd, goG_tA, goG_uA, binV, bi_add, bi_sub, bi_mul, bi_quo, bi_rem, bi_eql, bi_neq, bi_lss, bi_leq, bi_gtr, bi_geq, bi_shl, bi_shr, bi_and, bi_or, bi_xor, unV, XA_ret_nil, XA_ret_cons, endFA_r, endFA_n, endTA_r, endTA_n, endRA_r, endRA_n, fltR, resultsA, resAs, resA, XA_block, XA_cond, pickX_t, pickX_f, pickX_b, XA_skip_blk, XA_skip_lp, XA_exit_seq, XA_exit_lp, XA_exit_blk, XA_exit_nil, load1, Ev.loadCells, objCells, bodyCells, setCells, AV.flat, AV.flat1, backR, backV, backCell, mapO, AV.cells, AV.atom, AV.tree, fillV, repeatL, treeCell, freezeAll, eqCells, callV_T, callV_F, passN, passV, passCell, srcCells, sliceBounds, hiB, loB, thenQ_nA, thenQ_xA, thenQ_rA, runK_nA, runK_xA, runK_rA, wrap_i64, wrap_u64, wrap_u32, wrap_u8, wrap_u16, callV_O, okIds, passObjs, passBody, backObjs, backBody, adopts, List.idxOf?, List.findIdx?, List.findIdx?.go, AV.atom, normA, lkE, fixObjs, fixBody, fixV, fixCell, vR, z1, z2, hw, hi', e4, nlOr, nlObj]
    · have h0' : ¬ i = 0 := by omega
      simp [beqI, bneI, mm_min2, mm_max2, mm_min3, mm_max3, startE, lkE, lkX, lkE_rest, sx, substE, opVA, objs0, List.replicate, XA_seq, XA_region, XOA_go, goE_someA, opV, ev, putA, layAll, XOA_nil, XA_skip_seq, XA_skip_nil, XOA_gd, goG_tA, goG_uA, binV, bi_add, bi_sub, bi_mul, bi_quo, bi_rem, bi_eql, bi_neq, bi_lss, bi_leq, bi_gtr, bi_geq, bi_shl, bi_shr, bi_and, bi_or, bi_xor, unV, XA_ret_nil, XA_ret_cons, endFA_r, endFA_n, endTA_r, endTA_n, endRA_r, endRA_n, fltR, resultsA, resAs, resA, XA_block, XA_cond, pickX_t, pickX_f, pickX_b, XA_skip_blk, XA_skip_lp, XA_exit_seq, XA_exit_lp, XA_exit_blk, XA_exit_nil, load1, Ev.loadCells, objCells, bodyCells, setCells, AV.flat, AV.flat1, backR, backV, backCell, mapO, AV.cells, AV.atom, AV.tree, fillV, repeatL, treeCell, freezeAll, eqCells, callV_T, callV_F, passN, passV, passCell, srcCells, sliceBounds, hiB, loB, thenQ_nA, thenQ_xA, thenQ_rA, runK_nA, runK_xA, runK_rA, wrap_i64, wrap_u64, wrap_u32, wrap_u8, wrap_u16, callV_O, okIds, passObjs, passBody, backObjs, backBody, adopts, List.idxOf?, List.findIdx?, List.findIdx?.go, AV.atom, normA, lkE, fixObjs, fixBody, fixV, fixCell, vR, hi', e4, nlOr, nlObj, h0', g1, g2, hl, hw]
  · intro _
    rw [hZ]
    by_cases h0 : n = 0
    · simp [beqI, bneI, mm_min2, mm_max2, mm_min3, mm_max3, startE, lkE, lkX, lkE_rest, sx, substE, opVA, objs0, List.replicate, XA_seq, XA_region, XOA_go, goE_someA, opV, ev, putA, layAll, XOA_nil, XA_skip_seq, XA_skip_nil, XOA_gd, goG_tA, goG_uA, binV, bi_add, bi_sub, bi_mul, bi_quo, bi_rem, bi_eql, bi_neq, bi_lss, bi_leq, bi_gtr, bi_geq, bi_shl, bi_shr, bi_and, bi_or, bi_xor, unV, XA_ret_nil, XA_ret_cons, endFA_r, endFA_n, endTA_r, endTA_n, endRA_r, endRA_n, fltR, resultsA, resAs, resA, XA_block, XA_cond, pickX_t, pickX_f, pickX_b, XA_skip_blk, XA_skip_lp, XA_exit_seq, XA_exit_lp, XA_exit_blk, XA_exit_nil, load1, Ev.loadCells, objCells, bodyCells, setCells, AV.flat, AV.flat1, backR, backV, backCell, mapO, AV.cells, AV.atom, AV.tree, fillV, repeatL, treeCell, freezeAll, eqCells, callV_T, callV_F, passN, passV, passCell, srcCells, sliceBounds, hiB, loB, thenQ_nA, thenQ_xA, thenQ_rA, runK_nA, runK_xA, runK_rA, wrap_i64, wrap_u64, wrap_u32, wrap_u8, wrap_u16, callV_O, okIds, passObjs, passBody, backObjs, backBody, adopts, List.idxOf?, List.findIdx?, List.findIdx?.go, AV.atom, normA, lkE, fixObjs, fixBody, fixV, fixCell, endRA_n, endRA_r, vR, nlOr, nlObj, h0]
    · simp [beqI, bneI, mm_min2, mm_max2, mm_min3, mm_max3, startE, lkE, lkX, lkE_rest, sx, substE, opVA, objs0, List.replicate, XA_seq, XA_region, XOA_go, goE_someA, opV, ev, putA, layAll, XOA_nil, XA_skip_seq, XA_skip_nil, XOA_gd, goG_tA, goG_uA, binV, bi_add, bi_sub, bi_mul, bi_quo, bi_rem, bi_eql, bi_neq, bi_lss, bi_leq, bi_gtr, bi_geq, bi_shl, bi_shr, bi_and, bi_or, bi_xor, unV, XA_ret_nil, XA_ret_cons, endFA_r, endFA_n, endTA_r, endTA_n, endRA_r, endRA_n, fltR, resultsA, resAs, resA, XA_block, XA_cond, pickX_t, pickX_f, pickX_b, XA_skip_blk, XA_skip_lp, XA_exit_seq, XA_exit_lp, XA_exit_blk, XA_exit_nil, load1, Ev.loadCells, objCells, bodyCells, setCells, AV.flat, AV.flat1, backR, backV, backCell, mapO, AV.cells, AV.atom, AV.tree, fillV, repeatL, treeCell, freezeAll, eqCells, callV_T, callV_F, passN, passV, passCell, srcCells, sliceBounds, hiB, loB, thenQ_nA, thenQ_xA, thenQ_rA, runK_nA, runK_xA, runK_rA, wrap_i64, wrap_u64, wrap_u32, wrap_u8, wrap_u16, callV_O, okIds, passObjs, passBody, backObjs, backBody, adopts, List.idxOf?, List.findIdx?, List.findIdx?.go, AV.atom, normA, lkE, fixObjs, fixBody, fixV, fixCell, endRA_n, endRA_r, vR, nlOr, nlObj, h0]
end Go.Proofs.Ytambpbcdnhekbaa
