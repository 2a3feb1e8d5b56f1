/- The catalog of bytes. -/
import Derived.Test.YtmnafjgkhhdidaaSchR
set_option linter.unusedSimpArgs false
set_option linter.unusedVariables false
set_option maxHeartbeats 4000000
set_option maxRecDepth 100000
namespace Go.Proofs.Ytmnafjgkhhdidaa
open Go.Ev
def readG (nm : Nat → RS → Int × RS) (st : Bool → Bool) (b : List Int) : Option (Int × List Dm) :=
  if (catP nm st b).2.2.2 = false ∧ (catP nm st b).2.2.1 = [] ∧ goodC (catP nm st b).2.1 (catP nm st b).1 = true then some ((catP nm st b).1, (catP nm st b).2.1) else none
theorem readG_iff {nm : Nat → RS → Int × RS} {st : Bool → Bool} {lim : Nat → Nat} (hn : NumP nm lim) (hst : st false = false) {b : List Int} (hb : okB b) (m : Int) (D : List Dm) :
    readG nm st b = some (m, D) ↔ goodC D m = true ∧ b = bytesG D m := by
  unfold readG
  constructor
  · intro h
    split at h
    · rename_i c
      cases h
      obtain ⟨m, D, b', e1, e2, -⟩ := cat_sound hn hst hb c.1
      rw [e1] at c ⊢
      simp only at c
      have c2 := c.2.1
      subst c2
      exact ⟨c.2.2, by rw [e2]; simp⟩
    · cases h
  · rintro ⟨g, rfl⟩
    have := cat_full hn hst g []
    rw [List.append_nil] at this
    rw [this]
    simp [g]
def catV : Option (Int × List Dm) → AV
  | some (m, D) => .tup [.agg [.ro D.length (flatD D), .int .i64 m], .bool true]
  | none => .tup [.agg [.ro 0 [], .int .i64 0], .bool false]
theorem flatD_snoc (a : List Dm) (d : Dm) : flatD (a ++ [d]) = flatD a ++ [rI d.S, rR d.U] := by
  induction a with
  | nil => rfl
  | cons x a ih => simp [flatD, ih]
theorem flatD_two (D : List Dm) : (flatD D).length = D.length * 2 := flatD_len D
theorem flatD_trees : ∀ (ds : List Dm), ∀ x ∈ flatD ds, x.tree = true
  | [], x, h => by cases h
  | d :: r, x, h => by
    simp only [flatD, List.mem_cons] at h
    rcases h with rfl | rfl | h
    · rfl
    · rfl
    · exact flatD_trees r x h
theorem dimsS_succ (i : Nat) (s : RS) : dimsP numS stS (i + 1) s = dimF numS stS (dimsP numS stS i s) := by
  unfold dimsP
  rw [rep_snoc]
  simp [stS]
theorem dimsS_len (n : Nat) (s : RS) : (dimsP numS stS n s).1.length = n := rep_len (f := dimF numS stS) (fun s => by simp [dimF]) ([], s) rfl n
theorem Read_ev (b : List Int) (hs : okS (b, false)) : cvT tab 31 [rB b] = some (catV (readG numS stS b)) := by
  refine cvTA_R (mf := Mf.f31) rfl rfl (by kernel_rfl) ?_
  simp only [Mf.f31]
  unfold readG catP
  have e1 := num_ev2 (b, false) hs
  have h1 := numS_I.v 2 (b, false) hs (by omega)
  have h1s := numS_I.s 2 (b, false) hs
  generalize numS 2 (b, false) = q at *
  obtain ⟨m, s1⟩ := q
  simp only at e1 h1 h1s ⊢
  have e2 := num_ev4 s1 h1s
  have h2 := numS_I.v 4 s1 h1s (by omega)
  have h2s := numS_I.s 4 s1 h1s
  generalize numS 4 s1 = q at *
  obtain ⟨u, s2⟩ := q
  obtain ⟨n, rfl⟩ := nat_of h2.1
  simp only [Int.toNat_natCast] at e2 h2 h2s ⊢
  simp only [vR, rB] at e1 e2 ⊢
  simp [beqI, bneI, mm_min2, mm_max2, mm_min3, mm_max3, startE, lkE, lkX, lkE_rest, sx, substE, opVA, objs0, List.replicate, XA_seq, XA_region, XOA_go, goE_someA, opV, ev, putA, layAll, XOA_nil, XA_skip_seq, XA_skip_nil, XOA_gd, goG_tA, goG_uA, binV, bi_add, bi_sub, bi_mul, bi_quo, bi_rem, bi_eql, bi_neq, bi_lss, bi_leq, bi_gtr, bi_geq, bi_shl, bi_shr, bi_and, bi_or, bi_xor, unV, XA_ret_nil, XA_ret_cons, endFA_r, endFA_n, endTA_r, endTA_n, endRA_r, endRA_n, endEA_r, endEA_n, List.take, fltR, resultsA, resAs, resA, XA_block, XA_cond, pickX_t, pickX_f, pickX_b, XA_skip_blk, XA_skip_lp, XA_exit_seq, XA_exit_lp, XA_exit_blk, XA_exit_nil, load1, Ev.loadCells, objCells, bodyCells, setCells, AV.flat, AV.flat1, backR, backV, backCell, mapO, AV.cells, AV.atom, AV.tree, fillV, repeatL, treeCell, freezeAll, eqCells, callV_T, callV_F, passN, passV, passCell, srcCells, sliceBounds, hiB, loB, thenQ_nA, thenQ_xA, thenQ_rA, runK_nA, runK_xA, runK_rA, wrap_i64, wrap_u64, wrap_u32, wrap_u8, wrap_u16, callV_O, okIds, passObjs, passBody, backObjs, backBody, adopts, List.idxOf?, List.findIdx?, List.findIdx?.go, e1, e2]
  refine XA_for (fun i => ⟨[(2, .ptr 0 0 0), (4, .ptr 1 0 0), (5, .ptr 2 0 0), (13, .int .i64 n), (14, .int .i64 i)], [⟨0, .var [.nilsl, .int .i64 0]⟩, vR (dimsP numS stS i s2).2, ⟨0, .var [nlOr 3 2 i, .int .i64 m]⟩, nlObj 2 i (flatD (dimsP numS stS i s2).1)]⟩)
    (fun i => True) n 0 (Nat.zero_le _) (by simp [AV.atom, normA, lkE, fixObjs, fixBody, fixV, fixCell, vR, dimsP, rep, nlOr, nlObj]) trivial ?_ ?_
  · intro i _ hi _
    have hi' : (i : Int) < (n : Int) := by omega
    have hP := dimsP_inv stS numS_I h2s i
    have hl := dimsS_len i s2
    rw [dimsS_succ]
    generalize dimsP numS stS i s2 = p at *
    obtain ⟨L, s3⟩ := p
    simp only at hP hl
    simp only [dimF]
    obtain ⟨H, e3, hH⟩ := dim_ev s3 hP.2.1
    generalize dimP numS stS s3 = q3 at *
    obtain ⟨⟨S, U⟩, s4⟩ := q3
    simp only at e3 hH ⊢
    rw [flatD_snoc]
    simp only
    have g1 : (i + 1) * 48 ≤ 140737488355328 := by omega
    have g2 : i + 1 < 4611686018427387904 := by omega
    have hw := wrap_succ i n hi (by omega)
    have hfl := flatD_two L
    rw [hl] at hfl
    generalize flatD L = fl at *
    simp only [vR, rI] at e3
    by_cases hU : U.length = 0
    · have hU' : U = [] := List.length_eq_zero_iff.1 hU
      subst hU'
      simp only [nlOr, List.length_nil, if_true] at e3
      rcases Nat.eq_zero_or_pos i with h0 | h0
      · subst h0
        have hL : fl = [] := List.length_eq_zero_iff.1 hfl
        subst hL
        simp at hw
        have z1 : (0 : Int) < n := by omega
        have z2 : 0 < n := by omega
        simp [beqI, bneI, mm_min2, mm_max2, mm_min3, mm_max3, startE, lkE, lkX, lkE_rest, sx, substE, opVA, objs0, List.replicate, XA_seq, XA_region, XOA_go, goE_someA, opV, ev, putA, layAll, XOA_nil, XA_skip_seq, XA_skip_nil, XOA_gd, goG_tA, goG_uA, binV, bi_add, bi_sub, bi_mul, bi_quo, bi_rem, bi_eql, bi_neq, bi_lss, bi_leq, bi_gtr, bi_geq, bi_shl, bi_shr, bi_and, bi_or, bi_xor, unV, XA_ret_nil, XA_ret_cons, endFA_r, endFA_n, endTA_r, endTA_n, endRA_r, endRA_n, endEA_r, endEA_n, List.take, fltR, resultsA, resAs, resA, XA_block, XA_cond, pickX_t, pickX_f, pickX_b, XA_skip_blk, XA_skip_lp, XA_exit_seq, XA_exit_lp, XA_exit_blk, XA_exit_nil, load1, Ev.loadCells, objCells, bodyCells, setCells, AV.flat, AV.flat1, backR, backV, backCell, mapO, AV.cells, AV.atom, AV.tree, fillV, repeatL, treeCell, freezeAll, eqCells, callV_T, callV_F, passN, passV, passCell, srcCells, sliceBounds, hiB, loB, thenQ_nA, thenQ_xA, thenQ_rA, runK_nA, runK_xA, runK_rA, wrap_i64, wrap_u64, wrap_u32, wrap_u8, wrap_u16, callV_O, okIds, passObjs, passBody, backObjs, backBody, adopts, List.idxOf?, List.findIdx?, List.findIdx?.go, AV.atom, normA, lkE, fixObjs, fixBody, fixV, fixCell, vR, e3, nlOr, nlObj, rI, rR, z1, z2, hw]
      · have h0' : ¬ i = 0 := by omega
        simp [beqI, bneI, mm_min2, mm_max2, mm_min3, mm_max3, startE, lkE, lkX, lkE_rest, sx, substE, opVA, objs0, List.replicate, XA_seq, XA_region, XOA_go, goE_someA, opV, ev, putA, layAll, XOA_nil, XA_skip_seq, XA_skip_nil, XOA_gd, goG_tA, goG_uA, binV, bi_add, bi_sub, bi_mul, bi_quo, bi_rem, bi_eql, bi_neq, bi_lss, bi_leq, bi_gtr, bi_geq, bi_shl, bi_shr, bi_and, bi_or, bi_xor, unV, XA_ret_nil, XA_ret_cons, endFA_r, endFA_n, endTA_r, endTA_n, endRA_r, endRA_n, endEA_r, endEA_n, List.take, fltR, resultsA, resAs, resA, XA_block, XA_cond, pickX_t, pickX_f, pickX_b, XA_skip_blk, XA_skip_lp, XA_exit_seq, XA_exit_lp, XA_exit_blk, XA_exit_nil, load1, Ev.loadCells, objCells, bodyCells, setCells, AV.flat, AV.flat1, backR, backV, backCell, mapO, AV.cells, AV.atom, AV.tree, fillV, repeatL, treeCell, freezeAll, eqCells, callV_T, callV_F, passN, passV, passCell, srcCells, sliceBounds, hiB, loB, thenQ_nA, thenQ_xA, thenQ_rA, runK_nA, runK_xA, runK_rA, wrap_i64, wrap_u64, wrap_u32, wrap_u8, wrap_u16, callV_O, okIds, passObjs, passBody, backObjs, backBody, adopts, List.idxOf?, List.findIdx?, List.findIdx?.go, AV.atom, normA, lkE, fixObjs, fixBody, fixV, fixCell, vR, hi', e3, nlOr, nlObj, rI, rR, h0', g1, g2, hfl, hw]
    · simp only [nlOr, if_neg hU] at e3
      simp only [nlObj, if_neg hU] at hH
      have hUl : (U.map rI).length = U.length := List.length_map ..
      have hRU : rR U = .ro U.length (U.map rI) := rfl
      generalize U.map rI = us at *
      have hut : List.take U.length us = us := List.take_of_length_le (by omega)
      rcases Nat.eq_zero_or_pos i with h0 | h0
      · subst h0
        have hL : fl = [] := List.length_eq_zero_iff.1 hfl
        subst hL
        simp at hw
        have z1 : (0 : Int) < n := by omega
        have z2 : 0 < n := by omega
        simp [beqI, bneI, mm_min2, mm_max2, mm_min3, mm_max3, startE, lkE, lkX, lkE_rest, sx, substE, opVA, objs0, List.replicate, XA_seq, XA_region, XOA_go, goE_someA, opV, ev, putA, layAll, XOA_nil, XA_skip_seq, XA_skip_nil, XOA_gd, goG_tA, goG_uA, binV, bi_add, bi_sub, bi_mul, bi_quo, bi_rem, bi_eql, bi_neq, bi_lss, bi_leq, bi_gtr, bi_geq, bi_shl, bi_shr, bi_and, bi_or, bi_xor, unV, XA_ret_nil, XA_ret_cons, endFA_r, endFA_n, endTA_r, endTA_n, endRA_r, endRA_n, endEA_r, endEA_n, List.take, fltR, resultsA, resAs, resA, XA_block, XA_cond, pickX_t, pickX_f, pickX_b, XA_skip_blk, XA_skip_lp, XA_exit_seq, XA_exit_lp, XA_exit_blk, XA_exit_nil, load1, Ev.loadCells, objCells, bodyCells, setCells, AV.flat, AV.flat1, backR, backV, backCell, mapO, AV.cells, AV.atom, AV.tree, fillV, repeatL, treeCell, freezeAll, eqCells, callV_T, callV_F, passN, passV, passCell, srcCells, sliceBounds, hiB, loB, thenQ_nA, thenQ_xA, thenQ_rA, runK_nA, runK_xA, runK_rA, wrap_i64, wrap_u64, wrap_u32, wrap_u8, wrap_u16, callV_O, okIds, passObjs, passBody, backObjs, backBody, adopts, List.idxOf?, List.findIdx?, List.findIdx?.go, AV.atom, normA, lkE, fixObjs, fixBody, fixV, fixCell, vR, e3, hH, nlOr, nlObj, rI, hRU, hUl, hut, z1, z2, hw]
      · have h0' : ¬ i = 0 := by omega
        simp [beqI, bneI, mm_min2, mm_max2, mm_min3, mm_max3, startE, lkE, lkX, lkE_rest, sx, substE, opVA, objs0, List.replicate, XA_seq, XA_region, XOA_go, goE_someA, opV, ev, putA, layAll, XOA_nil, XA_skip_seq, XA_skip_nil, XOA_gd, goG_tA, goG_uA, binV, bi_add, bi_sub, bi_mul, bi_quo, bi_rem, bi_eql, bi_neq, bi_lss, bi_leq, bi_gtr, bi_geq, bi_shl, bi_shr, bi_and, bi_or, bi_xor, unV, XA_ret_nil, XA_ret_cons, endFA_r, endFA_n, endTA_r, endTA_n, endRA_r, endRA_n, endEA_r, endEA_n, List.take, fltR, resultsA, resAs, resA, XA_block, XA_cond, pickX_t, pickX_f, pickX_b, XA_skip_blk, XA_skip_lp, XA_exit_seq, XA_exit_lp, XA_exit_blk, XA_exit_nil, load1, Ev.loadCells, objCells, bodyCells, setCells, AV.flat, AV.flat1, backR, backV, backCell, mapO, AV.cells, AV.atom, AV.tree, fillV, repeatL, treeCell, freezeAll, eqCells, callV_T, callV_F, passN, passV, passCell, srcCells, sliceBounds, hiB, loB, thenQ_nA, thenQ_xA, thenQ_rA, runK_nA, runK_xA, runK_rA, wrap_i64, wrap_u64, wrap_u32, wrap_u8, wrap_u16, callV_O, okIds, passObjs, passBody, backObjs, backBody, adopts, List.idxOf?, List.findIdx?, List.findIdx?.go, AV.atom, normA, lkE, fixObjs, fixBody, fixV, fixCell, vR, hi', e3, hH, nlOr, nlObj, rI, hRU, hUl, hut, h0', g1, g2, hfl, hw]
  · intro _
    have hP := dimsP_inv stS numS_I h2s n
    have hok := dimsP_ok stS numS_I h2s n (by omega)
    have hl := dimsS_len n s2
    generalize dimsP numS stS n s2 = p at *
    obtain ⟨L, s3⟩ := p
    simp only at hl hok
    have hg := sgood_ev L m hok
    have hfl := flatD_two L
    have hnl : ¬ (n : Int) < (n : Int) := by omega
    obtain ⟨r, bad⟩ := s3
    cases bad with
    | true => simp [beqI, bneI, mm_min2, mm_max2, mm_min3, mm_max3, startE, lkE, lkX, lkE_rest, sx, substE, opVA, objs0, List.replicate, XA_seq, XA_region, XOA_go, goE_someA, opV, ev, putA, layAll, XOA_nil, XA_skip_seq, XA_skip_nil, XOA_gd, goG_tA, goG_uA, binV, bi_add, bi_sub, bi_mul, bi_quo, bi_rem, bi_eql, bi_neq, bi_lss, bi_leq, bi_gtr, bi_geq, bi_shl, bi_shr, bi_and, bi_or, bi_xor, unV, XA_ret_nil, XA_ret_cons, endFA_r, endFA_n, endTA_r, endTA_n, endRA_r, endRA_n, endEA_r, endEA_n, List.take, fltR, resultsA, resAs, resA, XA_block, XA_cond, pickX_t, pickX_f, pickX_b, XA_skip_blk, XA_skip_lp, XA_exit_seq, XA_exit_lp, XA_exit_blk, XA_exit_nil, load1, Ev.loadCells, objCells, bodyCells, setCells, AV.flat, AV.flat1, backR, backV, backCell, mapO, AV.cells, AV.atom, AV.tree, fillV, repeatL, treeCell, freezeAll, eqCells, callV_T, callV_F, passN, passV, passCell, srcCells, sliceBounds, hiB, loB, thenQ_nA, thenQ_xA, thenQ_rA, runK_nA, runK_xA, runK_rA, wrap_i64, wrap_u64, wrap_u32, wrap_u8, wrap_u16, callV_O, okIds, passObjs, passBody, backObjs, backBody, adopts, List.idxOf?, List.findIdx?, List.findIdx?.go, AV.atom, normA, lkE, fixObjs, fixBody, fixV, fixCell, vR, nlOr, nlObj, catV]
    | false =>
      by_cases hr : r = []
      · subst hr
        by_cases h0 : n = 0
        · subst h0
          have hL : L = [] := List.length_eq_zero_iff.1 hl
          subst hL
          have hgf : goodC [] m = false := by simp [goodC]
          rw [hgf] at hg
          simp only [flatD, List.length_nil] at hg
          simp [beqI, bneI, mm_min2, mm_max2, mm_min3, mm_max3, startE, lkE, lkX, lkE_rest, sx, substE, opVA, objs0, List.replicate, XA_seq, XA_region, XOA_go, goE_someA, opV, ev, putA, layAll, XOA_nil, XA_skip_seq, XA_skip_nil, XOA_gd, goG_tA, goG_uA, binV, bi_add, bi_sub, bi_mul, bi_quo, bi_rem, bi_eql, bi_neq, bi_lss, bi_leq, bi_gtr, bi_geq, bi_shl, bi_shr, bi_and, bi_or, bi_xor, unV, XA_ret_nil, XA_ret_cons, endFA_r, endFA_n, endTA_r, endTA_n, endRA_r, endRA_n, endEA_r, endEA_n, List.take, fltR, resultsA, resAs, resA, XA_block, XA_cond, pickX_t, pickX_f, pickX_b, XA_skip_blk, XA_skip_lp, XA_exit_seq, XA_exit_lp, XA_exit_blk, XA_exit_nil, load1, Ev.loadCells, objCells, bodyCells, setCells, AV.flat, AV.flat1, backR, backV, backCell, mapO, AV.cells, AV.atom, AV.tree, fillV, repeatL, treeCell, freezeAll, eqCells, callV_T, callV_F, passN, passV, passCell, srcCells, sliceBounds, hiB, loB, thenQ_nA, thenQ_xA, thenQ_rA, runK_nA, runK_xA, runK_rA, wrap_i64, wrap_u64, wrap_u32, wrap_u8, wrap_u16, callV_O, okIds, passObjs, passBody, backObjs, backBody, adopts, List.idxOf?, List.findIdx?, List.findIdx?.go, AV.atom, normA, lkE, fixObjs, fixBody, fixV, fixCell, vR, nlOr, nlObj, catV, hg, hgf]
        · have hLl : (flatD L).length = n * 2 := by rw [hfl, hl]
          have hft : List.take (n * 2) (flatD L) = flatD L := List.take_of_length_le (by omega)
          rw [hl] at hg
          have ht : (flatD L).all AV.tree = true := List.all_eq_true.2 (flatD_trees L)
          cases g : goodC L m with
          | false =>
            rw [g] at hg
            simp [beqI, bneI, mm_min2, mm_max2, mm_min3, mm_max3, startE, lkE, lkX, lkE_rest, sx, substE, opVA, objs0, List.replicate, XA_seq, XA_region, XOA_go, goE_someA, opV, ev, putA, layAll, XOA_nil, XA_skip_seq, XA_skip_nil, XOA_gd, goG_tA, goG_uA, binV, bi_add, bi_sub, bi_mul, bi_quo, bi_rem, bi_eql, bi_neq, bi_lss, bi_leq, bi_gtr, bi_geq, bi_shl, bi_shr, bi_and, bi_or, bi_xor, unV, XA_ret_nil, XA_ret_cons, endFA_r, endFA_n, endTA_r, endTA_n, endRA_r, endRA_n, endEA_r, endEA_n, List.take, fltR, resultsA, resAs, resA, XA_block, XA_cond, pickX_t, pickX_f, pickX_b, XA_skip_blk, XA_skip_lp, XA_exit_seq, XA_exit_lp, XA_exit_blk, XA_exit_nil, load1, Ev.loadCells, objCells, bodyCells, setCells, AV.flat, AV.flat1, backR, backV, backCell, mapO, AV.cells, AV.atom, AV.tree, fillV, repeatL, treeCell, freezeAll, eqCells, callV_T, callV_F, passN, passV, passCell, srcCells, sliceBounds, hiB, loB, thenQ_nA, thenQ_xA, thenQ_rA, runK_nA, runK_xA, runK_rA, wrap_i64, wrap_u64, wrap_u32, wrap_u8, wrap_u16, callV_O, okIds, passObjs, passBody, backObjs, backBody, adopts, List.idxOf?, List.findIdx?, List.findIdx?.go, AV.atom, normA, lkE, fixObjs, fixBody, fixV, fixCell, vR, nlOr, nlObj, catV, h0, hLl, hft, hg, ht]
          | true =>
            rw [g] at hg
            simp [beqI, bneI, mm_min2, mm_max2, mm_min3, mm_max3, startE, lkE, lkX, lkE_rest, sx, substE, opVA, objs0, List.replicate, XA_seq, XA_region, XOA_go, goE_someA, opV, ev, putA, layAll, XOA_nil, XA_skip_seq, XA_skip_nil, XOA_gd, goG_tA, goG_uA, binV, bi_add, bi_sub, bi_mul, bi_quo, bi_rem, bi_eql, bi_neq, bi_lss, bi_leq, bi_gtr, bi_geq, bi_shl, bi_shr, bi_and, bi_or, bi_xor, unV, XA_ret_nil, XA_ret_cons, endFA_r, endFA_n, endTA_r, endTA_n, endRA_r, endRA_n, endEA_r, endEA_n, List.take, fltR, resultsA, resAs, resA, XA_block, XA_cond, pickX_t, pickX_f, pickX_b, XA_skip_blk, XA_skip_lp, XA_exit_seq, XA_exit_lp, XA_exit_blk, XA_exit_nil, load1, Ev.loadCells, objCells, bodyCells, setCells, AV.flat, AV.flat1, backR, backV, backCell, mapO, AV.cells, AV.atom, AV.tree, fillV, repeatL, treeCell, freezeAll, eqCells, callV_T, callV_F, passN, passV, passCell, srcCells, sliceBounds, hiB, loB, thenQ_nA, thenQ_xA, thenQ_rA, runK_nA, runK_xA, runK_rA, wrap_i64, wrap_u64, wrap_u32, wrap_u8, wrap_u16, callV_O, okIds, passObjs, passBody, backObjs, backBody, adopts, List.idxOf?, List.findIdx?, List.findIdx?.go, AV.atom, normA, lkE, fixObjs, fixBody, fixV, fixCell, vR, nlOr, nlObj, catV, h0, hLl, hft, hg, hl, ht]
      · have hr' : 0 < r.length := List.length_pos_iff.2 hr
        simp [beqI, bneI, mm_min2, mm_max2, mm_min3, mm_max3, startE, lkE, lkX, lkE_rest, sx, substE, opVA, objs0, List.replicate, XA_seq, XA_region, XOA_go, goE_someA, opV, ev, putA, layAll, XOA_nil, XA_skip_seq, XA_skip_nil, XOA_gd, goG_tA, goG_uA, binV, bi_add, bi_sub, bi_mul, bi_quo, bi_rem, bi_eql, bi_neq, bi_lss, bi_leq, bi_gtr, bi_geq, bi_shl, bi_shr, bi_and, bi_or, bi_xor, unV, XA_ret_nil, XA_ret_cons, endFA_r, endFA_n, endTA_r, endTA_n, endRA_r, endRA_n, endEA_r, endEA_n, List.take, fltR, resultsA, resAs, resA, XA_block, XA_cond, pickX_t, pickX_f, pickX_b, XA_skip_blk, XA_skip_lp, XA_exit_seq, XA_exit_lp, XA_exit_blk, XA_exit_nil, load1, Ev.loadCells, objCells, bodyCells, setCells, AV.flat, AV.flat1, backR, backV, backCell, mapO, AV.cells, AV.atom, AV.tree, fillV, repeatL, treeCell, freezeAll, eqCells, callV_T, callV_F, passN, passV, passCell, srcCells, sliceBounds, hiB, loB, thenQ_nA, thenQ_xA, thenQ_rA, runK_nA, runK_xA, runK_rA, wrap_i64, wrap_u64, wrap_u32, wrap_u8, wrap_u16, callV_O, okIds, passObjs, passBody, backObjs, backBody, adopts, List.idxOf?, List.findIdx?, List.findIdx?.go, AV.atom, normA, lkE, fixObjs, fixBody, fixV, fixCell, vR, nlOr, nlObj, catV, hr, hr']
end Go.Proofs.Ytmnafjgkhhdidaa
