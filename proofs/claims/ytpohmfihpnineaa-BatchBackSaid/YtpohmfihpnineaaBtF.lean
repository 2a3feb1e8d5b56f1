/- Batches as bytes. -/
import Derived.Test.YtpohmfihpnineaaBtA
import Derived.Test.YtpohmfihpnineaaRowL
import Derived.Test.YtpohmfihpnineaaRowBack
set_option linter.unusedSimpArgs false
set_option linter.unusedVariables false
set_option maxHeartbeats 16000000
set_option maxRecDepth 100000
namespace Go.Proofs.Ytpohmfihpnineaa
open Go.Ev
def dB (b : Bool) : Int := if b = true then 1 else 0
def chB (c : Ch) : List Int := dB c.1 :: rowB c.2
def chsB (l : List Ch) : List Int := l.flatMap chB
def batB (l : List Ch) : List Int := digN l.length ++ chsB l
theorem chsB_succ (l : List Ch) (i : Nat) (h : i < l.length) : chsB (l.take (i + 1)) = chsB (l.take i) ++ chB l[i] := by
  unfold chsB; rw [List.take_succ_eq_append_getElem h, List.flatMap_append]; simp only [List.flatMap_cons, List.flatMap_nil, List.append_nil]
theorem chB_len {c : Ch} (h : okW c.2) : 7 ≤ (chB c).length ∧ (chB c).length ≤ 25 := by
  have := rowB_len h
  simp only [chB, List.length_cons]; omega
theorem chB_ok {c : Ch} (h : okW c.2) : okB (chB c) := fun x hx => by
  rcases List.mem_cons.1 hx with rfl | hx
  · unfold dB; split <;> exact ⟨by omega, by omega⟩
  · exact rowB_ok h x hx
theorem chsB_ok {l : List Ch} (h : okH l) : okB (chsB l) := fun x hx => by
  obtain ⟨c, hc, hx⟩ := List.mem_flatMap.1 hx
  exact chB_ok (h c hc) x hx
theorem chsB_len {l : List Ch} (h : okH l) : (chsB l).length ≤ l.length * 25 ∧ l.length ≤ (chsB l).length := by
  induction l with
  | nil => simp [chsB]
  | cons c l ih =>
    have := ih fun x hx => h x (by simp [hx])
    have := chB_len (h c (by simp))
    simp only [chsB, List.flatMap_cons, List.length_append, List.length_cons] at *
    omega
def batI (D : List Int) (l : List Ch) (i : Nat) : List Int := D ++ chsB (l.take i)
theorem batI_succ (D : List Int) (l : List Ch) (i : Nat) (h : i < l.length) : batI D l (i + 1) = batI D l i ++ (dB l[i].1 :: rowB l[i].2) := by
  unfold batI; rw [chsB_succ l i h, List.append_assoc]; rfl
theorem batI_len (D : List Int) {l : List Ch} (h : okH l) (i : Nat) : (batI D l i).length ≤ D.length + l.length * 25 := by
  have := chsB_len (l := l.take i) fun x hx => h x (List.mem_of_mem_take hx)
  rw [List.length_take] at this
  unfold batI
  rw [List.length_append]
  omega
theorem bbytes_ev (l : List Ch) (hl : okH l) (hn : l.length ≤ 60) : cvT tabC 17 [rH l] = some (rB (batB l)) := by
  have ep := put_nil (l.length : Int) (by omega) (by omega)
  have hdg : digN l.length = [(l.length : Int)] := digN_low (by omega)
  have w0 : IntKind.u64.wrap (l.length : Int) = l.length := wrap_u64 (by omega) (by omega)
  have hd := fun i (h : i < l.length) => dropH l i h
  have hfl := flatH_len l
  have hB := fun i (h : i < l.length) => batI_succ (digN l.length) l i h
  have hBl := batI_len (digN l.length) hl
  have eb := fun i (h : i < l.length) => cvTC (cvTB (cvTS (rowBytes_ev l[i].2 (hl _ (List.getElem_mem h)))))
  have hrl := fun i (h : i < l.length) => rowB_len (hl _ (List.getElem_mem h))
  have hB0 : batI (digN l.length) l 0 = digN l.length := by unfold batI chsB; simp
  have hBn : batI (digN l.length) l l.length = digN l.length ++ chsB l := by unfold batI; rw [List.take_length]
  unfold batB
  rw [← hBn]
  rw [hdg] at *
  simp only [rH]
  generalize hF : flatH l = fl at *
  refine cvTA_R (mf := Mf.f17) rfl rfl (by kernel_rfl) ?_
  simp only [Mf.f17]
  simp [beqI, bneI, mm_min2, mm_max2, mm_min3, mm_max3, startE, lkE, lkX, lkE_rest, sx, substE, opVA, objs0, List.replicate, XA_seq, XA_region, XOA_go, goE_someA, opV, ev, putA, layAll, XOA_nil, XA_skip_seq, XA_skip_nil, XOA_gd, goG_tA, goG_uA, binV, bi_add, bi_sub, bi_mul, bi_quo, bi_rem, bi_eql, bi_neq, bi_lss, bi_leq, bi_gtr, bi_geq, bi_shl, bi_shr, bi_and, bi_or, bi_xor, unV, XA_ret_nil, XA_ret_cons, endFA_r, endFA_n, endTA_r, endTA_n, endRA_r, endRA_n, endEA_r, endEA_n, List.take, fltR, resultsA, resAs, resA, XA_block, XA_cond, pickX_t, pickX_f, pickX_b, XA_skip_blk, XA_skip_lp, XA_exit_seq, XA_exit_lp, XA_exit_blk, XA_exit_nil, load1, Ev.loadCells, objCells, bodyCells, setCells, AV.flat, AV.flat1, backR, backV, backCell, mapO, AV.cells, AV.atom, AV.tree, fillV, repeatL, treeCell, freezeAll, eqCells, callV_T, callV_F, passN, passV, passCell, srcCells, sliceBounds, hiB, loB, thenQ_nA, thenQ_xA, thenQ_rA, runK_nA, runK_xA, runK_rA, wrap_i64, wrap_u64, wrap_u32, wrap_u8, wrap_u16, callV_O, okIds, passObjs, passBody, backObjs, backBody, adopts, List.idxOf?, List.findIdx?, List.findIdx?.go, isNilP, mapLook, mapGet, keyGet, adopts, List.lookup, callV_R, backBody, w0, ep]
  refine XA_for (fun i => ⟨[(3, .own 0 0 0 (batI [(l.length : Int)] l i).length 1), (11, .ro l.length fl), (12, .int .i64 l.length), (13, .int .i64 i)], [⟨0, .row true 1 ((batI [(l.length : Int)] l i).map (.int .u8))⟩, ⟨0, .none⟩]⟩)
    (fun _ => True) l.length 0 (Nat.zero_le _) (by simp [AV.atom, normA, lkE, fixObjs, fixBody, fixV, fixCell, hB0]) trivial ?_ ?_
  · intro i _ hi _
    have hi' : (i : Int) < l.length := by omega
    have d := hd i hi
    have ws := wrap_succ i l.length hi (by omega)
    have hb := hB i hi
    have hbl := hBl i
    have eb := eb i hi
    have hrl := hrl i hi
    rw [hb]
    simp only [List.length_cons, List.length_nil] at hbl
    generalize batI [(l.length : Int)] l i = X at *
    generalize l[i] = p at *
    obtain ⟨b, p⟩ := p
    simp only [chC, rowC, List.cons_append, List.nil_append, rB] at d eb hrl ⊢
    generalize rowB p = Y at *
    have q1 : X.length + 1 ≤ 140737488355328 := by omega
    have q2 : X.length + 1 < 4611686018427387904 := by omega
    have q3 : X.length + 1 + Y.length ≤ 140737488355328 := by omega
    have q4 : X.length + 1 + Y.length < 4611686018427387904 := by omega
    have q5 : X.length + (Y.length + 1) = X.length + 1 + Y.length := by omega
    cases b
    · simp [beqI, bneI, mm_min2, mm_max2, mm_min3, mm_max3, startE, lkE, lkX, lkE_rest, sx, substE, opVA, objs0, List.replicate, XA_seq, XA_region, XOA_go, goE_someA, opV, ev, putA, layAll, XOA_nil, XA_skip_seq, XA_skip_nil, XOA_gd, goG_tA, goG_uA, binV, bi_add, bi_sub, bi_mul, bi_quo, bi_rem, bi_eql, bi_neq, bi_lss, bi_leq, bi_gtr, bi_geq, bi_shl, bi_shr, bi_and, bi_or, bi_xor, unV, XA_ret_nil, XA_ret_cons, endFA_r, endFA_n, endTA_r, endTA_n, endRA_r, endRA_n, endEA_r, endEA_n, List.take, fltR, resultsA, resAs, resA, XA_block, XA_cond, pickX_t, pickX_f, pickX_b, XA_skip_blk, XA_skip_lp, XA_exit_seq, XA_exit_lp, XA_exit_blk, XA_exit_nil, load1, Ev.loadCells, objCells, bodyCells, setCells, AV.flat, AV.flat1, backR, backV, backCell, mapO, AV.cells, AV.atom, AV.tree, fillV, repeatL, treeCell, freezeAll, eqCells, callV_T, callV_F, passN, passV, passCell, srcCells, sliceBounds, hiB, loB, thenQ_nA, thenQ_xA, thenQ_rA, runK_nA, runK_xA, runK_rA, wrap_i64, wrap_u64, wrap_u32, wrap_u8, wrap_u16, callV_O, okIds, passObjs, passBody, backObjs, backBody, adopts, List.idxOf?, List.findIdx?, List.findIdx?.go, isNilP, mapLook, mapGet, keyGet, adopts, List.lookup, AV.atom, normA, lkE, fixObjs, fixBody, fixV, fixCell, hi, hi', d, hfl, eb, ws, q1, q2, q3, q4, q5, dB]
    · simp [beqI, bneI, mm_min2, mm_max2, mm_min3, mm_max3, startE, lkE, lkX, lkE_rest, sx, substE, opVA, objs0, List.replicate, XA_seq, XA_region, XOA_go, goE_someA, opV, ev, putA, layAll, XOA_nil, XA_skip_seq, XA_skip_nil, XOA_gd, goG_tA, goG_uA, binV, bi_add, bi_sub, bi_mul, bi_quo, bi_rem, bi_eql, bi_neq, bi_lss, bi_leq, bi_gtr, bi_geq, bi_shl, bi_shr, bi_and, bi_or, bi_xor, unV, XA_ret_nil, XA_ret_cons, endFA_r, endFA_n, endTA_r, endTA_n, endRA_r, endRA_n, endEA_r, endEA_n, List.take, fltR, resultsA, resAs, resA, XA_block, XA_cond, pickX_t, pickX_f, pickX_b, XA_skip_blk, XA_skip_lp, XA_exit_seq, XA_exit_lp, XA_exit_blk, XA_exit_nil, load1, Ev.loadCells, objCells, bodyCells, setCells, AV.flat, AV.flat1, backR, backV, backCell, mapO, AV.cells, AV.atom, AV.tree, fillV, repeatL, treeCell, freezeAll, eqCells, callV_T, callV_F, passN, passV, passCell, srcCells, sliceBounds, hiB, loB, thenQ_nA, thenQ_xA, thenQ_rA, runK_nA, runK_xA, runK_rA, wrap_i64, wrap_u64, wrap_u32, wrap_u8, wrap_u16, callV_O, okIds, passObjs, passBody, backObjs, backBody, adopts, List.idxOf?, List.findIdx?, List.findIdx?.go, isNilP, mapLook, mapGet, keyGet, adopts, List.lookup, AV.atom, normA, lkE, fixObjs, fixBody, fixV, fixCell, hi, hi', d, hfl, eb, ws, q1, q2, q3, q4, q5, dB]
  · intro _
    generalize batI [(l.length : Int)] l l.length = X at *
    have ht : List.take X.length (X.map (AV.int .u8)) = X.map (.int .u8) := List.take_of_length_le (by simp)
    simp [beqI, bneI, mm_min2, mm_max2, mm_min3, mm_max3, startE, lkE, lkX, lkE_rest, sx, substE, opVA, objs0, List.replicate, XA_seq, XA_region, XOA_go, goE_someA, opV, ev, putA, layAll, XOA_nil, XA_skip_seq, XA_skip_nil, XOA_gd, goG_tA, goG_uA, binV, bi_add, bi_sub, bi_mul, bi_quo, bi_rem, bi_eql, bi_neq, bi_lss, bi_leq, bi_gtr, bi_geq, bi_shl, bi_shr, bi_and, bi_or, bi_xor, unV, XA_ret_nil, XA_ret_cons, endFA_r, endFA_n, endTA_r, endTA_n, endRA_r, endRA_n, endEA_r, endEA_n, List.take, fltR, resultsA, resAs, resA, XA_block, XA_cond, pickX_t, pickX_f, pickX_b, XA_skip_blk, XA_skip_lp, XA_exit_seq, XA_exit_lp, XA_exit_blk, XA_exit_nil, load1, Ev.loadCells, objCells, bodyCells, setCells, AV.flat, AV.flat1, backR, backV, backCell, mapO, AV.cells, AV.atom, AV.tree, fillV, repeatL, treeCell, freezeAll, eqCells, callV_T, callV_F, passN, passV, passCell, srcCells, sliceBounds, hiB, loB, thenQ_nA, thenQ_xA, thenQ_rA, runK_nA, runK_xA, runK_rA, wrap_i64, wrap_u64, wrap_u32, wrap_u8, wrap_u16, callV_O, okIds, passObjs, passBody, backObjs, backBody, adopts, List.idxOf?, List.findIdx?, List.findIdx?.go, isNilP, mapLook, mapGet, keyGet, adopts, List.lookup, AV.atom, normA, lkE, fixObjs, fixBody, fixV, fixCell, rB, ht]
theorem digits_cf (u : Nat) (hu : u < 18446744073709551616) : cfT tab 35 [.int .u64 u] [] = some (.own 0 1 0 (digN u).length 1, [⟨1, .row true 1 ((digN u).map (.int .u8))⟩]) := by
  refine cfTA_R (mf := Mf.f35) rfl rfl (by kernel_rfl) ?_
  simp only [Mf.f35]
  have hlen0 := digN_ten hu
  simp [beqI, bneI, mm_min2, mm_max2, mm_min3, mm_max3, startE, lkE, lkX, lkE_rest, sx, substE, opVA, objs0, List.replicate, XA_seq, XA_region, XOA_go, goE_someA, opV, ev, putA, layAll, XOA_nil, XA_skip_seq, XA_skip_nil, XOA_gd, goG_tA, goG_uA, binV, bi_add, bi_sub, bi_mul, bi_quo, bi_rem, bi_eql, bi_neq, bi_lss, bi_leq, bi_gtr, bi_geq, bi_shl, bi_shr, bi_and, bi_or, bi_xor, unV, XA_ret_nil, XA_ret_cons, endFA_r, endFA_n, endTA_r, endTA_n, endRA_r, endRA_n, endEA_r, endEA_n, List.take, fltR, resultsA, resAs, resA, XA_block, XA_cond, pickX_t, pickX_f, pickX_b, XA_skip_blk, XA_skip_lp, XA_exit_seq, XA_exit_lp, XA_exit_blk, XA_exit_nil, load1, Ev.loadCells, objCells, bodyCells, setCells, AV.flat, AV.flat1, backR, backV, backCell, mapO, AV.cells, AV.atom, AV.tree, fillV, repeatL, treeCell, freezeAll, eqCells, callV_T, callV_F, passN, passV, passCell, srcCells, sliceBounds, hiB, loB, thenQ_nA, thenQ_xA, thenQ_rA, runK_nA, runK_xA, runK_rA, wrap_i64, wrap_u64, wrap_u32, wrap_u8, wrap_u16]
  refine XA_loop (α := List Int × Nat) (fun x => ⟨[(0, .int .u64 x.2), (3, .own 0 0 0 x.1.length 1)], [⟨0, .row true 1 (x.1.map (.int .u8))⟩]⟩)
    (fun x => x.1 ++ digN x.2 = digN u ∧ x.2 < 18446744073709551616) (fun x => x.2) ([], u) (by simp [AV.atom, normA, lkE, fixObjs, fixBody, fixV, fixCell]) ⟨rfl, hu⟩ ?_
  rintro ⟨dn, v⟩ ⟨hJ, hv⟩
  simp only at hJ hv
  have hlen : dn.length + (digN v).length = (digN u).length := by
    have := congrArg List.length hJ
    simpa using this
  have q1 : dn.length + 1 ≤ 140737488355328 := by omega
  have q2 : dn.length + 1 < 4611686018427387904 := by omega
  by_cases c : v < 128
  · have c' : ¬ (127 : Int) < (v : Int) := by omega
    have w : (v : Int) % 256 = v := by omega
    rw [digN_low c] at hJ
    rw [← hJ]
    simp [beqI, bneI, mm_min2, mm_max2, mm_min3, mm_max3, startE, lkE, lkX, lkE_rest, sx, substE, opVA, objs0, List.replicate, XA_seq, XA_region, XOA_go, goE_someA, opV, ev, putA, layAll, XOA_nil, XA_skip_seq, XA_skip_nil, XOA_gd, goG_tA, goG_uA, binV, bi_add, bi_sub, bi_mul, bi_quo, bi_rem, bi_eql, bi_neq, bi_lss, bi_leq, bi_gtr, bi_geq, bi_shl, bi_shr, bi_and, bi_or, bi_xor, unV, XA_ret_nil, XA_ret_cons, endFA_r, endFA_n, endTA_r, endTA_n, endRA_r, endRA_n, endEA_r, endEA_n, List.take, fltR, resultsA, resAs, resA, XA_block, XA_cond, pickX_t, pickX_f, pickX_b, XA_skip_blk, XA_skip_lp, XA_exit_seq, XA_exit_lp, XA_exit_blk, XA_exit_nil, load1, Ev.loadCells, objCells, bodyCells, setCells, AV.flat, AV.flat1, backR, backV, backCell, mapO, AV.cells, AV.atom, AV.tree, fillV, repeatL, treeCell, freezeAll, eqCells, callV_T, callV_F, passN, passV, passCell, srcCells, sliceBounds, hiB, loB, thenQ_nA, thenQ_xA, thenQ_rA, runK_nA, runK_xA, runK_rA, wrap_i64, wrap_u64, wrap_u32, wrap_u8, wrap_u16, AV.atom, normA, lkE, fixObjs, fixBody, fixV, fixCell, c', wrap8, w, q1, q2, List.take_of_length_le]
  · have c' : (127 : Int) < (v : Int) := by omega
    have t1 : (v : Int).tmod 128 = (v : Int) % 128 := Int.tmod_eq_emod_of_nonneg (by omega)
    have t2 : (v : Int).tdiv 128 = ((v / 128 : Nat) : Int) := by rw [Int.tdiv_eq_ediv_of_nonneg (by omega)]; omega
    have o : (((v : Int) % 128) % 256 + 128) % 256 = ((v % 128 + 128 : Nat) : Int) := by omega
    have w : IntKind.u64.wrap ((v / 128 : Nat) : Int) = ((v / 128 : Nat) : Int) := wrap_u64 (by omega) (by omega)
    rw [digN_high c] at hJ
    simp only [Int.natCast_add, Int.natCast_emod, Int.natCast_ediv] at o w t2
    simp at o w t2
    simp [beqI, bneI, mm_min2, mm_max2, mm_min3, mm_max3, startE, lkE, lkX, lkE_rest, sx, substE, opVA, objs0, List.replicate, XA_seq, XA_region, XOA_go, goE_someA, opV, ev, putA, layAll, XOA_nil, XA_skip_seq, XA_skip_nil, XOA_gd, goG_tA, goG_uA, binV, bi_add, bi_sub, bi_mul, bi_quo, bi_rem, bi_eql, bi_neq, bi_lss, bi_leq, bi_gtr, bi_geq, bi_shl, bi_shr, bi_and, bi_or, bi_xor, unV, XA_ret_nil, XA_ret_cons, endFA_r, endFA_n, endTA_r, endTA_n, endRA_r, endRA_n, endEA_r, endEA_n, List.take, fltR, resultsA, resAs, resA, XA_block, XA_cond, pickX_t, pickX_f, pickX_b, XA_skip_blk, XA_skip_lp, XA_exit_seq, XA_exit_lp, XA_exit_blk, XA_exit_nil, load1, Ev.loadCells, objCells, bodyCells, setCells, AV.flat, AV.flat1, backR, backV, backCell, mapO, AV.cells, AV.atom, AV.tree, fillV, repeatL, treeCell, freezeAll, eqCells, callV_T, callV_F, passN, passV, passCell, srcCells, sliceBounds, hiB, loB, thenQ_nA, thenQ_xA, thenQ_rA, runK_nA, runK_xA, runK_rA, wrap_i64, wrap_u64, wrap_u32, wrap_u8, wrap_u16, AV.atom, normA, lkE, fixObjs, fixBody, fixV, fixCell, c', wrap8, t1, t2, o, q1, q2, w]
    refine ⟨dn ++ [((v % 128 + 128 : Nat) : Int)], v / 128, ?_⟩
    simp
    refine ⟨⟨by simpa using hJ, by omega⟩, by omega⟩
theorem rbytes_cf (l : List Ch) (hl : okH l) (hn : l.length ≤ 100) : cfT tabC 18 [rH l] [] = some (.own 0 0 0 (batB l).length 1, [⟨0, .row true 1 ((batB l).map (.int .u8))⟩]) := by
  have ep := cfC (cfB (cfS (digits_cf l.length (by omega))))
  have w0 : IntKind.u64.wrap (l.length : Int) = l.length := wrap_u64 (by omega) (by omega)
  have hd := fun i (h : i < l.length) => dropH l i h
  have hfl := flatH_len l
  have hB := fun i (h : i < l.length) => batI_succ (digN l.length) l i h
  have hBl := batI_len (digN l.length) hl
  have eb := fun i (h : i < l.length) => cvTC (cvTB (cvTS (rrowBytes_ev l[i].2 (hl _ (List.getElem_mem h)))))
  have hrl := fun i (h : i < l.length) => rowB_len (hl _ (List.getElem_mem h))
  have hB0 : batI (digN l.length) l 0 = digN l.length := by unfold batI chsB; simp
  have hBn : batI (digN l.length) l l.length = digN l.length ++ chsB l := by unfold batI; rw [List.take_length]
  have hDl : (digN l.length).length ≤ 10 := digN_ten (by omega)
  unfold batB
  rw [← hBn]
  simp only [rH]
  generalize hF : flatH l = fl at *
  generalize digN l.length = D at *
  refine cfTA_R (mf := Mf.f18) rfl rfl (by kernel_rfl) ?_
  simp only [Mf.f18]
  simp [beqI, bneI, mm_min2, mm_max2, mm_min3, mm_max3, startE, lkE, lkX, lkE_rest, sx, substE, opVA, objs0, List.replicate, XA_seq, XA_region, XOA_go, goE_someA, opV, ev, putA, layAll, XOA_nil, XA_skip_seq, XA_skip_nil, XOA_gd, goG_tA, goG_uA, binV, bi_add, bi_sub, bi_mul, bi_quo, bi_rem, bi_eql, bi_neq, bi_lss, bi_leq, bi_gtr, bi_geq, bi_shl, bi_shr, bi_and, bi_or, bi_xor, unV, XA_ret_nil, XA_ret_cons, endFA_r, endFA_n, endTA_r, endTA_n, endRA_r, endRA_n, endEA_r, endEA_n, List.take, fltR, resultsA, resAs, resA, XA_block, XA_cond, pickX_t, pickX_f, pickX_b, XA_skip_blk, XA_skip_lp, XA_exit_seq, XA_exit_lp, XA_exit_blk, XA_exit_nil, load1, Ev.loadCells, objCells, bodyCells, setCells, AV.flat, AV.flat1, backR, backV, backCell, mapO, AV.cells, AV.atom, AV.tree, fillV, repeatL, treeCell, freezeAll, eqCells, callV_T, callV_F, passN, passV, passCell, srcCells, sliceBounds, hiB, loB, thenQ_nA, thenQ_xA, thenQ_rA, runK_nA, runK_xA, runK_rA, wrap_i64, wrap_u64, wrap_u32, wrap_u8, wrap_u16, callV_O, okIds, passObjs, passBody, backObjs, backBody, adopts, List.idxOf?, List.findIdx?, List.findIdx?.go, isNilP, mapLook, mapGet, keyGet, adopts, List.lookup, callV_R, backBody, w0, ep]
  refine XA_for (fun i => ⟨[(0, .ro l.length fl), (3, .own 0 0 0 (batI D l i).length 1), (4, .int .i64 i)], [⟨0, .row true 1 ((batI D l i).map (.int .u8))⟩]⟩)
    (fun _ => True) l.length 0 (Nat.zero_le _) (by simp [AV.atom, normA, lkE, fixObjs, fixBody, fixV, fixCell, hB0]) trivial ?_ ?_
  · intro i _ hi _
    have hi' : (i : Int) < l.length := by omega
    have d := hd i hi
    have ws := wrap_succ i l.length hi (by omega)
    have hb := hB i hi
    have hbl := hBl i
    have eb := eb i hi
    have hrl := hrl i hi
    rw [hb]
    generalize batI D l i = X at *
    generalize l[i] = p at *
    obtain ⟨b, p⟩ := p
    simp only [chC, rowC, List.cons_append, List.nil_append, rB] at d eb hrl ⊢
    generalize rowB p = Y at *
    have q1 : X.length + 1 ≤ 140737488355328 := by omega
    have q2 : X.length + 1 < 4611686018427387904 := by omega
    have q3 : X.length + 1 + Y.length ≤ 140737488355328 := by omega
    have q4 : X.length + 1 + Y.length < 4611686018427387904 := by omega
    have q5 : X.length + (Y.length + 1) = X.length + 1 + Y.length := by omega
    cases b
    · simp [beqI, bneI, mm_min2, mm_max2, mm_min3, mm_max3, startE, lkE, lkX, lkE_rest, sx, substE, opVA, objs0, List.replicate, XA_seq, XA_region, XOA_go, goE_someA, opV, ev, putA, layAll, XOA_nil, XA_skip_seq, XA_skip_nil, XOA_gd, goG_tA, goG_uA, binV, bi_add, bi_sub, bi_mul, bi_quo, bi_rem, bi_eql, bi_neq, bi_lss, bi_leq, bi_gtr, bi_geq, bi_shl, bi_shr, bi_and, bi_or, bi_xor, unV, XA_ret_nil, XA_ret_cons, endFA_r, endFA_n, endTA_r, endTA_n, endRA_r, endRA_n, endEA_r, endEA_n, List.take, fltR, resultsA, resAs, resA, XA_block, XA_cond, pickX_t, pickX_f, pickX_b, XA_skip_blk, XA_skip_lp, XA_exit_seq, XA_exit_lp, XA_exit_blk, XA_exit_nil, load1, Ev.loadCells, objCells, bodyCells, setCells, AV.flat, AV.flat1, backR, backV, backCell, mapO, AV.cells, AV.atom, AV.tree, fillV, repeatL, treeCell, freezeAll, eqCells, callV_T, callV_F, passN, passV, passCell, srcCells, sliceBounds, hiB, loB, thenQ_nA, thenQ_xA, thenQ_rA, runK_nA, runK_xA, runK_rA, wrap_i64, wrap_u64, wrap_u32, wrap_u8, wrap_u16, callV_O, okIds, passObjs, passBody, backObjs, backBody, adopts, List.idxOf?, List.findIdx?, List.findIdx?.go, isNilP, mapLook, mapGet, keyGet, adopts, List.lookup, AV.atom, normA, lkE, fixObjs, fixBody, fixV, fixCell, hi, hi', d, hfl, eb, ws, q1, q2, q3, q4, q5, dB]
    · simp [beqI, bneI, mm_min2, mm_max2, mm_min3, mm_max3, startE, lkE, lkX, lkE_rest, sx, substE, opVA, objs0, List.replicate, XA_seq, XA_region, XOA_go, goE_someA, opV, ev, putA, layAll, XOA_nil, XA_skip_seq, XA_skip_nil, XOA_gd, goG_tA, goG_uA, binV, bi_add, bi_sub, bi_mul, bi_quo, bi_rem, bi_eql, bi_neq, bi_lss, bi_leq, bi_gtr, bi_geq, bi_shl, bi_shr, bi_and, bi_or, bi_xor, unV, XA_ret_nil, XA_ret_cons, endFA_r, endFA_n, endTA_r, endTA_n, endRA_r, endRA_n, endEA_r, endEA_n, List.take, fltR, resultsA, resAs, resA, XA_block, XA_cond, pickX_t, pickX_f, pickX_b, XA_skip_blk, XA_skip_lp, XA_exit_seq, XA_exit_lp, XA_exit_blk, XA_exit_nil, load1, Ev.loadCells, objCells, bodyCells, setCells, AV.flat, AV.flat1, backR, backV, backCell, mapO, AV.cells, AV.atom, AV.tree, fillV, repeatL, treeCell, freezeAll, eqCells, callV_T, callV_F, passN, passV, passCell, srcCells, sliceBounds, hiB, loB, thenQ_nA, thenQ_xA, thenQ_rA, runK_nA, runK_xA, runK_rA, wrap_i64, wrap_u64, wrap_u32, wrap_u8, wrap_u16, callV_O, okIds, passObjs, passBody, backObjs, backBody, adopts, List.idxOf?, List.findIdx?, List.findIdx?.go, isNilP, mapLook, mapGet, keyGet, adopts, List.lookup, AV.atom, normA, lkE, fixObjs, fixBody, fixV, fixCell, hi, hi', d, hfl, eb, ws, q1, q2, q3, q4, q5, dB]
  · intro _
    generalize batI D l l.length = X at *
    have ht : List.take X.length (X.map (AV.int .u8)) = X.map (.int .u8) := List.take_of_length_le (by simp)
    simp [beqI, bneI, mm_min2, mm_max2, mm_min3, mm_max3, startE, lkE, lkX, lkE_rest, sx, substE, opVA, objs0, List.replicate, XA_seq, XA_region, XOA_go, goE_someA, opV, ev, putA, layAll, XOA_nil, XA_skip_seq, XA_skip_nil, XOA_gd, goG_tA, goG_uA, binV, bi_add, bi_sub, bi_mul, bi_quo, bi_rem, bi_eql, bi_neq, bi_lss, bi_leq, bi_gtr, bi_geq, bi_shl, bi_shr, bi_and, bi_or, bi_xor, unV, XA_ret_nil, XA_ret_cons, endFA_r, endFA_n, endTA_r, endTA_n, endRA_r, endRA_n, endEA_r, endEA_n, List.take, fltR, resultsA, resAs, resA, XA_block, XA_cond, pickX_t, pickX_f, pickX_b, XA_skip_blk, XA_skip_lp, XA_exit_seq, XA_exit_lp, XA_exit_blk, XA_exit_nil, load1, Ev.loadCells, objCells, bodyCells, setCells, AV.flat, AV.flat1, backR, backV, backCell, mapO, AV.cells, AV.atom, AV.tree, fillV, repeatL, treeCell, freezeAll, eqCells, callV_T, callV_F, passN, passV, passCell, srcCells, sliceBounds, hiB, loB, thenQ_nA, thenQ_xA, thenQ_rA, runK_nA, runK_xA, runK_rA, wrap_i64, wrap_u64, wrap_u32, wrap_u8, wrap_u16, callV_O, okIds, passObjs, passBody, backObjs, backBody, adopts, List.idxOf?, List.findIdx?, List.findIdx?.go, isNilP, mapLook, mapGet, keyGet, adopts, List.lookup, AV.atom, normA, lkE, fixObjs, fixBody, fixV, fixCell, rB, ht]
theorem rbytes_ev (l : List Ch) (hl : okH l) (hn : l.length ≤ 100) : cvT tabC 18 [rH l] = some (rB (batB l)) := by
  have e := rbytes_cf l hl hn
  unfold cvT
  rw [e]
  generalize batB l = X
  have ht : List.take X.length (X.map (AV.int .u8)) = X.map (.int .u8) := List.take_of_length_le (by simp)
  simp [beqI, bneI, mm_min2, mm_max2, mm_min3, mm_max3, startE, lkE, lkX, lkE_rest, sx, substE, opVA, objs0, List.replicate, XA_seq, XA_region, XOA_go, goE_someA, opV, ev, putA, layAll, XOA_nil, XA_skip_seq, XA_skip_nil, XOA_gd, goG_tA, goG_uA, binV, bi_add, bi_sub, bi_mul, bi_quo, bi_rem, bi_eql, bi_neq, bi_lss, bi_leq, bi_gtr, bi_geq, bi_shl, bi_shr, bi_and, bi_or, bi_xor, unV, XA_ret_nil, XA_ret_cons, endFA_r, endFA_n, endTA_r, endTA_n, endRA_r, endRA_n, endEA_r, endEA_n, List.take, fltR, resultsA, resAs, resA, XA_block, XA_cond, pickX_t, pickX_f, pickX_b, XA_skip_blk, XA_skip_lp, XA_exit_seq, XA_exit_lp, XA_exit_blk, XA_exit_nil, load1, Ev.loadCells, objCells, bodyCells, setCells, AV.flat, AV.flat1, backR, backV, backCell, mapO, AV.cells, AV.atom, AV.tree, fillV, repeatL, treeCell, freezeAll, eqCells, callV_T, callV_F, passN, passV, passCell, srcCells, sliceBounds, hiB, loB, thenQ_nA, thenQ_xA, thenQ_rA, runK_nA, runK_xA, runK_rA, wrap_i64, wrap_u64, wrap_u32, wrap_u8, wrap_u16, callV_O, okIds, passObjs, passBody, backObjs, backBody, adopts, List.idxOf?, List.findIdx?, List.findIdx?.go, isNilP, mapLook, mapGet, keyGet, adopts, List.lookup, backR, backV, backCell, rB, ht]
end Go.Proofs.Ytpohmfihpnineaa
