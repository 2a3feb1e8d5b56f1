/- Queries as bytes: the document's. -/
import Derived.Test.YtambpbcdnhekbaaQG
set_option linter.unusedSimpArgs false
set_option linter.unusedVariables false
set_option maxHeartbeats 8000000
set_option maxRecDepth 100000
namespace Go.Proofs.Ytambpbcdnhekbaa
open Go.Ev
def tO (l : List Int) : Bool := !l.any badN
def tB (P l : List Int) : List Int := if tO l = true then P ++ l.flatMap digU else []
def tV (P l : List Int) : List AV := [rB (tB P l), .bool (tO l)]
theorem tO_snoc (l : List Int) (n : Int) : tO (l ++ [n]) = (tO l && !badN n) := by
  unfold tO; rw [List.any_append]; simp
theorem tB_len (P l : List Int) : (tB P l).length ≤ P.length + 10 * l.length := by
  unfold tB
  have := flatU_len l
  split
  · rw [List.length_append]; omega
  · simp
theorem rnum_ev (P l : List Int) (n : Int) (hP : P.length + 10 * l.length ≤ 90000000) :
    cvT tab 45 [.agg (tV P l), .int .i64 n] = some (.agg (tV P (l ++ [n]))) := by
  refine cvTA_R (mf := Mf.f45) rfl rfl (by kernel_rfl) ?_
  simp only [Mf.f45]
  have hlen := tB_len P l
  have hs := tO_snoc l n
  have hb : tB P (l ++ [n]) = if tO (l ++ [n]) = true then tB P l ++ digU n else [] := by
    unfold tB
    rw [hs]
    cases tO l <;> cases badN n <;> simp
  unfold tV
  rw [hb, hs]
  clear hb hs
  generalize tB P l = B at *
  have hbn : badN n = !(decide (0 ≤ n) && decide (n ≤ 2147483647)) := rfl
  cases tO l with
  | false => simp [beqI, bneI, mm_min2, mm_max2, mm_min3, mm_max3, startE, lkE, lkX, lkE_rest, sx, substE, opVA, objs0, List.replicate, XA_seq, XA_region, XOA_go, goE_someA, opV, ev, putA, layAll, XOA_nil, XA_skip_seq, XA_skip_nil, XOA_gd, goG_tA, goG_uA, binV, bi_add, bi_sub, bi_mul, bi_quo, bi_rem, bi_eql, bi_neq, bi_lss, bi_leq, bi_gtr, bi_geq, bi_shl, bi_shr, bi_and, bi_or, bi_xor, unV, XA_ret_nil, XA_ret_cons, endFA_r, endFA_n, endTA_r, endTA_n, endRA_r, endRA_n, fltR, resultsA, resAs, resA, XA_block, XA_cond, pickX_t, pickX_f, pickX_b, XA_skip_blk, XA_skip_lp, XA_exit_seq, XA_exit_lp, XA_exit_blk, XA_exit_nil, load1, Ev.loadCells, objCells, bodyCells, setCells, AV.flat, AV.flat1, backR, backV, backCell, mapO, AV.cells, AV.atom, AV.tree, fillV, repeatL, treeCell, freezeAll, eqCells, callV_T, callV_F, passN, passV, passCell, srcCells, sliceBounds, hiB, loB, thenQ_nA, thenQ_xA, thenQ_rA, runK_nA, runK_xA, runK_rA, wrap_i64, wrap_u64, wrap_u32, wrap_u8, wrap_u16, XA_round, normA, lkE, fixObjs, fixBody, fixV, fixCell, goN_someA, rB]
  | true =>
    by_cases c1 : 0 ≤ n
    · have c1' : ¬ n < 0 := by omega
      by_cases c2 : n ≤ 2147483647
      · have c2' : ¬ 2147483647 < n := by omega
        rw [decide_eq_true c1, decide_eq_true c2] at hbn
        simp at hbn
        obtain ⟨u, rfl⟩ : ∃ u : Nat, n = u := ⟨n.toNat, by omega⟩
        have hw : IntKind.u64.wrap (u : Int) = u := wrap_u64 (by omega) (by omega)
        have e1 := digits_ev u (by omega)
        have hl := digN_ten (u := u) (by omega)
        have e2 := bytes_ev B (digN u) (by omega) (by omega)
        have hd : digU (u : Int) = digN u := by unfold digU; rw [hw]; simp
        simp only [rB] at e1 e2
        simp [beqI, bneI, mm_min2, mm_max2, mm_min3, mm_max3, startE, lkE, lkX, lkE_rest, sx, substE, opVA, objs0, List.replicate, XA_seq, XA_region, XOA_go, goE_someA, opV, ev, putA, layAll, XOA_nil, XA_skip_seq, XA_skip_nil, XOA_gd, goG_tA, goG_uA, binV, bi_add, bi_sub, bi_mul, bi_quo, bi_rem, bi_eql, bi_neq, bi_lss, bi_leq, bi_gtr, bi_geq, bi_shl, bi_shr, bi_and, bi_or, bi_xor, unV, XA_ret_nil, XA_ret_cons, endFA_r, endFA_n, endTA_r, endTA_n, endRA_r, endRA_n, fltR, resultsA, resAs, resA, XA_block, XA_cond, pickX_t, pickX_f, pickX_b, XA_skip_blk, XA_skip_lp, XA_exit_seq, XA_exit_lp, XA_exit_blk, XA_exit_nil, load1, Ev.loadCells, objCells, bodyCells, setCells, AV.flat, AV.flat1, backR, backV, backCell, mapO, AV.cells, AV.atom, AV.tree, fillV, repeatL, treeCell, freezeAll, eqCells, callV_T, callV_F, passN, passV, passCell, srcCells, sliceBounds, hiB, loB, thenQ_nA, thenQ_xA, thenQ_rA, runK_nA, runK_xA, runK_rA, wrap_i64, wrap_u64, wrap_u32, wrap_u8, wrap_u16, rB, c1', c2', hbn, hw, e1, e2, hd]
      · have c2' : 2147483647 < n := by omega
        rw [decide_eq_false c2] at hbn
        simp at hbn
        simp [beqI, bneI, mm_min2, mm_max2, mm_min3, mm_max3, startE, lkE, lkX, lkE_rest, sx, substE, opVA, objs0, List.replicate, XA_seq, XA_region, XOA_go, goE_someA, opV, ev, putA, layAll, XOA_nil, XA_skip_seq, XA_skip_nil, XOA_gd, goG_tA, goG_uA, binV, bi_add, bi_sub, bi_mul, bi_quo, bi_rem, bi_eql, bi_neq, bi_lss, bi_leq, bi_gtr, bi_geq, bi_shl, bi_shr, bi_and, bi_or, bi_xor, unV, XA_ret_nil, XA_ret_cons, endFA_r, endFA_n, endTA_r, endTA_n, endRA_r, endRA_n, fltR, resultsA, resAs, resA, XA_block, XA_cond, pickX_t, pickX_f, pickX_b, XA_skip_blk, XA_skip_lp, XA_exit_seq, XA_exit_lp, XA_exit_blk, XA_exit_nil, load1, Ev.loadCells, objCells, bodyCells, setCells, AV.flat, AV.flat1, backR, backV, backCell, mapO, AV.cells, AV.atom, AV.tree, fillV, repeatL, treeCell, freezeAll, eqCells, callV_T, callV_F, passN, passV, passCell, srcCells, sliceBounds, hiB, loB, thenQ_nA, thenQ_xA, thenQ_rA, runK_nA, runK_xA, runK_rA, wrap_i64, wrap_u64, wrap_u32, wrap_u8, wrap_u16, rB, c1', c2', hbn]
    · have c1' : n < 0 := by omega
      rw [decide_eq_false c1] at hbn
      simp at hbn
      simp [beqI, bneI, mm_min2, mm_max2, mm_min3, mm_max3, startE, lkE, lkX, lkE_rest, sx, substE, opVA, objs0, List.replicate, XA_seq, XA_region, XOA_go, goE_someA, opV, ev, putA, layAll, XOA_nil, XA_skip_seq, XA_skip_nil, XOA_gd, goG_tA, goG_uA, binV, bi_add, bi_sub, bi_mul, bi_quo, bi_rem, bi_eql, bi_neq, bi_lss, bi_leq, bi_gtr, bi_geq, bi_shl, bi_shr, bi_and, bi_or, bi_xor, unV, XA_ret_nil, XA_ret_cons, endFA_r, endFA_n, endTA_r, endTA_n, endRA_r, endRA_n, fltR, resultsA, resAs, resA, XA_block, XA_cond, pickX_t, pickX_f, pickX_b, XA_skip_blk, XA_skip_lp, XA_exit_seq, XA_exit_lp, XA_exit_blk, XA_exit_nil, load1, Ev.loadCells, objCells, bodyCells, setCells, AV.flat, AV.flat1, backR, backV, backCell, mapO, AV.cells, AV.atom, AV.tree, fillV, repeatL, treeCell, freezeAll, eqCells, callV_T, callV_F, passN, passV, passCell, srcCells, sliceBounds, hiB, loB, thenQ_nA, thenQ_xA, thenQ_rA, runK_nA, runK_xA, runK_rA, wrap_i64, wrap_u64, wrap_u32, wrap_u8, wrap_u16, rB, c1', hbn]
def textA (q : Qy) : AV := .agg [rB (bytesQ q), .bool (okT q)]
def qnl (t n : Nat) : AV := if n = 0 then .nilsl else .own t 0 0 n 1
def qnlO (n : Nat) (cs : List AV) : AObj := if n = 0 then ⟨0, .none⟩ else ⟨0, .row true 1 cs⟩
theorem rbytes_ev (q : Qy) (hL : lightQ q = true) : cvT tab 19 [.agg (qyC q)] = some (textA q) := by
  refine cvTA_R (mf := Mf.f19) rfl rfl (by kernel_rfl) ?_
  simp only [Mf.f19]
  obtain ⟨hL1, hL2⟩ := light_parts hL
  have hfin : textA q = .agg (tV q.n (numsQ q)) := rfl
  rw [hfin]
  obtain ⟨a, b, c, e, F, t, me, fn, li⟩ := q
  simp only at hL1 hL2
  have hpre : ∀ i, ((F.take i).flatMap numsF).length ≤ 630 := fun i => by
    have h1 := numsF_le (F := F.take i) (fun f hf => hL2 f (List.mem_of_mem_take hf))
    have h2 : (F.take i).length ≤ F.length := by rw [List.length_take]; omega
    omega
  have hfn : numsQ ⟨a, b, c, e, F, t, me, fn, li⟩ = [(F.length : Int)] ++ (F.flatMap numsF ++ [t, me, fn, li]) := rfl
  rw [hfn, ← List.append_assoc]
  simp only [Qy.n]
  obtain ⟨P, hP⟩ : ∃ x : List Int, [a, b, c, e] = x := ⟨_, rfl⟩
  obtain ⟨Z, hZ⟩ : ∃ Z, AV.agg (tV [a, b, c, e] ([(F.length : Int)] ++ F.flatMap numsF ++ [t, me, fn, li])) = Z := ⟨_, rfl⟩
  rw [hZ]
  simp only [qyC]
  simp [beqI, bneI, mm_min2, mm_max2, mm_min3, mm_max3, startE, lkE, lkX, lkE_rest, sx, substE, opVA, objs0, List.replicate, XA_seq, XA_region, XOA_go, goE_someA, opV, ev, putA, layAll, XOA_nil, XA_skip_seq, XA_skip_nil, XOA_gd, goG_tA, goG_uA, binV, bi_add, bi_sub, bi_mul, bi_quo, bi_rem, bi_eql, bi_neq, bi_lss, bi_leq, bi_gtr, bi_geq, bi_shl, bi_shr, bi_and, bi_or, bi_xor, unV, XA_ret_nil, XA_ret_cons, endFA_r, endFA_n, endTA_r, endTA_n, endRA_r, endRA_n, fltR, resultsA, resAs, resA, XA_block, XA_cond, pickX_t, pickX_f, pickX_b, XA_skip_blk, XA_skip_lp, XA_exit_seq, XA_exit_lp, XA_exit_blk, XA_exit_nil, load1, Ev.loadCells, objCells, bodyCells, setCells, AV.flat, AV.flat1, backR, backV, backCell, mapO, AV.cells, AV.atom, AV.tree, fillV, repeatL, treeCell, freezeAll, eqCells, callV_T, callV_F, passN, passV, passCell, srcCells, sliceBounds, hiB, loB, thenQ_nA, thenQ_xA, thenQ_rA, runK_nA, runK_xA, runK_rA, wrap_i64, wrap_u64, wrap_u32, wrap_u8, wrap_u16]
  refine XA_for (fun i => ⟨[(1, .ptr 0 0 0), (2, .ptr 1 0 0), (3, .ptr 2 0 0), (4, .int .i64 i)], [⟨0, .var [.int .u8 a, .int .u8 b, .int .u8 c, .int .u8 e, .ro F.length (flatF F), .int .i64 t, .int .i64 me, .int .i64 fn, .int .i64 li]⟩, ⟨0, .var [.nilsl, .bool false]⟩, ⟨0, .var [qnl 3 i, .bool true]⟩, qnlO i (([a, b, c, e].take i).map (.int .u8)), ⟨0, .none⟩]⟩)
    (fun _ => True) 4 0 (Nat.zero_le _) (by simp [AV.atom, normA, lkE, fixObjs, fixBody, fixV, fixCell, qnl, qnlO]) trivial ?_ ?_
  · intro i _ hi _
    have h4 : i = 0 ∨ i = 1 ∨ i = 2 ∨ i = 3 := by omega
    rcases h4 with rfl | rfl | rfl | rfl <;> simp [beqI, bneI, mm_min2, mm_max2, mm_min3, mm_max3, startE, lkE, lkX, lkE_rest, sx, substE, opVA, objs0, List.replicate, XA_seq, XA_region, XOA_go, goE_someA, opV, ev, putA, layAll, XOA_nil, XA_skip_seq, XA_skip_nil, XOA_gd, goG_tA, goG_uA, binV, bi_add, bi_sub, bi_mul, bi_quo, bi_rem, bi_eql, bi_neq, bi_lss, bi_leq, bi_gtr, bi_geq, bi_shl, bi_shr, bi_and, bi_or, bi_xor, unV, XA_ret_nil, XA_ret_cons, endFA_r, endFA_n, endTA_r, endTA_n, endRA_r, endRA_n, fltR, resultsA, resAs, resA, XA_block, XA_cond, pickX_t, pickX_f, pickX_b, XA_skip_blk, XA_skip_lp, XA_exit_seq, XA_exit_lp, XA_exit_blk, XA_exit_nil, load1, Ev.loadCells, objCells, bodyCells, setCells, AV.flat, AV.flat1, backR, backV, backCell, mapO, AV.cells, AV.atom, AV.tree, fillV, repeatL, treeCell, freezeAll, eqCells, callV_T, callV_F, passN, passV, passCell, srcCells, sliceBounds, hiB, loB, thenQ_nA, thenQ_xA, thenQ_rA, runK_nA, runK_xA, runK_rA, wrap_i64, wrap_u64, wrap_u32, wrap_u8, wrap_u16, AV.atom, normA, lkE, fixObjs, fixBody, fixV, fixCell, qnl, qnlO]
  · intro _
    have e1 := rnum_ev [a, b, c, e] [] F.length (by simp)
    have ht0 : tV [a, b, c, e] [] = [rB [a, b, c, e], .bool true] := rfl
    rw [ht0, List.nil_append] at e1
    rw [hP] at e1 hZ
    simp only [tV] at e1
    have e1' := e1
    rw [← hP] at e1'
    simp [rB] at e1'
    simp [beqI, bneI, mm_min2, mm_max2, mm_min3, mm_max3, startE, lkE, lkX, lkE_rest, sx, substE, opVA, objs0, List.replicate, XA_seq, XA_region, XOA_go, goE_someA, opV, ev, putA, layAll, XOA_nil, XA_skip_seq, XA_skip_nil, XOA_gd, goG_tA, goG_uA, binV, bi_add, bi_sub, bi_mul, bi_quo, bi_rem, bi_eql, bi_neq, bi_lss, bi_leq, bi_gtr, bi_geq, bi_shl, bi_shr, bi_and, bi_or, bi_xor, unV, XA_ret_nil, XA_ret_cons, endFA_r, endFA_n, endTA_r, endTA_n, endRA_r, endRA_n, fltR, resultsA, resAs, resA, XA_block, XA_cond, pickX_t, pickX_f, pickX_b, XA_skip_blk, XA_skip_lp, XA_exit_seq, XA_exit_lp, XA_exit_blk, XA_exit_nil, load1, Ev.loadCells, objCells, bodyCells, setCells, AV.flat, AV.flat1, backR, backV, backCell, mapO, AV.cells, AV.atom, AV.tree, fillV, repeatL, treeCell, freezeAll, eqCells, callV_T, callV_F, passN, passV, passCell, srcCells, sliceBounds, hiB, loB, thenQ_nA, thenQ_xA, thenQ_rA, runK_nA, runK_xA, runK_rA, wrap_i64, wrap_u64, wrap_u32, wrap_u8, wrap_u16, AV.atom, normA, lkE, fixObjs, fixBody, fixV, fixCell, qnl, qnlO, e1']
    refine XA_for (fun i => ⟨[(1, .ptr 0 0 0), (2, .ptr 1 0 0), (3, .ptr 2 0 0), (5, .int .i64 i)], [⟨0, .var [.int .u8 a, .int .u8 b, .int .u8 c, .int .u8 e, .ro F.length (flatF F), .int .i64 t, .int .i64 me, .int .i64 fn, .int .i64 li]⟩, ⟨0, .var [.nilsl, .bool false]⟩, ⟨0, .var (tV P ([(F.length : Int)] ++ (F.take i).flatMap numsF))⟩, ⟨0, .row false 1 [.int .u8 a, .int .u8 b, .int .u8 c, .int .u8 e]⟩, ⟨0, .none⟩]⟩)
      (fun _ => True) F.length 0 (Nat.zero_le _) (by simp [AV.atom, normA, lkE, fixObjs, fixBody, fixV, fixCell, tV, rB, hP]) trivial ?_ ?_
    · intro i _ hi _
      have hi' : (i : Int) < F.length := by omega
      have hdr := dropF' F i hi
      have hws := wrap_succ i F.length hi (by omega)
      have hm := hL2 _ (List.getElem_mem hi)
      have hpi := hpre i
      have hPl : P.length = 4 := by rw [← hP]; rfl
      rw [numsF_take F i hi]
      generalize F[i] = f at *
      obtain ⟨d, l, ms⟩ := f
      simp only at hm hdr
      rw [show numsF ⟨d, l, ms⟩ = [d] ++ [l] ++ [(ms.length : Int)] ++ ms from rfl]
      have hXl : ([(F.length : Int)] ++ (F.take i).flatMap numsF).length ≤ 631 := by rw [List.length_append]; simp only [List.length_cons, List.length_nil]; omega
      rw [← List.append_assoc, ← List.append_assoc, ← List.append_assoc, ← List.append_assoc]
      generalize [(F.length : Int)] ++ (F.take i).flatMap numsF = X at *
      have w1 := rnum_ev P X d (by omega)
      have w2 := rnum_ev P (X ++ [d]) l (by simp only [List.length_append, List.length_cons, List.length_nil]; omega)
      have w3 := rnum_ev P (X ++ [d] ++ [l]) (ms.length : Int) (by simp only [List.length_append, List.length_cons, List.length_nil]; omega)
      have hYl : (X ++ [d] ++ [l] ++ [(ms.length : Int)]).length ≤ 634 := by simp only [List.length_append, List.length_cons, List.length_nil]; omega
      generalize X ++ [d] ++ [l] ++ [(ms.length : Int)] = Y at *
      generalize X ++ [d] ++ [l] = Y2 at *
      generalize X ++ [d] = Y1 at *
      simp only [tV, rB] at w1 w2 w3
      simp only [rI] at hdr
      simp [beqI, bneI, mm_min2, mm_max2, mm_min3, mm_max3, startE, lkE, lkX, lkE_rest, sx, substE, opVA, objs0, List.replicate, XA_seq, XA_region, XOA_go, goE_someA, opV, ev, putA, layAll, XOA_nil, XA_skip_seq, XA_skip_nil, XOA_gd, goG_tA, goG_uA, binV, bi_add, bi_sub, bi_mul, bi_quo, bi_rem, bi_eql, bi_neq, bi_lss, bi_leq, bi_gtr, bi_geq, bi_shl, bi_shr, bi_and, bi_or, bi_xor, unV, XA_ret_nil, XA_ret_cons, endFA_r, endFA_n, endTA_r, endTA_n, endRA_r, endRA_n, fltR, resultsA, resAs, resA, XA_block, XA_cond, pickX_t, pickX_f, pickX_b, XA_skip_blk, XA_skip_lp, XA_exit_seq, XA_exit_lp, XA_exit_blk, XA_exit_nil, load1, Ev.loadCells, objCells, bodyCells, setCells, AV.flat, AV.flat1, backR, backV, backCell, mapO, AV.cells, AV.atom, AV.tree, fillV, repeatL, treeCell, freezeAll, eqCells, callV_T, callV_F, passN, passV, passCell, srcCells, sliceBounds, hiB, loB, thenQ_nA, thenQ_xA, thenQ_rA, runK_nA, runK_xA, runK_rA, wrap_i64, wrap_u64, wrap_u32, wrap_u8, wrap_u16, AV.atom, normA, lkE, fixObjs, fixBody, fixV, fixCell, tV, rB, hi', hi, hdr, w1, w2, w3]
      refine XA_for (fun k => ⟨[(1, .ptr 0 0 0), (2, .ptr 1 0 0), (3, .ptr 2 0 0), (5, .int .i64 i), (6, .ptr 4 0 0), (7, .int .i64 k)], [⟨0, .var [.int .u8 a, .int .u8 b, .int .u8 c, .int .u8 e, .ro F.length (flatF F), .int .i64 t, .int .i64 me, .int .i64 fn, .int .i64 li]⟩, ⟨0, .var [.nilsl, .bool false]⟩, ⟨0, .var (tV P (Y ++ ms.take k))⟩, ⟨0, .row false 1 [.int .u8 a, .int .u8 b, .int .u8 c, .int .u8 e]⟩, ⟨0, .var [.int .i64 d, .int .i64 l, rI ms]⟩]⟩)
        (fun _ => True) ms.length 0 (Nat.zero_le _) (by simp [AV.atom, normA, lkE, fixObjs, fixBody, fixV, fixCell, tV, rB, rI]) trivial ?_ ?_
      · intro k _ hk _
        have hk' : (k : Int) < ms.length := by omega
        have hws2 := wrap_succ k ms.length hk (by omega)
        have ix := idxI ms k hk
        have htk : ms.take (k + 1) = ms.take k ++ [ms[k]] := List.take_succ_eq_append_getElem hk
        have htl : (ms.take k).length ≤ 60 := by rw [List.length_take]; omega
        rw [htk, ← List.append_assoc]
        have hZl : (Y ++ ms.take k).length ≤ 700 := by rw [List.length_append]; omega
        generalize Y ++ ms.take k = Z2 at *
        generalize ms[k] = n at *
        have w4 := rnum_ev P Z2 n (by omega)
        simp only [tV, rB] at w4
        simp [beqI, bneI, mm_min2, mm_max2, mm_min3, mm_max3, startE, lkE, lkX, lkE_rest, sx, substE, opVA, objs0, List.replicate, XA_seq, XA_region, XOA_go, goE_someA, opV, ev, putA, layAll, XOA_nil, XA_skip_seq, XA_skip_nil, XOA_gd, goG_tA, goG_uA, binV, bi_add, bi_sub, bi_mul, bi_quo, bi_rem, bi_eql, bi_neq, bi_lss, bi_leq, bi_gtr, bi_geq, bi_shl, bi_shr, bi_and, bi_or, bi_xor, unV, XA_ret_nil, XA_ret_cons, endFA_r, endFA_n, endTA_r, endTA_n, endRA_r, endRA_n, fltR, resultsA, resAs, resA, XA_block, XA_cond, pickX_t, pickX_f, pickX_b, XA_skip_blk, XA_skip_lp, XA_exit_seq, XA_exit_lp, XA_exit_blk, XA_exit_nil, load1, Ev.loadCells, objCells, bodyCells, setCells, AV.flat, AV.flat1, backR, backV, backCell, mapO, AV.cells, AV.atom, AV.tree, fillV, repeatL, treeCell, freezeAll, eqCells, callV_T, callV_F, passN, passV, passCell, srcCells, sliceBounds, hiB, loB, thenQ_nA, thenQ_xA, thenQ_rA, runK_nA, runK_xA, runK_rA, wrap_i64, wrap_u64, wrap_u32, wrap_u8, wrap_u16, AV.atom, normA, lkE, fixObjs, fixBody, fixV, fixCell, tV, rB, rI, hk', hk, ix, hws2, w4]
      · intro _
        rw [List.take_length]
        simp [beqI, bneI, mm_min2, mm_max2, mm_min3, mm_max3, startE, lkE, lkX, lkE_rest, sx, substE, opVA, objs0, List.replicate, XA_seq, XA_region, XOA_go, goE_someA, opV, ev, putA, layAll, XOA_nil, XA_skip_seq, XA_skip_nil, XOA_gd, goG_tA, goG_uA, binV, bi_add, bi_sub, bi_mul, bi_quo, bi_rem, bi_eql, bi_neq, bi_lss, bi_leq, bi_gtr, bi_geq, bi_shl, bi_shr, bi_and, bi_or, bi_xor, unV, XA_ret_nil, XA_ret_cons, endFA_r, endFA_n, endTA_r, endTA_n, endRA_r, endRA_n, fltR, resultsA, resAs, resA, XA_block, XA_cond, pickX_t, pickX_f, pickX_b, XA_skip_blk, XA_skip_lp, XA_exit_seq, XA_exit_lp, XA_exit_blk, XA_exit_nil, load1, Ev.loadCells, objCells, bodyCells, setCells, AV.flat, AV.flat1, backR, backV, backCell, mapO, AV.cells, AV.atom, AV.tree, fillV, repeatL, treeCell, freezeAll, eqCells, callV_T, callV_F, passN, passV, passCell, srcCells, sliceBounds, hiB, loB, thenQ_nA, thenQ_xA, thenQ_rA, runK_nA, runK_xA, runK_rA, wrap_i64, wrap_u64, wrap_u32, wrap_u8, wrap_u16, AV.atom, normA, lkE, fixObjs, fixBody, fixV, fixCell, tV, rB, rI, hws]
    · intro _
      rw [List.take_length]
      have hpi := numsF_le hL2
      have hPl : P.length = 4 := by rw [← hP]; rfl
      have hXl : ([(F.length : Int)] ++ F.flatMap numsF).length ≤ 631 := by rw [List.length_append]; simp only [List.length_cons, List.length_nil]; omega
      rw [show ([t, me, fn, li] : List Int) = [t] ++ [me] ++ [fn] ++ [li] from rfl, ← List.append_assoc, ← List.append_assoc, ← List.append_assoc] at hZ
      rw [← hZ]
      generalize [(F.length : Int)] ++ F.flatMap numsF = X at *
      have w1 := rnum_ev P X t (by omega)
      have w2 := rnum_ev P (X ++ [t]) me (by simp only [List.length_append, List.length_cons, List.length_nil]; omega)
      have w3 := rnum_ev P (X ++ [t] ++ [me]) fn (by simp only [List.length_append, List.length_cons, List.length_nil]; omega)
      have w4 := rnum_ev P (X ++ [t] ++ [me] ++ [fn]) li (by simp only [List.length_append, List.length_cons, List.length_nil]; omega)
      generalize X ++ [t] ++ [me] ++ [fn] ++ [li] = Y at *
      generalize X ++ [t] ++ [me] ++ [fn] = Y3 at *
      generalize X ++ [t] ++ [me] = Y2 at *
      generalize X ++ [t] = Y1 at *
      simp only [tV, rB] at w1 w2 w3 w4
      simp [beqI, bneI, mm_min2, mm_max2, mm_min3, mm_max3, startE, lkE, lkX, lkE_rest, sx, substE, opVA, objs0, List.replicate, XA_seq, XA_region, XOA_go, goE_someA, opV, ev, putA, layAll, XOA_nil, XA_skip_seq, XA_skip_nil, XOA_gd, goG_tA, goG_uA, binV, bi_add, bi_sub, bi_mul, bi_quo, bi_rem, bi_eql, bi_neq, bi_lss, bi_leq, bi_gtr, bi_geq, bi_shl, bi_shr, bi_and, bi_or, bi_xor, unV, XA_ret_nil, XA_ret_cons, endFA_r, endFA_n, endTA_r, endTA_n, endRA_r, endRA_n, fltR, resultsA, resAs, resA, XA_block, XA_cond, pickX_t, pickX_f, pickX_b, XA_skip_blk, XA_skip_lp, XA_exit_seq, XA_exit_lp, XA_exit_blk, XA_exit_nil, load1, Ev.loadCells, objCells, bodyCells, setCells, AV.flat, AV.flat1, backR, backV, backCell, mapO, AV.cells, AV.atom, AV.tree, fillV, repeatL, treeCell, freezeAll, eqCells, callV_T, callV_F, passN, passV, passCell, srcCells, sliceBounds, hiB, loB, thenQ_nA, thenQ_xA, thenQ_rA, runK_nA, runK_xA, runK_rA, wrap_i64, wrap_u64, wrap_u32, wrap_u8, wrap_u16, AV.atom, normA, lkE, fixObjs, fixBody, fixV, fixCell, tV, rB, w1, w2, w3, w4]
end Go.Proofs.Ytambpbcdnhekbaa
