/- Queries as bytes: the writer. -/
import Derived.Test.YtambpbcdnhekbaaQE
import Derived.Test.YtambpbcdnhekbaaCodeF
import Derived.Test.YtambpbcdnhekbaaMeth
set_option linter.unusedSimpArgs false
set_option linter.unusedVariables false
set_option maxHeartbeats 8000000
set_option maxRecDepth 100000
namespace Go.Proofs.Ytambpbcdnhekbaa
open Go.Ev
def badN (n : Int) : Bool := !(decide (0 ≤ n) && decide (n ≤ 2147483647))
def digU (n : Int) : List Int := digN (IntKind.u64.wrap n).toNat
theorem u64_wrap (n : Int) : 0 ≤ IntKind.u64.wrap n ∧ IntKind.u64.wrap n < 18446744073709551616 := by
  have h : IntKind.u64.wrap n = n % 18446744073709551616 := by simp [IntKind.wrap, IntKind.bits, IntKind.signed]
  rw [h]
  omega
theorem digU_len (n : Int) : (digU n).length ≤ 10 := digN_ten (by have := u64_wrap n; omega)
theorem flatU_len (l : List Int) : (l.flatMap digU).length ≤ 10 * l.length := by
  induction l with
  | nil => simp
  | cons x l ih =>
    have := digU_len x
    rw [List.flatMap_cons, List.length_append, List.length_cons]; omega
theorem qput_ev (b : List Int) (n : Int) (hb : b.length ≤ 100000000) : cvT tab 62 [rB b, .int .u64 (IntKind.u64.wrap n)] = some (rB (b ++ digU n)) := by
  have h := u64_wrap n
  have e := put_ev b (IntKind.u64.wrap n).toNat hb (by omega)
  rw [Int.toNat_of_nonneg h.1] at e
  exact e
theorem flat_take_succ {α β : Type} (f : α → List β) (l : List α) (i : Nat) (h : i < l.length) : (l.take (i + 1)).flatMap f = (l.take i).flatMap f ++ f l[i] := by
  rw [List.take_add_one, List.getElem?_eq_getElem h, List.flatMap_append]; simp
theorem any_take_succ {α : Type} (p : α → Bool) (l : List α) (i : Nat) (h : i < l.length) : (l.take (i + 1)).any p = ((l.take i).any p || p l[i]) := by
  rw [List.take_add_one, List.getElem?_eq_getElem h, List.any_append]; simp
def wO (b : List Int) (bad : Bool) : AObj := ⟨0, .var [rB b, .bool bad]⟩
theorem wput_ev (b : List Int) (bad : Bool) (l : List Int) (hb : b.length + 10 * l.length ≤ 100000000) :
    cfT tab 41 [.ptr 0 0 0, rI l] [wO b bad] = some (.tup [], [wO (b ++ l.flatMap digU) (bad || l.any badN)]) := by
  refine cfTA_R (mf := Mf.f41) rfl rfl (by kernel_rfl) ?_
  simp only [Mf.f41]
  simp [beqI, bneI, mm_min2, mm_max2, mm_min3, mm_max3, startE, lkE, lkX, lkE_rest, sx, substE, opVA, objs0, List.replicate, XA_seq, XA_region, XOA_go, goE_someA, opV, ev, putA, layAll, XOA_nil, XA_skip_seq, XA_skip_nil, XOA_gd, goG_tA, goG_uA, binV, binInt, unV, XA_ret_nil, XA_ret_cons, endFA_r, endFA_n, endTA_r, endTA_n, endRA_r, endRA_n, fltR, resultsA, resAs, resA, XA_block, XA_cond, pickX_t, pickX_f, pickX_b, XA_skip_blk, XA_skip_lp, XA_exit_seq, XA_exit_lp, XA_exit_blk, XA_exit_nil, load1, Ev.loadCells, objCells, bodyCells, setCells, AV.flat, AV.flat1, backR, backV, backCell, mapO, AV.cells, AV.atom, AV.tree, fillV, repeatL, treeCell, freezeAll, eqCells, callV_T, callV_F, passN, passV, passCell, srcCells, sliceBounds, hiB, loB, thenQ_nA, thenQ_xA, thenQ_rA, runK_nA, runK_xA, runK_rA, wrap_i64, wrap_u64, wrap_u32, wrap_u8, wrap_u16, rI]
  refine XA_for (fun i => ⟨[(0, .ptr 0 0 0), (6, .ro l.length (l.map (.int .i64))), (7, .int .i64 l.length), (8, .int .i64 i)], [wO (b ++ (l.take i).flatMap digU) (bad || (l.take i).any badN)]⟩)
    (fun _ => True) l.length 0 (Nat.zero_le _) (by simp [AV.atom, normA, lkE, fixObjs, fixBody, fixV, fixCell, wO, rB]) trivial ?_ ?_
  · intro i _ hi _
    have hi' : (i : Int) < l.length := by omega
    have hws := wrap_succ i l.length hi (by omega)
    have ix := idxI l i hi
    have hlen := flatU_len (l.take i)
    have htl : (l.take i).length ≤ i := by rw [List.length_take]; omega
    rw [flat_take_succ digU l i hi, any_take_succ badN l i hi]
    rw [← List.append_assoc, ← Bool.or_assoc]
    have hB : (b ++ (l.take i).flatMap digU).length ≤ 100000000 := by rw [List.length_append]; omega
    generalize b ++ (l.take i).flatMap digU = B at *
    generalize (bad || (l.take i).any badN) = bd at *
    generalize l[i] = n at *
    have e := qput_ev B n hB
    have hbt := qbetween_ev n 0 2147483647
    have hbn : badN n = !(decide (0 ≤ n) && decide (n ≤ 2147483647)) := rfl
    rw [hbn]
    generalize (decide (0 ≤ n) && decide (n ≤ 2147483647)) = r at *
    simp only [rB] at e
    cases bd with
    | true => simp [beqI, bneI, mm_min2, mm_max2, mm_min3, mm_max3, startE, lkE, lkX, lkE_rest, sx, substE, opVA, objs0, List.replicate, XA_seq, XA_region, XOA_go, goE_someA, opV, ev, putA, layAll, XOA_nil, XA_skip_seq, XA_skip_nil, XOA_gd, goG_tA, goG_uA, binV, bi_add, bi_sub, bi_mul, bi_quo, bi_rem, bi_eql, bi_neq, bi_lss, bi_leq, bi_gtr, bi_geq, bi_shl, bi_shr, bi_and, bi_or, bi_xor, unV, XA_ret_nil, XA_ret_cons, endFA_r, endFA_n, endTA_r, endTA_n, endRA_r, endRA_n, fltR, resultsA, resAs, resA, XA_block, XA_cond, pickX_t, pickX_f, pickX_b, XA_skip_blk, XA_skip_lp, XA_exit_seq, XA_exit_lp, XA_exit_blk, XA_exit_nil, load1, Ev.loadCells, objCells, bodyCells, setCells, AV.flat, AV.flat1, backR, backV, backCell, mapO, AV.cells, AV.atom, AV.tree, fillV, repeatL, treeCell, freezeAll, eqCells, callV_T, callV_F, passN, passV, passCell, srcCells, sliceBounds, hiB, loB, thenQ_nA, thenQ_xA, thenQ_rA, runK_nA, runK_xA, runK_rA, wrap_i64, wrap_u64, wrap_u32, wrap_u8, wrap_u16, callV_O, okIds, passObjs, passBody, backObjs, backBody, adopts, List.idxOf?, List.findIdx?, List.findIdx?.go, AV.atom, normA, lkE, fixObjs, fixBody, fixV, fixCell, wO, rB, hi', ix, hws, e]
    | false => simp [beqI, bneI, mm_min2, mm_max2, mm_min3, mm_max3, startE, lkE, lkX, lkE_rest, sx, substE, opVA, objs0, List.replicate, XA_seq, XA_region, XOA_go, goE_someA, opV, ev, putA, layAll, XOA_nil, XA_skip_seq, XA_skip_nil, XOA_gd, goG_tA, goG_uA, binV, bi_add, bi_sub, bi_mul, bi_quo, bi_rem, bi_eql, bi_neq, bi_lss, bi_leq, bi_gtr, bi_geq, bi_shl, bi_shr, bi_and, bi_or, bi_xor, unV, XA_ret_nil, XA_ret_cons, endFA_r, endFA_n, endTA_r, endTA_n, endRA_r, endRA_n, fltR, resultsA, resAs, resA, XA_block, XA_cond, pickX_t, pickX_f, pickX_b, XA_skip_blk, XA_skip_lp, XA_exit_seq, XA_exit_lp, XA_exit_blk, XA_exit_nil, load1, Ev.loadCells, objCells, bodyCells, setCells, AV.flat, AV.flat1, backR, backV, backCell, mapO, AV.cells, AV.atom, AV.tree, fillV, repeatL, treeCell, freezeAll, eqCells, callV_T, callV_F, passN, passV, passCell, srcCells, sliceBounds, hiB, loB, thenQ_nA, thenQ_xA, thenQ_rA, runK_nA, runK_xA, runK_rA, wrap_i64, wrap_u64, wrap_u32, wrap_u8, wrap_u16, callV_O, okIds, passObjs, passBody, backObjs, backBody, adopts, List.idxOf?, List.findIdx?, List.findIdx?.go, AV.atom, normA, lkE, fixObjs, fixBody, fixV, fixCell, wO, rB, hi', ix, hws, hbt, e]
  · intro _
    rw [List.take_length]
    simp [beqI, bneI, mm_min2, mm_max2, mm_min3, mm_max3, startE, lkE, lkX, lkE_rest, sx, substE, opVA, objs0, List.replicate, XA_seq, XA_region, XOA_go, goE_someA, opV, ev, putA, layAll, XOA_nil, XA_skip_seq, XA_skip_nil, XOA_gd, goG_tA, goG_uA, binV, bi_add, bi_sub, bi_mul, bi_quo, bi_rem, bi_eql, bi_neq, bi_lss, bi_leq, bi_gtr, bi_geq, bi_shl, bi_shr, bi_and, bi_or, bi_xor, unV, XA_ret_nil, XA_ret_cons, endFA_r, endFA_n, endTA_r, endTA_n, endRA_r, endRA_n, fltR, resultsA, resAs, resA, XA_block, XA_cond, pickX_t, pickX_f, pickX_b, XA_skip_blk, XA_skip_lp, XA_exit_seq, XA_exit_lp, XA_exit_blk, XA_exit_nil, load1, Ev.loadCells, objCells, bodyCells, setCells, AV.flat, AV.flat1, backR, backV, backCell, mapO, AV.cells, AV.atom, AV.tree, fillV, repeatL, treeCell, freezeAll, eqCells, callV_T, callV_F, passN, passV, passCell, srcCells, sliceBounds, hiB, loB, thenQ_nA, thenQ_xA, thenQ_rA, runK_nA, runK_xA, runK_rA, wrap_i64, wrap_u64, wrap_u32, wrap_u8, wrap_u16, AV.atom, normA, lkE, fixObjs, fixBody, fixV, fixCell, endRA_n, endRA_r, wO, rB]
def numsF (f : Fx) : List Int := f.d :: f.l :: (f.ms.length : Int) :: f.ms
def numsQ (q : Qy) : List Int := (q.F.length : Int) :: (q.F.flatMap numsF ++ [q.t, q.me, q.fn, q.li])
def okT (q : Qy) : Bool := !(numsQ q).any badN
def bytesQ (q : Qy) : List Int := if okT q = true then q.n ++ (numsQ q).flatMap digU else []
end Go.Proofs.Ytambpbcdnhekbaa
