/- Numbers and places as numbers, and back. -/
import Derived.Test.YtmnafjgkhhdidaaBits
import Derived.Test.YtmnafjgkhhdidaaCat
import Derived.Test.YtmnafjgkhhdidaaDims
set_option linter.unusedSimpArgs false
set_option linter.unusedVariables false
set_option maxHeartbeats 4000000
set_option maxRecDepth 100000
namespace Go.Proofs.Ytmnafjgkhhdidaa
open Go.Ev
theorem wrapu_neg {v : Int} (h1 : -9223372036854775808 ≤ v) (h2 : v < 0) : IntKind.u64.wrap v = v + 18446744073709551616 := by
  simp only [IntKind.wrap, IntKind.signed, IntKind.bits]
  simp
  omega
theorem wrapi_big {u : Int} (h1 : 9223372036854775808 ≤ u) (h2 : u ≤ 18446744073709551615) : IntKind.i64.wrap u = u - 18446744073709551616 := by
  simp only [IntKind.wrap, IntKind.signed, IntKind.bits]
  simp
  omega
theorem wrap8 (x : Int) : IntKind.u8.wrap x = x % 256 := by
  simp only [IntKind.wrap, IntKind.signed, IntKind.bits]
  simp
theorem wrapu_over {x : Int} (h1 : 18446744073709551616 ≤ x) (h2 : x < 36893488147419103232) : IntKind.u64.wrap x = x - 18446744073709551616 := by
  simp only [IntKind.wrap, IntKind.signed, IntKind.bits]
  simp
  omega
def inU (u : Int) : Prop := 0 ≤ u ∧ u ≤ 18446744073709551615
def inU32 (u : Int) : Prop := 0 ≤ u ∧ u ≤ 4294967295
def zigN (v : Int) : Int := if v < 0 then -2 * v - 1 else 2 * v
def zagN (u : Int) : Int := if u % 2 = 0 then u / 2 else -(u / 2) - 1
theorem fdiv_eq (a : Int) (b : Nat) : a.fdiv (b : Int) = a / (b : Int) := Int.fdiv_eq_ediv_of_nonneg a (by omega)
/-! ### Places -/
def key4 (a b c d : Int) : Int := ((a * 256 + b) * 256 + c) * 256 + d
theorem key_ev (a b c d : Int) (ha : byte a) (hb : byte b) (hc : byte c) (hd : byte d) : cvF tab 57 [.agg [.int .u8 a, .int .u8 b, .int .u8 c, .int .u8 d]] = some (.int .u32 (key4 a b c d)) := by
  unfold byte at *
  refine cvFA_R (mf := Mf.f57) rfl rfl (by kernel_rfl) ?_
  have e1 : IntKind.u32.wrap a = a := wrap_u32 (by omega) (by omega)
  have e2 : IntKind.u32.wrap b = b := wrap_u32 (by omega) (by omega)
  have e3 : IntKind.u32.wrap c = c := wrap_u32 (by omega) (by omega)
  have e4 : IntKind.u32.wrap d = d := wrap_u32 (by omega) (by omega)
  have e5 : IntKind.u32.wrap (a * 256) = a * 256 := wrap_u32 (by omega) (by omega)
  have e7 : IntKind.u32.wrap ((a * 256 + b) * 256) = (a * 256 + b) * 256 := wrap_u32 (by omega) (by omega)
  have e9 : IntKind.u32.wrap (((a * 256 + b) * 256 + c) * 256) = ((a * 256 + b) * 256 + c) * 256 := wrap_u32 (by omega) (by omega)
  have e0 : IntKind.u32.wrap 0 = 0 := by decide
  have o0 := bin_or_u32 0 a (by omega) (by omega) ha.1 ha.2
  have o1 := bin_or_u32 a b (by omega) (by omega) hb.1 hb.2
  have o2 := bin_or_u32 (a * 256 + b) c (by omega) (by omega) hc.1 hc.2
  have o3 := bin_or_u32 ((a * 256 + b) * 256 + c) d (by omega) (by omega) hd.1 hd.2
  simp at o0
  simp [Mf.f57, beqI, bneI, mm_min2, mm_max2, mm_min3, mm_max3, startE, lkE, lkX, lkE_rest, sx, substE, opVA, objs0, List.replicate, XA_seq, XA_region, XOA_go, goE_someA, opV, ev, putA, layAll, XOA_nil, XA_skip_seq, XA_skip_nil, XOA_gd, goG_tA, goG_uA, binV, bi_add, bi_sub, bi_mul, bi_quo, bi_rem, bi_eql, bi_neq, bi_lss, bi_leq, bi_gtr, bi_geq, bi_shl, bi_shr, bi_and, bi_or, bi_xor, unV, XA_ret_nil, XA_ret_cons, endFA_r, endFA_n, endTA_r, endTA_n, endRA_r, endRA_n, endEA_r, endEA_n, List.take, fltR, resultsA, resAs, resA, XA_block, XA_cond, pickX_t, pickX_f, pickX_b, XA_skip_blk, XA_skip_lp, XA_exit_seq, XA_exit_lp, XA_exit_blk, XA_exit_nil, load1, Ev.loadCells, objCells, bodyCells, setCells, AV.flat, AV.flat1, backR, backV, backCell, mapO, AV.cells, AV.atom, AV.tree, fillV, repeatL, treeCell, freezeAll, eqCells, callV_T, callV_F, passN, passV, passCell, srcCells, sliceBounds, hiB, loB, thenQ_nA, thenQ_xA, thenQ_rA, runK_nA, runK_xA, runK_rA, wrap_i64, wrap_u64, wrap_u32, wrap_u8, wrap_u16, XA_round, normA, lkE, fixObjs, fixBody, fixV, fixCell, goN_someA, e0, e1, e2, e3, e4, e5, e7, e9, o0, o1, o2, o3, key4, IntKind.bits]
theorem rkey_ev (a b c d : Int) (ha : byte a) (hb : byte b) (hc : byte c) (hd : byte d) : cvF tab 75 [.agg [.int .u8 a, .int .u8 b, .int .u8 c, .int .u8 d]] = some (.int .u32 (key4 a b c d)) := by
  unfold byte at *
  refine cvFA_R (mf := Mf.f75) rfl rfl (by kernel_rfl) ?_
  have e1 : IntKind.u32.wrap a = a := wrap_u32 (by omega) (by omega)
  have e2 : IntKind.u32.wrap b = b := wrap_u32 (by omega) (by omega)
  have e3 : IntKind.u32.wrap c = c := wrap_u32 (by omega) (by omega)
  have e4 : IntKind.u32.wrap d = d := wrap_u32 (by omega) (by omega)
  have e5 : IntKind.u32.wrap (a * 256) = a * 256 := wrap_u32 (by omega) (by omega)
  have e6 : IntKind.u32.wrap (a * 256 + b) = a * 256 + b := wrap_u32 (by omega) (by omega)
  have e7 : IntKind.u32.wrap ((a * 256 + b) * 256) = (a * 256 + b) * 256 := wrap_u32 (by omega) (by omega)
  have e8 : IntKind.u32.wrap ((a * 256 + b) * 256 + c) = (a * 256 + b) * 256 + c := wrap_u32 (by omega) (by omega)
  have e9 : IntKind.u32.wrap (((a * 256 + b) * 256 + c) * 256) = ((a * 256 + b) * 256 + c) * 256 := wrap_u32 (by omega) (by omega)
  have e10 : IntKind.u32.wrap (((a * 256 + b) * 256 + c) * 256 + d) = ((a * 256 + b) * 256 + c) * 256 + d := wrap_u32 (by omega) (by omega)
  simp [Mf.f75, beqI, bneI, mm_min2, mm_max2, mm_min3, mm_max3, startE, lkE, lkX, lkE_rest, sx, substE, opVA, objs0, List.replicate, XA_seq, XA_region, XOA_go, goE_someA, opV, ev, putA, layAll, XOA_nil, XA_skip_seq, XA_skip_nil, XOA_gd, goG_tA, goG_uA, binV, bi_add, bi_sub, bi_mul, bi_quo, bi_rem, bi_eql, bi_neq, bi_lss, bi_leq, bi_gtr, bi_geq, bi_shl, bi_shr, bi_and, bi_or, bi_xor, unV, XA_ret_nil, XA_ret_cons, endFA_r, endFA_n, endTA_r, endTA_n, endRA_r, endRA_n, endEA_r, endEA_n, List.take, fltR, resultsA, resAs, resA, XA_block, XA_cond, pickX_t, pickX_f, pickX_b, XA_skip_blk, XA_skip_lp, XA_exit_seq, XA_exit_lp, XA_exit_blk, XA_exit_nil, load1, Ev.loadCells, objCells, bodyCells, setCells, AV.flat, AV.flat1, backR, backV, backCell, mapO, AV.cells, AV.atom, AV.tree, fillV, repeatL, treeCell, freezeAll, eqCells, callV_T, callV_F, passN, passV, passCell, srcCells, sliceBounds, hiB, loB, thenQ_nA, thenQ_xA, thenQ_rA, runK_nA, runK_xA, runK_rA, wrap_i64, wrap_u64, wrap_u32, wrap_u8, wrap_u16, XA_round, normA, lkE, fixObjs, fixBody, fixV, fixCell, goN_someA, e1, e2, e3, e4, e5, e6, e7, e8, e9, e10, key4]
end Go.Proofs.Ytmnafjgkhhdidaa
