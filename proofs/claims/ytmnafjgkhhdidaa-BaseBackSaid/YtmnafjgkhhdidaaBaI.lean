/- The base's laws: how much it may hold. -/
import Derived.Test.YtmnafjgkhhdidaaBaH
import Derived.Test.YtmnafjgkhhdidaaBaW
set_option linter.unusedSimpArgs false
set_option linter.unusedVariables false
set_option maxHeartbeats 16000000
set_option maxRecDepth 100000
namespace Go.Proofs.Ytmnafjgkhhdidaa
open Go.Ev
structure RB (S : Bs) (L : List Rw) : Prop where
  ib : IB S
  p : (expand S.es).Perm L
theorem errL_perm {ds : List Dm} {m : Int} {L K : List Rw} (h : L.Perm K) (del : Bool) (r : Rw) : errL ds m L del r = errL ds m K del r := by
  unfold errL
  rw [massG_perm (List.Perm.cons r h)]
  simp only [h.mem_iff]
theorem nxtL_perm {ds : List Dm} {m : Int} {L K : List Rw} (h : L.Perm K) (del : Bool) (r : Rw) : (nxtL ds m L del r).Perm (nxtL ds m K del r) := by
  unfold nxtL
  rw [errL_perm h]
  split
  · split
    · exact h.erase r
    · exact h.cons r
  · exact h
theorem doS_R (ds : List Dm) (m : Int) {S : Bs} {L : List Rw} (del : Bool) {r : Rw} (h : RB S L) (hr : okW r) : (doS ds m S del r).1 = errL ds m L del r ∧ RB (doS ds m S del r).2 (nxtL ds m L del r) := by
  obtain ⟨h1, h2, h3⟩ := doS_spec ds m del h.ib hr
  exact ⟨h1.trans (errL_perm h.p _ _), h2, h3.trans (nxtL_perm h.p _ _)⟩
theorem rb0 : RB bs0 [] := ⟨ib0, .refl _⟩
theorem RB.mx {S : Bs} {L : List Rw} (h : RB S L) : S.mx = sumX L := h.ib.mx.trans (sumX_perm h.p)
theorem RB.my {S : Bs} {L : List Rw} (h : RB S L) : S.my = sumY L := h.ib.my.trans (sumY_perm h.p)
theorem RB.n {S : Bs} {L : List Rw} (h : RB S L) : S.n = L.length := by rw [h.ib.n, h.p.length_eq]
theorem RB.cnt {S : Bs} {L : List Rw} (h : RB S L) (r : Rw) : cntE r S.es = L.count r := by rw [cntE_count h.ib.ke h.ib.po, h.p.count_eq]
theorem RB.toE {S : Bs} {L : List Rw} (h : RB S L) (hl : L.length ≤ 1000000) : okE S := h.ib.toE (by rw [h.p.length_eq]; exact hl)
theorem do_R (ds : List Dm) (m : Int) {S : Bs} {L : List Rw} (del : Bool) {r : Rw} (hC : okC ds) (h : RB S L) (hr : okW r) (hl : L.length ≤ 1000000) : ∃ S' H, RB S' (nxtL ds m L del r) ∧
    cfT tabB 16 [.ptr 0 0 0, .agg (chC del r)] [bV 0 1 0 ds m S, bM 0 S] = some (.int .i64 (errL ds m L del r), [bV 0 1 0 ds m S', bM 0 S'] ++ H) := by
  obtain ⟨H, e⟩ := do_cf ds m S del r hC h.ib.toM (h.toE hl) hr
  obtain ⟨h1, h2⟩ := doS_R ds m del h hr
  exact ⟨_, H, h2, by rw [← h1]; exact cfB (cfS e)⟩
theorem undo_R (ds : List Dm) (m : Int) {S : Bs} {L : List Rw} (del : Bool) {r : Rw} (hC : okC ds) (h : RB S L) (hr : okW r) (hl : L.length ≤ 1000000) : ∃ S' H, RB S' (nxtL ds m L (!del) r) ∧
    cfT tabB 18 [.ptr 0 0 0, .agg (chC del r)] [bV 0 1 0 ds m S, bM 0 S] = some (.bool (decide (errL ds m L (!del) r = 0)), [bV 0 1 0 ds m S', bM 0 S'] ++ H) := by
  obtain ⟨H, e⟩ := undo_cf ds m S del r hC h.ib.toM (h.toE hl) hr
  obtain ⟨h1, h2⟩ := doS_R ds m (!del) h hr
  exact ⟨_, H, h2, by rw [← h1]; exact cfB (cfS e)⟩
theorem has_R (ds : List Dm) (m : Int) {S : Bs} {L : List Rw} (r : Rw) (h : RB S L) : ∃ H, cfT tabB 22 [.ptr 0 0 0, .agg (rowC r)] [bV 0 1 0 ds m S, bM 0 S] = some (.int .i64 (L.count r), [bV 0 1 0 ds m S, bM 0 S] ++ H) := by
  obtain ⟨H, e⟩ := has_cf ds m S r
  exact ⟨H, by rw [← h.cnt r]; exact cfB (cfS e)⟩
theorem len_R (ds : List Dm) (m : Int) {S : Bs} {L : List Rw} (h : RB S L) : ∃ H, cfT tabB 19 [.ptr 0 0 0] [bV 0 1 0 ds m S, bM 0 S] = some (.int .i64 L.length, [bV 0 1 0 ds m S, bM 0 S] ++ H) := by
  obtain ⟨H, e⟩ := len_cf ds m S
  exact ⟨H, by rw [← h.n]; exact cfB (cfS e)⟩
theorem mass_R (ds : List Dm) (m : Int) {S : Bs} {L : List Rw} (h : RB S L) : ∃ H, cfT tabB 20 [.ptr 0 0 0] [bV 0 1 0 ds m S, bM 0 S] = some (.agg [.int .i64 (sumX L), .int .i64 (sumY L)], [bV 0 1 0 ds m S, bM 0 S] ++ H) := by
  obtain ⟨H, e⟩ := mass_cf ds m S
  exact ⟨H, by rw [← h.mx, ← h.my]; exact cfB (cfS e)⟩
theorem rows_R (ds : List Dm) (m : Int) {S : Bs} {L : List Rw} (h : RB S L) (hl : L.length ≤ 1000000) : ∃ H, cfT tabB 15 [.ptr 0 0 0] [bV 0 1 0 ds m S, bM 0 S] = some (rW (srt L), [bV 0 1 0 ds m S, bM 0 S] ++ H) := by
  have e := rows_cf (c0 := .ro ds.length (flatD ds)) (c1 := .int .i64 m) (c3 := .int .i64 S.n) (c4 := .int .i64 S.mx) (c5 := .int .i64 S.my) rfl (h.ib.toX (by rw [h.p.length_eq]; exact hl))
  rw [srt_same (expand_ok h.ib.ro) h.p] at e
  exact ⟨_, e⟩
theorem do_K (ds : List Dm) (m : Int) {S : Bs} {L : List Rw} (del : Bool) {r : Rw} (x : Int) (K : List Rw) (hC : okC ds) (h : RB S L) (hr : okW r) (hl : L.length ≤ 1000000) (he : errL ds m L del r = x)
    (hk : K = if x = 0 then (if del = true then L.erase r else r :: L) else L) : ∃ S' H, RB S' K ∧
    cfT tabB 16 [.ptr 0 0 0, .agg (chC del r)] [bV 0 1 0 ds m S, bM 0 S] = some (.int .i64 x, [bV 0 1 0 ds m S', bM 0 S'] ++ H) := by
  obtain ⟨S', H, h1, h2⟩ := do_R ds m del hC h hr hl
  refine ⟨S', H, ?_, ?_⟩
  · unfold nxtL at h1
    rw [he] at h1
    rw [hk]
    exact h1
  · rw [← he]; exact h2
theorem undo_K (ds : List Dm) (m : Int) {S : Bs} {L : List Rw} (del : Bool) {r : Rw} (x : Int) (K : List Rw) (hC : okC ds) (h : RB S L) (hr : okW r) (hl : L.length ≤ 1000000) (he : errL ds m L (!del) r = x)
    (hk : K = if x = 0 then (if (!del) = true then L.erase r else r :: L) else L) : ∃ S' H, RB S' K ∧
    cfT tabB 18 [.ptr 0 0 0, .agg (chC del r)] [bV 0 1 0 ds m S, bM 0 S] = some (.bool (decide (x = 0)), [bV 0 1 0 ds m S', bM 0 S'] ++ H) := by
  obtain ⟨S', H, h1, h2⟩ := undo_R ds m del hC h hr hl
  refine ⟨S', H, ?_, ?_⟩
  · unfold nxtL at h1
    rw [he] at h1
    rw [hk]
    exact h1
  · rw [← he]; exact h2
def ds0 : List Dm := [⟨[4], []⟩]
theorem some_ev : cvT tabB 21 [] = some (.agg [.ro ds0.length (flatD ds0), .int .i64 1]) := by
  refine cvTA_R (mf := Mf.f21) rfl rfl (by kernel_rfl) ?_
  simp only [Mf.f21]
  simp [beqI, bneI, mm_min2, mm_max2, mm_min3, mm_max3, startE, lkE, lkX, lkE_rest, sx, substE, opVA, objs0, List.replicate, XA_seq, XA_region, XOA_go, goE_someA, opV, ev, putA, layAll, XOA_nil, XA_skip_seq, XA_skip_nil, XOA_gd, goG_tA, goG_uA, binV, bi_add, bi_sub, bi_mul, bi_quo, bi_rem, bi_eql, bi_neq, bi_lss, bi_leq, bi_gtr, bi_geq, bi_shl, bi_shr, bi_and, bi_or, bi_xor, unV, XA_ret_nil, XA_ret_cons, endFA_r, endFA_n, endTA_r, endTA_n, endRA_r, endRA_n, endEA_r, endEA_n, List.take, fltR, resultsA, resAs, resA, XA_block, XA_cond, pickX_t, pickX_f, pickX_b, XA_skip_blk, XA_skip_lp, XA_exit_seq, XA_exit_lp, XA_exit_blk, XA_exit_nil, load1, Ev.loadCells, objCells, bodyCells, setCells, AV.flat, AV.flat1, backR, backV, backCell, mapO, AV.cells, AV.atom, AV.tree, fillV, repeatL, treeCell, freezeAll, eqCells, callV_T, callV_F, passN, passV, passCell, srcCells, sliceBounds, hiB, loB, thenQ_nA, thenQ_xA, thenQ_rA, runK_nA, runK_xA, runK_rA, wrap_i64, wrap_u64, wrap_u32, wrap_u8, wrap_u16, ds0, flatD, rI, rR]
def row0 (a x : Int) : Rw := ⟨a % 4, 0, 0, 0, x, 0⟩
theorem rowOf_ev (a x : Int) (h0 : 0 ≤ a) : cvF tabB 12 [.int .u8 a, .int .i64 x] = some (.agg (rowC (row0 a x))) := by
  refine cvFA_R (mf := Mf.f12) rfl rfl (by kernel_rfl) ?_
  simp only [Mf.f12]
  have e : a.tmod 4 = a % 4 := Int.tmod_eq_emod_of_nonneg h0
  simp [beqI, bneI, mm_min2, mm_max2, mm_min3, mm_max3, startE, lkE, lkX, lkE_rest, sx, substE, opVA, objs0, List.replicate, XA_seq, XA_region, XOA_go, goE_someA, opV, ev, putA, layAll, XOA_nil, XA_skip_seq, XA_skip_nil, XOA_gd, goG_tA, goG_uA, binV, bi_add, bi_sub, bi_mul, bi_quo, bi_rem, bi_eql, bi_neq, bi_lss, bi_leq, bi_gtr, bi_geq, bi_shl, bi_shr, bi_and, bi_or, bi_xor, unV, XA_ret_nil, XA_ret_cons, endFA_r, endFA_n, endTA_r, endTA_n, endRA_r, endRA_n, endEA_r, endEA_n, List.take, fltR, resultsA, resAs, resA, XA_block, XA_cond, pickX_t, pickX_f, pickX_b, XA_skip_blk, XA_skip_lp, XA_exit_seq, XA_exit_lp, XA_exit_blk, XA_exit_nil, load1, Ev.loadCells, objCells, bodyCells, setCells, AV.flat, AV.flat1, backR, backV, backCell, mapO, AV.cells, AV.atom, AV.tree, fillV, repeatL, treeCell, freezeAll, eqCells, callV_T, callV_F, passN, passV, passCell, srcCells, sliceBounds, hiB, loB, thenQ_nA, thenQ_xA, thenQ_rA, runK_nA, runK_xA, runK_rA, wrap_i64, wrap_u64, wrap_u32, wrap_u8, wrap_u16, e, rowC, row0]
theorem ds0_ok : okC ds0 := by
  refine ⟨by decide, fun d hd => ?_⟩
  simp only [ds0, List.mem_singleton] at hd
  subst hd
  exact ⟨⟨by decide, fun x hx => by simp at hx; subst hx; exact ⟨by omega, by omega⟩⟩, by decide, fun l hl => by simp at hl⟩
theorem row0_ok {a x : Int} (h0 : 0 ≤ a) (hx : inI x) : okW (row0 a x) := by
  have h1 := Int.emod_nonneg a (show (4 : Int) ≠ 0 by omega)
  have h2 := Int.emod_lt_of_pos a (show (0 : Int) < 4 by omega)
  exact ⟨⟨h1, by simp only [row0]; omega⟩, ⟨by simp [row0], by simp [row0]⟩, ⟨by simp [row0], by simp [row0]⟩, ⟨by simp [row0], by simp [row0]⟩, hx, ⟨by simp [row0], by simp [row0]⟩⟩
theorem row0_good {a x : Int} (h0 : 0 ≤ a) : goodW ds0 1 (row0 a x) = true := by
  have h1 := Int.emod_nonneg a (show (4 : Int) ≠ 0 by omega)
  have h2 := Int.emod_lt_of_pos a (show (0 : Int) < 4 by omega)
  have hc : a % 4 = 0 ∨ a % 4 = 1 ∨ a % 4 = 2 ∨ a % 4 = 3 := by omega
  unfold goodW row0
  rcases hc with h | h | h | h <;> rw [h] <;> simp only [Rw.at] <;> decide
end Go.Proofs.Ytmnafjgkhhdidaa
