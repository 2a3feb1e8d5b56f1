/- The base's laws: what is told of a row. -/
import Derived.Test.YtmnafjgkhhdidaaBaS
set_option linter.unusedSimpArgs false
set_option linter.unusedVariables false
set_option maxHeartbeats 16000000
set_option maxRecDepth 100000
namespace Go.Proofs.Ytmnafjgkhhdidaa
open Go.Ev
theorem rdo_R (ds : List Dm) (m : Int) (L : List Rw) (del : Bool) (r : Rw) (hC : okC ds) (hk : okL L) (hr : okW r) (hl : L.length ≤ 900) : ∃ X H, cfT tabB 27 [.ptr 0 0 0, .agg (chC del r)] [wV 0 ds m L] =
    some (.int .i64 (errL ds m L del r), ⟨0, .var [.ro ds.length (flatD ds), .int .i64 m, X]⟩ :: H) ∧ (X = rW (nxtW ds m L del r) ∨ ∃ n cs b, X = .own 2 3 0 n 6 ∧ H = [b, ⟨3, .row true 6 cs⟩] ∧ rW (nxtW ds m L del r) = .ro n cs ∧ cs.length = n * 6) := by
  obtain ⟨X, H, e, h⟩ := rdo_cf ds m L del r hC hk hr hl
  exact ⟨X, H, cfB (cfS e), h⟩
theorem told_cf (ds : List Dm) (m : Int) (S : Bs) (L : List Rw) (r : Rw) (h : RB S L) (hk : okL L) (hs : L.Pairwise fun a b => ¬ ltR b a) (hl : L.length ≤ 900) : ∃ H, cfT tabB 28 [.ptr 0 0 0, .ptr 2 0 0, .agg (rowC r)] [bV 0 1 0 ds m S, bM 0 S, wV 0 ds m L] =
    some (.bool true, [bV 0 1 0 ds m S, bM 0 S, wV 0 ds m L] ++ H) := by
  have hg : massG L = true := by rw [← massG_perm h.p]; exact h.ib.g
  have e1 := cvFB (cvFS (rmass_ev L (by omega) hk))
  unfold massR at e1
  rw [if_pos hg] at e1
  obtain ⟨H2, e2⟩ := has_R ds m r h
  obtain ⟨H3, e3⟩ := rhas_cf ds m L r (by omega)
  have e3 := cfB (cfS e3)
  obtain ⟨H4, e4⟩ := len_R ds m h
  obtain ⟨H5, e5⟩ := rows_R ds m h (by omega)
  rw [srt_sorted hk hs] at e5
  have e6 := cvFB (cvFS (rwsame_ev L (by omega)))
  obtain ⟨H7, e7⟩ := mass_R ds m h
  refine cfTA_E (mf := Mf.f28) rfl rfl (by kernel_rfl) ?_
  simp only [Mf.f28]
  simp only [rowC, bV, bM, wV, rW] at e1 e2 e3 e4 e5 e6 e7
  simp [beqI, bneI, mm_min2, mm_max2, mm_min3, mm_max3, startE, lkE, lkX, lkE_rest, sx, substE, opVA, objs0, List.replicate, XA_seq, XA_region, XOA_go, goE_someA, opV, ev, putA, layAll, XOA_nil, XA_skip_seq, XA_skip_nil, XOA_gd, goG_tA, goG_uA, binV, bi_add, bi_sub, bi_mul, bi_quo, bi_rem, bi_eql, bi_neq, bi_lss, bi_leq, bi_gtr, bi_geq, bi_shl, bi_shr, bi_and, bi_or, bi_xor, unV, XA_ret_nil, XA_ret_cons, endFA_r, endFA_n, endTA_r, endTA_n, endRA_r, endRA_n, endEA_r, endEA_n, List.take, fltR, resultsA, resAs, resA, XA_block, XA_cond, pickX_t, pickX_f, pickX_b, XA_skip_blk, XA_skip_lp, XA_exit_seq, XA_exit_lp, XA_exit_blk, XA_exit_nil, load1, Ev.loadCells, objCells, bodyCells, setCells, AV.flat, AV.flat1, backR, backV, backCell, mapO, AV.cells, AV.atom, AV.tree, fillV, repeatL, treeCell, freezeAll, eqCells, callV_T, callV_F, passN, passV, passCell, srcCells, sliceBounds, hiB, loB, thenQ_nA, thenQ_xA, thenQ_rA, runK_nA, runK_xA, runK_rA, wrap_i64, wrap_u64, wrap_u32, wrap_u8, wrap_u16, callV_O, okIds, passObjs, passBody, backObjs, backBody, adopts, List.idxOf?, List.findIdx?, List.findIdx?.go, isNilP, mapLook, mapGet, keyGet, adopts, List.lookup, bV, bM, wV, rW, rowC, e1, e2, e3, e4, e5, e6, e7]
def seqW (ds : List Dm) (m : Int) (l : List Ch) (i : Nat) : List Rw := (l.take i).foldl (fun L c => nxtW ds m L c.1 c.2) []
theorem seqW_succ (ds : List Dm) (m : Int) (l : List Ch) (i : Nat) (h : i < l.length) : seqW ds m l (i + 1) = nxtW ds m (seqW ds m l i) l[i].1 l[i].2 := by
  unfold seqW; rw [List.take_succ_eq_append_getElem h, List.foldl_append]; rfl
theorem nxtW_ok {ds : List Dm} {m : Int} {L : List Rw} {d : Bool} {r : Rw} (h : okL L) (hr : okW r) : okL (nxtW ds m L d r) := fun x hx => by
  have hx := (nxtW_perm ds m L d r).mem_iff.1 hx
  unfold nxtL at hx
  split at hx
  · split at hx
    · exact h x (List.mem_of_mem_erase hx)
    · rcases List.mem_cons.1 hx with rfl | hx
      · exact hr
      · exact h x hx
  · exact h x hx
theorem seq_W (ds : List Dm) (m : Int) (l : List Ch) (hl : okH l) (i : Nat) (h : i ≤ l.length) : RB (seqC ds m l i) (seqW ds m l i) ∧ (seqW ds m l i).length ≤ i ∧ okL (seqW ds m l i) ∧ (seqW ds m l i).Pairwise fun a b => ¬ ltR b a := by
  induction i with
  | zero => exact ⟨by simpa [seqC, seqW] using rb0, by simp [seqW], fun x hx => by simp [seqW] at hx, by simp [seqW]⟩
  | succ i ih =>
    obtain ⟨h1, h2, h3, h4⟩ := ih (by omega)
    rw [seqC_succ ds m l i (by omega), seqW_succ ds m l i (by omega)]
    have hw := hl _ (List.getElem_mem (show i < l.length by omega))
    obtain ⟨k1, k2⟩ := (doS_R ds m l[i].1 h1 hw).2
    refine ⟨⟨k1, k2.trans (nxtW_perm _ _ _ _ _).symm⟩, ?_, nxtW_ok h3 hw, nxtW_sorted h4⟩
    have := (nxtW_perm ds m (seqW ds m l i) l[i].1 l[i].2).length_eq
    have := nxtL_len ds m (seqW ds m l i) l[i].1 l[i].2
    omega
end Go.Proofs.Ytmnafjgkhhdidaa
