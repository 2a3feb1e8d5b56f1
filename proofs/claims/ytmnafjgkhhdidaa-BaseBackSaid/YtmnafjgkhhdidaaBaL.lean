/- The base's laws: changes, one behind the other. -/
import Derived.Test.YtmnafjgkhhdidaaBaI
import Derived.Test.YtmnafjgkhhdidaaPgB
set_option linter.unusedSimpArgs false
set_option linter.unusedVariables false
set_option maxHeartbeats 4000000
set_option maxRecDepth 100000
namespace Go.Proofs.Ytmnafjgkhhdidaa
open Go.Ev
abbrev Ch := Bool × Rw
def flatH (l : List Ch) : List AV := l.flatMap fun c => chC c.1 c.2
def rH (l : List Ch) : AV := .ro l.length (flatH l)
def okH (l : List Ch) : Prop := ∀ c ∈ l, okW c.2
def gCh : GT := .pair .bool (.pair gRow .unit)
theorem rd_ch {cs : List AV} (h : RD gCh cs) : ∃ c : Ch, cs = chC c.1 c.2 ∧ okW c.2 := by
  obtain ⟨p, q, rfl, ⟨b, rfl⟩, s, t, rfl, hr, rfl⟩ := h
  obtain ⟨r, rfl, hw⟩ := rd_row hr
  exact ⟨(b, r), by simp [chC], hw⟩
theorem rdarg_chs {a : AV} (h : RDarg (.slice gCh) a) : ∃ l, a = rH l ∧ okH l := by
  simp only [RDarg, isAggG] at h
  obtain ⟨L, h1, h2, h3⟩ := h
  simp at h1
  subst h1
  have key : ∀ (L : List (List AV)), (∀ x ∈ L, RD gCh x) → ∃ l : List Ch, L.length = l.length ∧ L.flatten = flatH l ∧ okH l := by
    intro L
    induction L with
    | nil => intro _; exact ⟨[], rfl, rfl, fun d hd => by cases hd⟩
    | cons c L ih =>
      intro h
      obtain ⟨r, rfl, hr⟩ := rd_ch (h c (by simp))
      obtain ⟨l, h1, h2, h3⟩ := ih fun x hx => h x (by simp [hx])
      refine ⟨r :: l, by simp [h1], by simp [h2, flatH], fun d hd => ?_⟩
      rcases List.mem_cons.1 hd with rfl | hd
      · exact hr
      · exact h3 d hd
  obtain ⟨l, h4, h5, h6⟩ := key L h3
  exact ⟨l, by rw [h4, h5]; rfl, h6⟩
theorem flatH_len (l : List Ch) : (flatH l).length = l.length * 7 := by
  induction l with
  | nil => rfl
  | cons r l ih =>
    simp only [flatH, List.flatMap_cons, List.length_append] at *
    rw [ih]
    simp [chC, rowC]; omega
theorem flatH_append (a b : List Ch) : flatH (a ++ b) = flatH a ++ flatH b := List.flatMap_append ..
theorem flatH_drop (l : List Ch) (i : Nat) : (flatH l).drop (i * 7) = flatH (l.drop i) := by
  induction l generalizing i with
  | nil => simp [flatH]
  | cons r l ih =>
    cases i with
    | zero => simp
    | succ i =>
      rw [show (i + 1) * 7 = i * 7 + 7 from by omega]
      simp only [flatH, List.flatMap_cons, chC, rowC, List.cons_append, List.nil_append, List.drop_succ_cons]
      exact ih i
theorem flatH_tree (l : List Ch) : (flatH l).all AV.tree = true := by
  refine List.all_eq_true.2 fun x hx => ?_
  obtain ⟨r, _, h⟩ := List.mem_flatMap.1 hx
  simp only [chC, rowC, List.mem_cons, List.not_mem_nil, or_false] at h
  rcases h with rfl | rfl | rfl | rfl | rfl | rfl | rfl <;> rfl
theorem dropH (l : List Ch) (i : Nat) (h : i < l.length) : (flatH l).drop (i * 7) = chC l[i].1 l[i].2 ++ flatH (l.drop (i + 1)) := by
  rw [flatH_drop, List.drop_eq_getElem_cons h]
  rfl
/-- The base, the rows behind the first i changes. -/
def seqC (ds : List Dm) (m : Int) (l : List Ch) (i : Nat) : Bs := (l.take i).foldl (fun S c => (doS ds m S c.1 c.2).2) bs0
def seqL (ds : List Dm) (m : Int) (l : List Ch) (i : Nat) : List Rw := (l.take i).foldl (fun L c => nxtL ds m L c.1 c.2) []
theorem seqC_succ (ds : List Dm) (m : Int) (l : List Ch) (i : Nat) (h : i < l.length) : seqC ds m l (i + 1) = (doS ds m (seqC ds m l i) l[i].1 l[i].2).2 := by
  unfold seqC; rw [List.take_succ_eq_append_getElem h, List.foldl_append]; rfl
theorem seqL_succ (ds : List Dm) (m : Int) (l : List Ch) (i : Nat) (h : i < l.length) : seqL ds m l (i + 1) = nxtL ds m (seqL ds m l i) l[i].1 l[i].2 := by
  unfold seqL; rw [List.take_succ_eq_append_getElem h, List.foldl_append]; rfl
theorem nxtL_len (ds : List Dm) (m : Int) (L : List Rw) (d : Bool) (r : Rw) : (nxtL ds m L d r).length ≤ L.length + 1 := by
  unfold nxtL
  split
  · split
    · have := List.length_erase_le (a := r) (l := L); omega
    · simp
  · omega
theorem nxtL_good {ds : List Dm} {m : Int} {L : List Rw} {d : Bool} {r : Rw} (h : ∀ x ∈ L, goodW ds m x = true ∧ okW x) (hr : okW r) : ∀ x ∈ nxtL ds m L d r, goodW ds m x = true ∧ okW x := by
  unfold nxtL
  intro x hx
  split at hx
  · rename_i he
    split at hx
    · exact h x (List.mem_of_mem_erase hx)
    · rcases List.mem_cons.1 hx with rfl | hx
      · refine ⟨?_, hr⟩
        cases hg : goodW ds m x with
        | true => rfl
        | false => unfold errL at he; rw [hg] at he; simp at he
      · exact h x hx
  · exact h x hx
theorem seq_RB (ds : List Dm) (m : Int) (l : List Ch) (hl : okH l) (i : Nat) (h : i ≤ l.length) : RB (seqC ds m l i) (seqL ds m l i) ∧ (seqL ds m l i).length ≤ i ∧ ∀ x ∈ seqL ds m l i, goodW ds m x = true ∧ okW x := by
  induction i with
  | zero => exact ⟨by simpa [seqC, seqL] using rb0, by simp [seqL], fun x hx => by simp [seqL] at hx⟩
  | succ i ih =>
    obtain ⟨h1, h2, h3⟩ := ih (by omega)
    rw [seqC_succ ds m l i (by omega), seqL_succ ds m l i (by omega)]
    have hw := hl _ (List.getElem_mem (show i < l.length by omega))
    refine ⟨(doS_R ds m _ h1 hw).2, ?_, nxtL_good h3 hw⟩
    have := nxtL_len ds m (seqL ds m l i) l[i].1 l[i].2
    omega
theorem do_E (ds : List Dm) (m : Int) {S : Bs} {L : List Rw} (del : Bool) {r : Rw} (hC : okC ds) (h : RB S L) (hr : okW r) (hl : L.length ≤ 1000000) : ∃ H,
    cfT tabB 16 [.ptr 0 0 0, .agg (chC del r)] [bV 0 1 0 ds m S, bM 0 S] = some (.int .i64 (errL ds m L del r), [bV 0 1 0 ds m (doS ds m S del r).2, bM 0 (doS ds m S del r).2] ++ H) := by
  obtain ⟨H, e⟩ := do_cf ds m S del r hC h.ib.toM (h.toE hl) hr
  obtain ⟨h1, _⟩ := doS_R ds m del h hr
  exact ⟨H, by rw [← h1]; exact cfB (cfS e)⟩
theorem undo_E (ds : List Dm) (m : Int) {S : Bs} {L : List Rw} (del : Bool) {r : Rw} (hC : okC ds) (h : RB S L) (hr : okW r) (hl : L.length ≤ 1000000) : ∃ H,
    cfT tabB 18 [.ptr 0 0 0, .agg (chC del r)] [bV 0 1 0 ds m S, bM 0 S] = some (.bool (decide (errL ds m L (!del) r = 0)), [bV 0 1 0 ds m (doS ds m S (!del) r).2, bM 0 (doS ds m S (!del) r).2] ++ H) := by
  obtain ⟨H, e⟩ := undo_cf ds m S del r hC h.ib.toM (h.toE hl) hr
  obtain ⟨h1, _⟩ := doS_R ds m (!del) h hr
  exact ⟨H, by rw [← h1]; exact cfB (cfS e)⟩
theorem bgood_ev (ds : List Dm) (m : Int) (hC : okC ds) : cvF tabB 13 [.agg [.ro ds.length (flatD ds), .int .i64 m]] = some (.bool (goodC ds m)) := by
  have e := cvFB (cvFS (rgood_ev ds m hC))
  refine cvFA_R (mf := Mf.f13) rfl rfl (by kernel_rfl) ?_
  simp only [Mf.f13]
  simp [beqI, bneI, mm_min2, mm_max2, mm_min3, mm_max3, startE, lkE, lkX, lkE_rest, sx, substE, opVA, objs0, List.replicate, XA_seq, XA_region, XOA_go, goE_someA, opV, ev, putA, layAll, XOA_nil, XA_skip_seq, XA_skip_nil, XOA_gd, goG_tA, goG_uA, binV, bi_add, bi_sub, bi_mul, bi_quo, bi_rem, bi_eql, bi_neq, bi_lss, bi_leq, bi_gtr, bi_geq, bi_shl, bi_shr, bi_and, bi_or, bi_xor, unV, XA_ret_nil, XA_ret_cons, endFA_r, endFA_n, endTA_r, endTA_n, endRA_r, endRA_n, endEA_r, endEA_n, List.take, fltR, resultsA, resAs, resA, XA_block, XA_cond, pickX_t, pickX_f, pickX_b, XA_skip_blk, XA_skip_lp, XA_exit_seq, XA_exit_lp, XA_exit_blk, XA_exit_nil, load1, Ev.loadCells, objCells, bodyCells, setCells, AV.flat, AV.flat1, backR, backV, backCell, mapO, AV.cells, AV.atom, AV.tree, fillV, repeatL, treeCell, freezeAll, eqCells, callV_T, callV_F, passN, passV, passCell, srcCells, sliceBounds, hiB, loB, thenQ_nA, thenQ_xA, thenQ_rA, runK_nA, runK_xA, runK_rA, wrap_i64, wrap_u64, wrap_u32, wrap_u8, wrap_u16, e]
end Go.Proofs.Ytmnafjgkhhdidaa
