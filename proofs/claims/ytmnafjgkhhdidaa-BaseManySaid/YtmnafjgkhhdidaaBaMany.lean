/- A row may be there many times: it goes as often as it came, and not once more; another one is nothing to it. -/
import Derived.Test.YtmnafjgkhhdidaaBaI
set_option linter.unusedSimpArgs false
set_option linter.unusedVariables false
set_option maxHeartbeats 16000000
set_option maxRecDepth 100000
namespace Go.Proofs.Ytmnafjgkhhdidaa
open Go.Ev
theorem do_E (ds : List Dm) (m : Int) {S : Bs} {L : List Rw} (del : Bool) {r : Rw} (hC : okC ds) (h : RB S L) (hr : okW r) (hl : L.length ≤ 1000000) : ∃ H,
    cfT tabB 16 [.ptr 0 0 0, .agg (chC del r)] [bV 0 1 0 ds m S, bM 0 S] = some (.int .i64 (errL ds m L del r), [bV 0 1 0 ds m (doS ds m S del r).2, bM 0 (doS ds m S del r).2] ++ H) := by
  obtain ⟨H, e⟩ := do_cf ds m S del r hC h.ib.toM (h.toE hl) hr
  obtain ⟨h1, _⟩ := doS_R ds m del h hr
  exact ⟨H, by rw [← h1]; exact cfB (cfS e)⟩
theorem sum_small (f : Rw → Int) (B : Int) : ∀ (L : List Rw), (∀ r ∈ L, f r ≤ B) → (L.map f).sum ≤ L.length * B
  | [], _ => by simp
  | r :: L, h => by
    have h1 := h r (by simp)
    have h2 := sum_small f B L fun x hx => h x (by simp [hx])
    simp only [List.map_cons, List.sum_cons, List.length_cons]
    rw [show ((L.length + 1 : Nat) : Int) * B = (L.length : Int) * B + B by rw [Int.natCast_succ, Int.add_mul, Int.one_mul]]
    omega
theorem mass_small {L : List Rw} (h : ∀ r ∈ L, absI r.x ≤ 40000 ∧ absI r.y ≤ 40000) (hl : L.length ≤ 1000) : massG L = true := by
  have h1 : sumX L ≤ _ := sum_small (fun r => absI r.x) 40000 L fun r hr => (h r hr).1
  have h2 : sumY L ≤ _ := sum_small (fun r => absI r.y) 40000 L fun r hr => (h r hr).2
  unfold massG MM
  simp only [Bool.and_eq_true, decide_eq_true_eq]
  omega
theorem absI_le {v B : Int} (h1 : -B ≤ v) (h2 : v ≤ B) : absI v ≤ B := by unfold absI; split <;> omega
def seqB (ds : List Dm) (m : Int) (S : Bs) (del : Bool) (r : Rw) : Nat → Bs
  | 0 => S
  | i + 1 => (doS ds m (seqB ds m S del r i) del r).2
theorem many_ev (n v at_ : Int) (hn : byte n) (hv : -32768 ≤ v ∧ v ≤ 32767) (hat : byte at_) : cvF tabB 6 [.int .u8 n, .int .i16 v, .int .u8 at_] = some (.bool true) := by
  unfold byte at hn hat
  have htm : n.tmod 40 = n % 40 := Int.tmod_eq_emod_of_nonneg hn.1
  have hk0 := Int.emod_nonneg n (show (40 : Int) ≠ 0 by omega)
  have hk1 := Int.emod_lt_of_pos n (show (0 : Int) < 40 by omega)
  obtain ⟨k, hk⟩ : ∃ k : Nat, n % 40 = k := ⟨(n % 40).toNat, by omega⟩
  rw [hk] at htm hk1
  have hk2 : k < 40 := by omega
  have es := some_ev
  have en := cfB (cfS (new_cf ds0 1 ds0_ok (by decide)))
  have ew := wake_ev
  have wk : IntKind.i64.wrap (k : Int) = k := wrap_i64 (by omega) (by omega)
  have wv : IntKind.i64.wrap v = v := wrap_i64 (by omega) (by omega)
  have wv1 : IntKind.i64.wrap (v + 1) = v + 1 := wrap_i64 (by omega) (by omega)
  have r1 := rowOf_ev at_ v hat.1
  have r2 := rowOf_ev at_ (v + 1) hat.1
  have o1 : okW (row0 at_ v) := row0_ok hat.1 ⟨by omega, by omega⟩
  have o2 : okW (row0 at_ (v + 1)) := row0_ok hat.1 ⟨by omega, by omega⟩
  have g1 : goodW ds0 1 (row0 at_ v) = true := row0_good hat.1
  have g2 : goodW ds0 1 (row0 at_ (v + 1)) = true := row0_good hat.1
  have a1 : absI (row0 at_ v).x ≤ 40000 ∧ absI (row0 at_ v).y ≤ 40000 := ⟨absI_le (by simp [row0]; omega) (by simp [row0]; omega), by simp [row0, absI]⟩
  have a2 : absI (row0 at_ (v + 1)).x ≤ 40000 ∧ absI (row0 at_ (v + 1)).y ≤ 40000 := ⟨absI_le (by simp [row0]; omega) (by simp [row0]; omega), by simp [row0, absI]⟩
  have hne : row0 at_ v ≠ row0 at_ (v + 1) := by intro q; have := congrArg Rw.x q; simp [row0] at this; omega
  generalize row0 at_ v = R at *
  generalize row0 at_ (v + 1) = O at *
  have good : ∀ i, i ≤ 100 → massG (R :: (List.replicate i R ++ [O])) = true := fun i hi => mass_small (fun x hx => by
    simp only [List.mem_cons, List.mem_append, List.mem_replicate, List.not_mem_nil, or_false] at hx
    rcases hx with rfl | ⟨_, rfl⟩ | rfl
    · exact a1
    · exact a1
    · exact a2) (by simp; omega)
  have add : ∀ i, i ≤ 100 → errL ds0 1 (List.replicate i R ++ [O]) false R = 0 := fun i hi => by
    unfold errL; rw [g1]; simp only [Bool.true_eq_false, if_false, Bool.false_eq_true]; rw [if_pos (good i hi)]
  have del : ∀ i, 0 < i → errL ds0 1 (List.replicate i R ++ [O]) true R = 0 := fun i hi => by
    unfold errL; rw [g1]; simp; omega
  have cR : ∀ i, (List.replicate i R ++ [O]).count R = i := fun i => by
    rw [List.count_append, List.count_replicate_self, List.count_singleton]; simp [Ne.symm hne]
  have cO : ∀ i, (List.replicate i R ++ [O]).count O = 1 := fun i => by
    rw [List.count_append, List.count_replicate, List.count_singleton]; simp [hne]
  have lL : ∀ i, (List.replicate i R ++ [O]).length = i + 1 := fun i => by simp
  -- the first one
  obtain ⟨H1, e1⟩ := do_E ds0 1 (S := bs0) (L := []) false ds0_ok rb0 o2 (by simp)
  have b1 := (doS_R ds0 1 (S := bs0) (L := []) false rb0 o2).2
  have x1 : errL ds0 1 [] false O = 0 := by
    unfold errL; rw [g2]; simp only [Bool.true_eq_false, if_false, Bool.false_eq_true]; rw [if_pos (mass_small (fun x hx => by simp at hx; subst hx; exact a2) (by simp))]
  rw [x1] at e1
  have b1 : RB (doS ds0 1 bs0 false O).2 (List.replicate 0 R ++ [O]) := by unfold nxtL at b1; rw [x1] at b1; simpa using b1
  generalize (doS ds0 1 bs0 false O).2 = S0 at *
  have up : ∀ i, i ≤ 100 → RB (seqB ds0 1 S0 false R i) (List.replicate i R ++ [O]) := by
    intro i
    induction i with
    | zero => intro _; exact b1
    | succ i ih =>
      intro hi
      have := (doS_R ds0 1 false (ih (by omega)) o1).2
      unfold nxtL at this
      rw [add i (by omega)] at this
      simpa [seqB, List.replicate_succ] using this
  have dn : ∀ j, j ≤ k → RB (seqB ds0 1 (seqB ds0 1 S0 false R k) true R j) (List.replicate (k - j) R ++ [O]) := by
    intro j
    induction j with
    | zero => intro _; exact up k (by omega)
    | succ j ih =>
      intro hj
      have := (doS_R ds0 1 true (ih (by omega)) o1).2
      unfold nxtL at this
      rw [del (k - j) (by omega), show k - j = (k - (j + 1)) + 1 by omega, List.replicate_succ] at this
      simpa [seqB] using this
  -- what the calls come to
  have eUp := fun i (hi : i < k) => do_E ds0 1 false ds0_ok (up i (by omega)) o1 (by rw [lL]; omega)
  have hasR := fun i (hi : i ≤ k) => has_R ds0 1 R (up i (by omega))
  have hasO := fun i (hi : i ≤ k) => has_R ds0 1 O (up i (by omega))
  have lenU := fun i (hi : i ≤ k) => len_R ds0 1 (up i (by omega))
  have eDn := fun j (hj : j < k) => do_E ds0 1 true ds0_ok (dn j (by omega)) o1 (by rw [lL]; omega)
  have hasR2 := fun j (hj : j ≤ k) => has_R ds0 1 R (dn j hj)
  have hasO2 := fun j (hj : j ≤ k) => has_R ds0 1 O (dn j hj)
  have bk : RB (seqB ds0 1 (seqB ds0 1 S0 false R k) true R k) [O] := by have := dn k (by omega); simpa using this
  obtain ⟨H2, e2⟩ := do_E ds0 1 true ds0_ok bk o1 (by simp)
  have b2 := (doS_R ds0 1 true bk o1).2
  have x2 : errL ds0 1 [O] true R = 8 := by unfold errL; rw [g1]; simp [hne]
  rw [x2] at e2
  have b2 : RB (doS ds0 1 (seqB ds0 1 (seqB ds0 1 S0 false R k) true R k) true R).2 [O] := by unfold nxtL at b2; rw [x2] at b2; simpa using b2
  generalize (doS ds0 1 (seqB ds0 1 (seqB ds0 1 S0 false R k) true R k) true R).2 = T2 at *
  obtain ⟨H3, e3⟩ := len_R ds0 1 b2
  obtain ⟨S4, H4, b4, e4⟩ := undo_K ds0 1 false 8 [O] ds0_ok b2 o1 (by simp) (by simpa using x2) (by simp)
  obtain ⟨S5, H5, b5, e5⟩ := undo_K ds0 1 false 0 [] ds0_ok b4 o2 (by simp) (by unfold errL; rw [g2]; simp) (by simp)
  obtain ⟨H6, e6⟩ := len_R ds0 1 b5
  simp only [cR, cO, lL] at hasR hasO lenU hasR2 hasO2
  have add' := fun i (hi : i < k) => add i (by omega)
  have del' := fun j (hj : j < k) => del (k - j) (by omega)
  clear up dn good add del cR cO lL b1 b2 b4 b5 bk
  simp only [rowC, chC, bV, bM] at *
  refine cvFA_R (mf := Mf.f6) rfl rfl (by kernel_rfl) ?_
  simp only [Mf.f6]
  simp [beqI, bneI, mm_min2, mm_max2, mm_min3, mm_max3, startE, lkE, lkX, lkE_rest, sx, substE, opVA, objs0, List.replicate, XA_seq, XA_region, XOA_go, goE_someA, opV, ev, putA, layAll, XOA_nil, XA_skip_seq, XA_skip_nil, XOA_gd, goG_tA, goG_uA, binV, bi_add, bi_sub, bi_mul, bi_quo, bi_rem, bi_eql, bi_neq, bi_lss, bi_leq, bi_gtr, bi_geq, bi_shl, bi_shr, bi_and, bi_or, bi_xor, unV, XA_ret_nil, XA_ret_cons, endFA_r, endFA_n, endTA_r, endTA_n, endRA_r, endRA_n, endEA_r, endEA_n, List.take, fltR, resultsA, resAs, resA, XA_block, XA_cond, pickX_t, pickX_f, pickX_b, XA_skip_blk, XA_skip_lp, XA_exit_seq, XA_exit_lp, XA_exit_blk, XA_exit_nil, load1, Ev.loadCells, objCells, bodyCells, setCells, AV.flat, AV.flat1, backR, backV, backCell, mapO, AV.cells, AV.atom, AV.tree, fillV, repeatL, treeCell, freezeAll, eqCells, callV_T, callV_F, passN, passV, passCell, srcCells, sliceBounds, hiB, loB, thenQ_nA, thenQ_xA, thenQ_rA, runK_nA, runK_xA, runK_rA, wrap_i64, wrap_u64, wrap_u32, wrap_u8, wrap_u16, callV_O, okIds, passObjs, passBody, backObjs, backBody, adopts, List.idxOf?, List.findIdx?, List.findIdx?.go, isNilP, mapLook, mapGet, keyGet, adopts, List.lookup, callV_R, backBody, es, en, ew, htm, wk, wv, wv1, r1, r2, e1]
  refine XA_for (fun i => ⟨[(7, .ptr 0 0 0), (8, .int .i64 k), (9, .ptr 2 0 0), (10, .ptr 3 0 0), (11, .int .i64 i)], [bV 0 1 0 ds0 1 (seqB ds0 1 S0 false R i), bM 0 (seqB ds0 1 S0 false R i), ⟨0, .var (rowC R)⟩, ⟨0, .var (rowC O)⟩]⟩)
    (fun _ => True) k 0 (Nat.zero_le _) (by simp [AV.atom, normA, lkE, fixObjs, fixBody, fixV, fixCell, seqB, bV, bM, rowC]) trivial ?_ ?_
  · intro i _ hi _
    have hi' : (i : Int) < k := by omega
    obtain ⟨Ha, ea⟩ := eUp i hi
    obtain ⟨Hb, eb⟩ := hasR (i + 1) (by omega)
    obtain ⟨Hc, ec⟩ := hasO (i + 1) (by omega)
    obtain ⟨Hd, ed⟩ := lenU (i + 1) (by omega)
    rw [add' i hi] at ea
    have hs : (doS ds0 1 (seqB ds0 1 S0 false R i) false R).2 = seqB ds0 1 S0 false R (i + 1) := rfl
    rw [hs] at ea
    generalize seqB ds0 1 S0 false R (i + 1) = S' at *
    generalize seqB ds0 1 S0 false R i = S at *
    have w1 : IntKind.i64.wrap ((i : Int) + 1) = ((i + 1 : Nat) : Int) := by rw [wrap_i64 (by omega) (by omega)]; omega
    have w2 : IntKind.i64.wrap ((i : Int) + 2) = ((i + 1 + 1 : Nat) : Int) := by rw [wrap_i64 (by omega) (by omega)]; omega
    simp [beqI, bneI, mm_min2, mm_max2, mm_min3, mm_max3, startE, lkE, lkX, lkE_rest, sx, substE, opVA, objs0, List.replicate, XA_seq, XA_region, XOA_go, goE_someA, opV, ev, putA, layAll, XOA_nil, XA_skip_seq, XA_skip_nil, XOA_gd, goG_tA, goG_uA, binV, bi_add, bi_sub, bi_mul, bi_quo, bi_rem, bi_eql, bi_neq, bi_lss, bi_leq, bi_gtr, bi_geq, bi_shl, bi_shr, bi_and, bi_or, bi_xor, unV, XA_ret_nil, XA_ret_cons, endFA_r, endFA_n, endTA_r, endTA_n, endRA_r, endRA_n, endEA_r, endEA_n, List.take, fltR, resultsA, resAs, resA, XA_block, XA_cond, pickX_t, pickX_f, pickX_b, XA_skip_blk, XA_skip_lp, XA_exit_seq, XA_exit_lp, XA_exit_blk, XA_exit_nil, load1, Ev.loadCells, objCells, bodyCells, setCells, AV.flat, AV.flat1, backR, backV, backCell, mapO, AV.cells, AV.atom, AV.tree, fillV, repeatL, treeCell, freezeAll, eqCells, callV_T, callV_F, passN, passV, passCell, srcCells, sliceBounds, hiB, loB, thenQ_nA, thenQ_xA, thenQ_rA, runK_nA, runK_xA, runK_rA, wrap_i64, wrap_u64, wrap_u32, wrap_u8, wrap_u16, callV_O, okIds, passObjs, passBody, backObjs, backBody, adopts, List.idxOf?, List.findIdx?, List.findIdx?.go, isNilP, mapLook, mapGet, keyGet, adopts, List.lookup, AV.atom, normA, lkE, fixObjs, fixBody, fixV, fixCell, bV, bM, rowC, hi', hi, ea, eb, ec, ed, w1, w2]
  · intro _
    simp [beqI, bneI, mm_min2, mm_max2, mm_min3, mm_max3, startE, lkE, lkX, lkE_rest, sx, substE, opVA, objs0, List.replicate, XA_seq, XA_region, XOA_go, goE_someA, opV, ev, putA, layAll, XOA_nil, XA_skip_seq, XA_skip_nil, XOA_gd, goG_tA, goG_uA, binV, bi_add, bi_sub, bi_mul, bi_quo, bi_rem, bi_eql, bi_neq, bi_lss, bi_leq, bi_gtr, bi_geq, bi_shl, bi_shr, bi_and, bi_or, bi_xor, unV, XA_ret_nil, XA_ret_cons, endFA_r, endFA_n, endTA_r, endTA_n, endRA_r, endRA_n, endEA_r, endEA_n, List.take, fltR, resultsA, resAs, resA, XA_block, XA_cond, pickX_t, pickX_f, pickX_b, XA_skip_blk, XA_skip_lp, XA_exit_seq, XA_exit_lp, XA_exit_blk, XA_exit_nil, load1, Ev.loadCells, objCells, bodyCells, setCells, AV.flat, AV.flat1, backR, backV, backCell, mapO, AV.cells, AV.atom, AV.tree, fillV, repeatL, treeCell, freezeAll, eqCells, callV_T, callV_F, passN, passV, passCell, srcCells, sliceBounds, hiB, loB, thenQ_nA, thenQ_xA, thenQ_rA, runK_nA, runK_xA, runK_rA, wrap_i64, wrap_u64, wrap_u32, wrap_u8, wrap_u16, callV_O, okIds, passObjs, passBody, backObjs, backBody, adopts, List.idxOf?, List.findIdx?, List.findIdx?.go, isNilP, mapLook, mapGet, keyGet, adopts, List.lookup, AV.atom, normA, lkE, fixObjs, fixBody, fixV, fixCell, bV, bM, rowC]
    generalize seqB ds0 1 S0 false R k = U at *
    refine XA_for (fun j => ⟨[(7, .ptr 0 0 0), (9, .ptr 2 0 0), (10, .ptr 3 0 0), (12, .int .i64 (((k - j : Nat)) : Int))], [bV 0 1 0 ds0 1 (seqB ds0 1 U true R j), bM 0 (seqB ds0 1 U true R j), ⟨0, .var (rowC R)⟩, ⟨0, .var (rowC O)⟩]⟩)
      (fun _ => True) k 0 (Nat.zero_le _) (by simp [AV.atom, normA, lkE, fixObjs, fixBody, fixV, fixCell, seqB, bV, bM, rowC]) trivial ?_ ?_
    · intro j _ hj _
      obtain ⟨Ha, ea⟩ := eDn j hj
      obtain ⟨Hb, eb⟩ := hasR2 (j + 1) (by omega)
      obtain ⟨Hc, ec⟩ := hasO2 (j + 1) (by omega)
      rw [del' j hj] at ea
      have hs : (doS ds0 1 (seqB ds0 1 U true R j) true R).2 = seqB ds0 1 U true R (j + 1) := rfl
      rw [hs] at ea
      generalize seqB ds0 1 U true R (j + 1) = S' at *
      generalize seqB ds0 1 U true R j = S at *
      have w1 : IntKind.i64.wrap (((k - j : Nat) : Int) - 1) = ((k - (j + 1) : Nat) : Int) := by rw [wrap_i64 (by omega) (by omega)]; omega
      have hp : (0 : Int) < ((k - j : Nat) : Int) := by omega
      generalize ((k - j : Nat) : Int) = z at *
      generalize ((k - (j + 1) : Nat) : Int) = z' at *
      simp [beqI, bneI, mm_min2, mm_max2, mm_min3, mm_max3, startE, lkE, lkX, lkE_rest, sx, substE, opVA, objs0, List.replicate, XA_seq, XA_region, XOA_go, goE_someA, opV, ev, putA, layAll, XOA_nil, XA_skip_seq, XA_skip_nil, XOA_gd, goG_tA, goG_uA, binV, bi_add, bi_sub, bi_mul, bi_quo, bi_rem, bi_eql, bi_neq, bi_lss, bi_leq, bi_gtr, bi_geq, bi_shl, bi_shr, bi_and, bi_or, bi_xor, unV, XA_ret_nil, XA_ret_cons, endFA_r, endFA_n, endTA_r, endTA_n, endRA_r, endRA_n, endEA_r, endEA_n, List.take, fltR, resultsA, resAs, resA, XA_block, XA_cond, pickX_t, pickX_f, pickX_b, XA_skip_blk, XA_skip_lp, XA_exit_seq, XA_exit_lp, XA_exit_blk, XA_exit_nil, load1, Ev.loadCells, objCells, bodyCells, setCells, AV.flat, AV.flat1, backR, backV, backCell, mapO, AV.cells, AV.atom, AV.tree, fillV, repeatL, treeCell, freezeAll, eqCells, callV_T, callV_F, passN, passV, passCell, srcCells, sliceBounds, hiB, loB, thenQ_nA, thenQ_xA, thenQ_rA, runK_nA, runK_xA, runK_rA, wrap_i64, wrap_u64, wrap_u32, wrap_u8, wrap_u16, callV_O, okIds, passObjs, passBody, backObjs, backBody, adopts, List.idxOf?, List.findIdx?, List.findIdx?.go, isNilP, mapLook, mapGet, keyGet, adopts, List.lookup, AV.atom, normA, lkE, fixObjs, fixBody, fixV, fixCell, bV, bM, rowC, hp, hj, ea, eb, ec, w1]
    · intro _
      generalize seqB ds0 1 U true R k = S at *
      simp [beqI, bneI, mm_min2, mm_max2, mm_min3, mm_max3, startE, lkE, lkX, lkE_rest, sx, substE, opVA, objs0, List.replicate, XA_seq, XA_region, XOA_go, goE_someA, opV, ev, putA, layAll, XOA_nil, XA_skip_seq, XA_skip_nil, XOA_gd, goG_tA, goG_uA, binV, bi_add, bi_sub, bi_mul, bi_quo, bi_rem, bi_eql, bi_neq, bi_lss, bi_leq, bi_gtr, bi_geq, bi_shl, bi_shr, bi_and, bi_or, bi_xor, unV, XA_ret_nil, XA_ret_cons, endFA_r, endFA_n, endTA_r, endTA_n, endRA_r, endRA_n, endEA_r, endEA_n, List.take, fltR, resultsA, resAs, resA, XA_block, XA_cond, pickX_t, pickX_f, pickX_b, XA_skip_blk, XA_skip_lp, XA_exit_seq, XA_exit_lp, XA_exit_blk, XA_exit_nil, load1, Ev.loadCells, objCells, bodyCells, setCells, AV.flat, AV.flat1, backR, backV, backCell, mapO, AV.cells, AV.atom, AV.tree, fillV, repeatL, treeCell, freezeAll, eqCells, callV_T, callV_F, passN, passV, passCell, srcCells, sliceBounds, hiB, loB, thenQ_nA, thenQ_xA, thenQ_rA, runK_nA, runK_xA, runK_rA, wrap_i64, wrap_u64, wrap_u32, wrap_u8, wrap_u16, callV_O, okIds, passObjs, passBody, backObjs, backBody, adopts, List.idxOf?, List.findIdx?, List.findIdx?.go, isNilP, mapLook, mapGet, keyGet, adopts, List.lookup, AV.atom, normA, lkE, fixObjs, fixBody, fixV, fixCell, bV, bM, rowC, e2, e3, e4, e5, e6, ew]
theorem rdarg_i16 {a : AV} (h : RDarg (.int .i16) a) : ∃ n, a = .int .i16 n ∧ -32768 ≤ n ∧ n ≤ 32767 := by
  simp only [RDarg, isAggG] at h
  obtain ⟨n, h1, h2⟩ := h
  simp at h1
  exact ⟨n, h1, h2.1, h2.2⟩
theorem baseMany_law (l : List AV) (h : RDargs [.int .u8, .int .i16, .int .u8] l) : ∃ H1, cfT tabB 6 l [] = some (.bool true, H1) := by
  obtain ⟨x, r, rfl, hx, y, r2, rfl, hy, z, r3, rfl, hz, rfl⟩ := h
  obtain ⟨n, rfl, hn⟩ := rdarg_u8 hx
  obtain ⟨v, rfl, hv⟩ := rdarg_i16 hy
  obtain ⟨k, rfl, hk⟩ := rdarg_u8 hz
  exact cvF_bool (many_ev n v k hn hv hk)
theorem baseMany_lifted (os : Os) (started : os.Started) (H : Type) (enc : TypeId × Value → H) :
    ReturnsInHanded {} Try.checked os 6 .any (Rows.baseManySpec.pre6 enc Try.prog Try.f6 Rows.baseManyRow.domain false) (Rows.baseManySpec.post enc Try.prog Try.f6 false true false false) := by
  refine returnsInHanded_of_change (C := Try.checked) Try.own started (by kernel_rfl) Try.func6
    (ChangeSpec.witness6 (enc := enc) (C := Try.checked) false ⟨#[], #[.int .u8 0 , .int .i16 0 , .int .u8 0], []⟩ 8 (by kernel_rfl) (by kernel_rfl) (by kernel_rfl) (by kernel_rfl)) ?_
  intro W base args ds gs before hval hW hcnd _
  have hval' : ∀ (j : Nat) (t : TypeId) (v : Value), Try.f6.params.toList[j]? = some t → args[j]? = some v → Value.okWide Try.prog W .any base t v := fun j t v h1 h2 => hval j t v (by simpa using h1) h2
  obtain ⟨p, q, hA, hV, hpq, _, _⟩ := id hW
  have hg : gtsB Try.prog [.int .u8, .int .i16, .int .u8] Try.f6.params.toList = true := by kernel_rfl
  refine (law_calls' tabB_ok hg baseMany_law hval' hA).mono fun e W' ⟨he, hb⟩ => ?_
  subst he
  refine ⟨_, rfl, post_true Try.laidOut (rt := 4) (fun ds h => ?_) rfl (by kernel_rfl) (by kernel_rfl) (by kernel_rfl) hW hb⟩
  match ds, h with
  | [_, _, _], _ => rfl
theorem baseMany_holds : Rows.BaseManySaid :=
  OpenClaim.holds_of_wide 6 Try.f6 rfl rfl rfl rfl rfl rfl rfl ⟨rfl, rfl, rfl, rfl, rfl⟩ rfl rfl rfl rfl rfl (by kernel_rfl) Try.func6 (by kernel_rfl)
    (of_decide_eq_true (by kernel_rfl)) (by unfold Func.isWrapper; first | (rw [if_pos (by decide +kernel)]; kernel_rfl) | (rw [if_neg (by decide +kernel)]; exact ⟨rfl, rfl⟩))
    (fun os started H enc _ => baseMany_lifted os started H enc)
end Go.Proofs.Ytmnafjgkhhdidaa
