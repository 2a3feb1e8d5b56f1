/- Sorted rows are the same rows, none less than the one ahead; in whatever order they came. -/
import Derived.Test.YtnlihobhbbopfaaRowU
import Derived.Test.YtnlihobhbbopfaaRowCom
set_option linter.unusedSimpArgs false
set_option linter.unusedVariables false
set_option maxHeartbeats 16000000
set_option maxRecDepth 100000
namespace Go.Proofs.Ytnlihobhbbopfaa
open Go.Ev
theorem smod_ev (x n : Int) (hx : inI x) (hn : 0 < n) (hn2 : n ≤ 1000000) : cvF tab 17 [.int .i64 x, .int .i64 n] = some (.int .i64 (x % n)) := by
  refine cvFA_R (mf := Mf.f17) rfl rfl (by kernel_rfl) ?_
  simp only [Mf.f17]
  have hn0 : ¬ n = 0 := by omega
  unfold inI at hx
  have h1 := Int.emod_nonneg x hn0
  have h2 := Int.emod_lt_of_pos x hn
  by_cases c : 0 ≤ x
  · have e : x.tmod n = x % n := Int.tmod_eq_emod_of_nonneg c
    have c2 : ¬ x % n < 0 := by omega
    simp [beqI, bneI, mm_min2, mm_max2, mm_min3, mm_max3, startE, lkE, lkX, lkE_rest, sx, substE, opVA, objs0, List.replicate, XA_seq, XA_region, XOA_go, goE_someA, opV, ev, putA, layAll, XOA_nil, XA_skip_seq, XA_skip_nil, XOA_gd, goG_tA, goG_uA, binV, bi_add, bi_sub, bi_mul, bi_quo, bi_rem, bi_eql, bi_neq, bi_lss, bi_leq, bi_gtr, bi_geq, bi_shl, bi_shr, bi_and, bi_or, bi_xor, unV, XA_ret_nil, XA_ret_cons, endFA_r, endFA_n, endTA_r, endTA_n, endRA_r, endRA_n, fltR, resultsA, resAs, resA, XA_block, XA_cond, pickX_t, pickX_f, pickX_b, XA_skip_blk, XA_skip_lp, XA_exit_seq, XA_exit_lp, XA_exit_blk, XA_exit_nil, load1, Ev.loadCells, objCells, bodyCells, setCells, AV.flat, AV.flat1, backR, backV, backCell, mapO, AV.cells, AV.atom, AV.tree, fillV, repeatL, treeCell, freezeAll, eqCells, callV_T, callV_F, passN, passV, passCell, srcCells, sliceBounds, hiB, loB, thenQ_nA, thenQ_xA, thenQ_rA, runK_nA, runK_xA, runK_rA, wrap_i64, wrap_u64, wrap_u32, wrap_u8, wrap_u16, hn0, e, c2]
  · by_cases c3 : x % n = 0
    · have e : x.tmod n = 0 := by
        rw [Int.tmod_eq_emod]
        have : n ∣ x := Int.dvd_of_emod_eq_zero c3
        simp [c3, this]
      simp [beqI, bneI, mm_min2, mm_max2, mm_min3, mm_max3, startE, lkE, lkX, lkE_rest, sx, substE, opVA, objs0, List.replicate, XA_seq, XA_region, XOA_go, goE_someA, opV, ev, putA, layAll, XOA_nil, XA_skip_seq, XA_skip_nil, XOA_gd, goG_tA, goG_uA, binV, bi_add, bi_sub, bi_mul, bi_quo, bi_rem, bi_eql, bi_neq, bi_lss, bi_leq, bi_gtr, bi_geq, bi_shl, bi_shr, bi_and, bi_or, bi_xor, unV, XA_ret_nil, XA_ret_cons, endFA_r, endFA_n, endTA_r, endTA_n, endRA_r, endRA_n, fltR, resultsA, resAs, resA, XA_block, XA_cond, pickX_t, pickX_f, pickX_b, XA_skip_blk, XA_skip_lp, XA_exit_seq, XA_exit_lp, XA_exit_blk, XA_exit_nil, load1, Ev.loadCells, objCells, bodyCells, setCells, AV.flat, AV.flat1, backR, backV, backCell, mapO, AV.cells, AV.atom, AV.tree, fillV, repeatL, treeCell, freezeAll, eqCells, callV_T, callV_F, passN, passV, passCell, srcCells, sliceBounds, hiB, loB, thenQ_nA, thenQ_xA, thenQ_rA, runK_nA, runK_xA, runK_rA, wrap_i64, wrap_u64, wrap_u32, wrap_u8, wrap_u16, hn0, e, c3]
    · have e : x.tmod n = x % n - n := by
        rw [Int.tmod_eq_emod]
        have : ¬ n ∣ x := fun h => c3 (Int.emod_eq_zero_of_dvd h)
        have hneg : ¬ 0 ≤ x := c
        simp [this, hneg]
        omega
      have c2 : x % n - n < 0 := by omega
      have w : IntKind.i64.wrap (x % n - n + n) = x % n := by rw [wrap_i64 (by omega) (by omega)]; omega
      have w2 : IntKind.i64.wrap (x % n) = x % n := wrap_i64 (by omega) (by omega)
      simp [beqI, bneI, mm_min2, mm_max2, mm_min3, mm_max3, startE, lkE, lkX, lkE_rest, sx, substE, opVA, objs0, List.replicate, XA_seq, XA_region, XOA_go, goE_someA, opV, ev, putA, layAll, XOA_nil, XA_skip_seq, XA_skip_nil, XOA_gd, goG_tA, goG_uA, binV, bi_add, bi_sub, bi_mul, bi_quo, bi_rem, bi_eql, bi_neq, bi_lss, bi_leq, bi_gtr, bi_geq, bi_shl, bi_shr, bi_and, bi_or, bi_xor, unV, XA_ret_nil, XA_ret_cons, endFA_r, endFA_n, endTA_r, endTA_n, endRA_r, endRA_n, fltR, resultsA, resAs, resA, XA_block, XA_cond, pickX_t, pickX_f, pickX_b, XA_skip_blk, XA_skip_lp, XA_exit_seq, XA_exit_lp, XA_exit_blk, XA_exit_nil, load1, Ev.loadCells, objCells, bodyCells, setCells, AV.flat, AV.flat1, backR, backV, backCell, mapO, AV.cells, AV.atom, AV.tree, fillV, repeatL, treeCell, freezeAll, eqCells, callV_T, callV_F, passN, passV, passCell, srcCells, sliceBounds, hiB, loB, thenQ_nA, thenQ_xA, thenQ_rA, runK_nA, runK_xA, runK_rA, wrap_i64, wrap_u64, wrap_u32, wrap_u8, wrap_u16, hn0, e, c2, w2]
theorem ltD_swo {l : List Rw} (h : okL l) : (srt l).Pairwise fun a b => ltD b a = false := by
  obtain ⟨L, rfl⟩ := ofL h
  unfold srt
  rw [← insS_val]
  have hp := insS_sorted swoW L
  generalize insS ltW L = M at *
  clear h
  induction M with
  | nil => simp
  | cons x M ih =>
    obtain ⟨h1, h2⟩ := List.pairwise_cons.1 hp
    rw [List.map_cons]
    refine List.pairwise_cons.2 ⟨fun y hy => ?_, ih h2⟩
    obtain ⟨z, hz, rfl⟩ := List.mem_map.1 hy
    exact h1 z hz
theorem srt_same {a b : List Rw} (ha : okL a) (h : a.Perm b) : srt a = srt b := by
  have hb : okL b := fun r hr => ha r (h.mem_iff.2 hr)
  refine List.Perm.eq_of_pairwise (le := fun x y => ltD y x = false) (fun x y hx hy h1 h2 => ?_) (ltD_swo ha) (ltD_swo hb) ((srt_perm a).trans (h.trans (srt_perm b).symm))
  by_cases c : x = y
  · exact c
  · rcases ltR_tri (srt_ok ha x hx) (srt_ok hb y hy) c with c | c
    · exact absurd c (of_decide_eq_false h2)
    · exact absurd c (of_decide_eq_false h1)
theorem take_count (l : List Rw) (i : Nat) (h : i < l.length) (x : Rw) : (l.take (i + 1)).count x = (l.take i).count x + if l[i] = x then 1 else 0 := by
  rw [List.take_succ_eq_append_getElem h, List.count_append, List.count_singleton]
  by_cases c : l[i] = x <;> simp [c]
theorem rowSorts_ev (l : List Rw) (at_ : Int) (hl : okL l) (ha : inI at_) : cvF tabS 8 [rW l, .int .i64 at_] = some (.bool true) := by
  refine cvFA_R (mf := Mf.f8) rfl rfl (by kernel_rfl) ?_
  simp only [Mf.f8]
  have ew := cvFS wakes_ev
  by_cases c60 : l.length ≤ 60
  · have c60' : ¬ 60 < (l.length : Int) := by omega
    have e1 := sort_ev hl (by omega)
    have e2 := cvFS (smod_ev at_ ((l.length : Int) + 1) ha (by omega) (by omega))
    have hk0 := Int.emod_nonneg at_ (show ((l.length : Int) + 1) ≠ 0 by omega)
    have hk1 := Int.emod_lt_of_pos at_ (show 0 < ((l.length : Int) + 1) by omega)
    obtain ⟨k, hk⟩ : ∃ k : Nat, at_ % ((l.length : Int) + 1) = k := ⟨(at_ % ((l.length : Int) + 1)).toNat, (Int.toNat_of_nonneg hk0).symm⟩
    rw [hk] at e2
    have hkl : k ≤ l.length := by omega
    have hp : (l.drop k ++ l.take k).Perm l := by
      have h := List.perm_append_comm (l₁ := l.drop k) (l₂ := l.take k)
      rwa [List.take_append_drop] at h
    have hok2 : okL (l.drop k ++ l.take k) := fun r hr => hl r (hp.mem_iff.1 hr)
    have e3 := sort_ev hok2 (by rw [hp.length_eq]; omega)
    rw [srt_same hok2 hp] at e3
    have hw : rW (l.drop k ++ l.take k) = .ro l.length (flatW (l.drop k) ++ flatW (l.take k)) := by unfold rW; rw [hp.length_eq, flatW_append]
    rw [hw] at e3
    have hsl := srt_len l
    have hrs : rW (srt l) = .ro l.length (flatW (srt l)) := by unfold rW; rw [hsl]
    rw [hrs] at e1 e3
    have lA : (flatW (l.drop k)).length = (l.length - k) * 6 := by rw [flatW_len, List.length_drop]
    have lB : (flatW (l.take k)).length = k * 6 := by rw [flatW_len, List.length_take, Nat.min_eq_left hkl]
    have hA : List.drop (k * 6) (flatW l) = flatW (l.drop k) := flatW_drop l k
    have hB : List.take (k * 6) (flatW l) = flatW (l.take k) := flatW_take l k
    have tA := flatW_tree (l.drop k)
    have tB := flatW_tree (l.take k)
    have hdl := fun i (h : i < l.length) => dropW l i h
    have hds := fun i (h : i < (srt l).length) => dropW (srt l) i h
    have hcnt := fun x => (srt_perm l).count_eq x
    have hpw := List.pairwise_iff_getElem.1 (ltD_swo hl)
    have hless := fun i j (hi : i < (srt l).length) (hj : j < (srt l).length) => cvFS (less_ev (srt l)[i] (srt l)[j] (srt_ok hl _ (List.getElem_mem hi)) (srt_ok hl _ (List.getElem_mem hj)))
    have htl := fun i (h : i < l.length) x => take_count l i h x
    have hts := fun i (h : i < (srt l).length) x => take_count (srt l) i h x
    have lfl := flatW_len l
    simp only [rW] at e1 ⊢
    generalize flatW (l.drop k) = A at *
    generalize flatW (l.take k) = B at *
    have q4 : List.take ((l.length - k) * 6) A = A := List.take_of_length_le (by omega)
    have hnk : l.length - k + k = l.length := by omega
    obtain ⟨n, hn⟩ : ∃ n, l.length = n := ⟨_, rfl⟩
    simp only [hn] at *
    obtain ⟨S, hS⟩ : ∃ S, srt l = S := ⟨_, rfl⟩
    simp only [hS] at *
    generalize hfl : flatW l = fl at *
    generalize hfs : flatW S = fs at *
    have q1 : (n - k) * 24 ≤ 140737488355328 := by omega
    have q2 : n - k < 4611686018427387904 := by omega
    have q3 : n * 24 ≤ 140737488355328 := by omega
    have q5 : n < 4611686018427387904 := by omega
    have q6 : (k : Int) ≤ (n : Int) := by omega
    have q7 : List.take (n * 6) (A ++ B) = A ++ B := List.take_of_length_le (by rw [List.length_append]; omega)
    have q8 : n * 6 ≤ (n - k) * 6 + k * 6 := by omega
    have w1 : IntKind.i64.wrap ((n : Int) + 1) = (n : Int) + 1 := wrap_i64 (by omega) (by omega)
    simp [beqI, bneI, mm_min2, mm_max2, mm_min3, mm_max3, startE, lkE, lkX, lkE_rest, sx, substE, opVA, objs0, List.replicate, XA_seq, XA_region, XOA_go, goE_someA, opV, ev, putA, layAll, XOA_nil, XA_skip_seq, XA_skip_nil, XOA_gd, goG_tA, goG_uA, binV, bi_add, bi_sub, bi_mul, bi_quo, bi_rem, bi_eql, bi_neq, bi_lss, bi_leq, bi_gtr, bi_geq, bi_shl, bi_shr, bi_and, bi_or, bi_xor, unV, XA_ret_nil, XA_ret_cons, endFA_r, endFA_n, endTA_r, endTA_n, endRA_r, endRA_n, fltR, resultsA, resAs, resA, XA_block, XA_cond, pickX_t, pickX_f, pickX_b, XA_skip_blk, XA_skip_lp, XA_exit_seq, XA_exit_lp, XA_exit_blk, XA_exit_nil, load1, Ev.loadCells, objCells, bodyCells, setCells, AV.flat, AV.flat1, backR, backV, backCell, mapO, AV.cells, AV.atom, AV.tree, fillV, repeatL, treeCell, freezeAll, eqCells, callV_T, callV_F, passN, passV, passCell, srcCells, sliceBounds, hiB, loB, thenQ_nA, thenQ_xA, thenQ_rA, runK_nA, runK_xA, runK_rA, wrap_i64, wrap_u64, wrap_u32, wrap_u8, wrap_u16, callV_O, okIds, passObjs, passBody, backObjs, backBody, adopts, List.idxOf?, List.findIdx?, List.findIdx?.go, c60', e1, e2, w1, hA, hB, q4, lA, lB, tA, tB, q1, q2, q3, q5, q6, q7, q8, hnk, e3, hkl]
    refine XA_for (fun i => ⟨[(0, .ro n fl), (5, .ro n fs), (7, .ro n fs), (8, .int .i64 i)], [⟨0, .none⟩]⟩)
      (fun _ => True) n 0 (Nat.zero_le _) (by simp [AV.atom, normA, lkE, fixObjs, fixBody, fixV, fixCell]) trivial ?_ ?_
    · intro i _ hi _
      have hi' : (i : Int) < n := by omega
      have hiS : i < S.length := by omega
      have dSi := hds i hiS
      have hws := wrap_succ i n hi (by omega)
      have hcx := hcnt S[i]
      have htl' := fun j (h : j < n) => htl j h S[i]
      have hts' := fun j (h : j < S.length) => hts j h S[i]
      have hprev : ∀ j (hj : j + 1 = i), ltD S[i] (S[j]'(by omega)) = false := fun j hj => hpw j i (by omega) hiS (by omega)
      have hle := fun j (hj : j < S.length) => hless i j hiS hj
      generalize S[i] = x at *
      simp only [rowC, List.cons_append, List.nil_append] at dSi
      simp [beqI, bneI, mm_min2, mm_max2, mm_min3, mm_max3, startE, lkE, lkX, lkE_rest, sx, substE, opVA, objs0, List.replicate, XA_seq, XA_region, XOA_go, goE_someA, opV, ev, putA, layAll, XOA_nil, XA_skip_seq, XA_skip_nil, XOA_gd, goG_tA, goG_uA, binV, bi_add, bi_sub, bi_mul, bi_quo, bi_rem, bi_eql, bi_neq, bi_lss, bi_leq, bi_gtr, bi_geq, bi_shl, bi_shr, bi_and, bi_or, bi_xor, unV, XA_ret_nil, XA_ret_cons, endFA_r, endFA_n, endTA_r, endTA_n, endRA_r, endRA_n, fltR, resultsA, resAs, resA, XA_block, XA_cond, pickX_t, pickX_f, pickX_b, XA_skip_blk, XA_skip_lp, XA_exit_seq, XA_exit_lp, XA_exit_blk, XA_exit_nil, load1, Ev.loadCells, objCells, bodyCells, setCells, AV.flat, AV.flat1, backR, backV, backCell, mapO, AV.cells, AV.atom, AV.tree, fillV, repeatL, treeCell, freezeAll, eqCells, callV_T, callV_F, passN, passV, passCell, srcCells, sliceBounds, hiB, loB, thenQ_nA, thenQ_xA, thenQ_rA, runK_nA, runK_xA, runK_rA, wrap_i64, wrap_u64, wrap_u32, wrap_u8, wrap_u16, AV.atom, normA, lkE, fixObjs, fixBody, fixV, fixCell, hi', hi]
      refine XA_for (fun j => ⟨[(0, .ro n fl), (5, .ro n fs), (7, .ro n fs), (8, .int .i64 i), (9, .int .i64 (((S.take j).count x : Nat) : Int)), (10, .int .i64 (((l.take j).count x : Nat) : Int)), (11, .int .i64 j)], [⟨0, .none⟩]⟩)
        (fun _ => True) n 0 (Nat.zero_le _) (by simp [AV.atom, normA, lkE, fixObjs, fixBody, fixV, fixCell]) trivial ?_ ?_
      · intro j _ hj _
        have hj' : (j : Int) < n := by omega
        have hjS : j < S.length := by omega
        have dSj := hds j hjS
        have dlj := hdl j hj
        have wj := wrap_succ j n hj (by omega)
        have s1 := hts' j hjS
        have s2 := htl' j hj
        have b1 := List.count_le_length (a := x) (l := S.take j)
        have b2 := List.count_le_length (a := x) (l := l.take j)
        rw [List.length_take] at b1 b2
        rw [s1, s2]
        generalize (S.take j).count x = cS at *
        generalize (l.take j).count x = cL at *
        generalize S[j] = p at *
        generalize l[j]'_ = r at *
        have ep := eq_rowB p x
        have er := eq_rowB r x
        have u1 : IntKind.i64.wrap ((cS : Int) + 1) = (cS : Int) + 1 := wrap_i64 (by omega) (by omega)
        have u2 : IntKind.i64.wrap ((cL : Int) + 1) = (cL : Int) + 1 := wrap_i64 (by omega) (by omega)
        simp only [rowC, List.cons_append, List.nil_append] at dSj dlj
        by_cases c1 : p = x
        · rw [decide_eq_true c1] at ep
          by_cases c2 : r = x
          · rw [decide_eq_true c2] at er
            simp [beqI, bneI, mm_min2, mm_max2, mm_min3, mm_max3, startE, lkE, lkX, lkE_rest, sx, substE, opVA, objs0, List.replicate, XA_seq, XA_region, XOA_go, goE_someA, opV, ev, putA, layAll, XOA_nil, XA_skip_seq, XA_skip_nil, XOA_gd, goG_tA, goG_uA, binV, bi_add, bi_sub, bi_mul, bi_quo, bi_rem, bi_eql, bi_neq, bi_lss, bi_leq, bi_gtr, bi_geq, bi_shl, bi_shr, bi_and, bi_or, bi_xor, unV, XA_ret_nil, XA_ret_cons, endFA_r, endFA_n, endTA_r, endTA_n, endRA_r, endRA_n, fltR, resultsA, resAs, resA, XA_block, XA_cond, pickX_t, pickX_f, pickX_b, XA_skip_blk, XA_skip_lp, XA_exit_seq, XA_exit_lp, XA_exit_blk, XA_exit_nil, load1, Ev.loadCells, objCells, bodyCells, setCells, AV.flat, AV.flat1, backR, backV, backCell, mapO, AV.cells, AV.atom, AV.tree, fillV, repeatL, treeCell, freezeAll, eqCells, callV_T, callV_F, passN, passV, passCell, srcCells, sliceBounds, hiB, loB, thenQ_nA, thenQ_xA, thenQ_rA, runK_nA, runK_xA, runK_rA, wrap_i64, wrap_u64, wrap_u32, wrap_u8, wrap_u16, AV.atom, normA, lkE, fixObjs, fixBody, fixV, fixCell, eqCells, hj', hj, hi', hi, dSj, dlj, dSi, wj, ep, er, c1, c2, u1, u2]
          · rw [decide_eq_false c2] at er
            simp [beqI, bneI, mm_min2, mm_max2, mm_min3, mm_max3, startE, lkE, lkX, lkE_rest, sx, substE, opVA, objs0, List.replicate, XA_seq, XA_region, XOA_go, goE_someA, opV, ev, putA, layAll, XOA_nil, XA_skip_seq, XA_skip_nil, XOA_gd, goG_tA, goG_uA, binV, bi_add, bi_sub, bi_mul, bi_quo, bi_rem, bi_eql, bi_neq, bi_lss, bi_leq, bi_gtr, bi_geq, bi_shl, bi_shr, bi_and, bi_or, bi_xor, unV, XA_ret_nil, XA_ret_cons, endFA_r, endFA_n, endTA_r, endTA_n, endRA_r, endRA_n, fltR, resultsA, resAs, resA, XA_block, XA_cond, pickX_t, pickX_f, pickX_b, XA_skip_blk, XA_skip_lp, XA_exit_seq, XA_exit_lp, XA_exit_blk, XA_exit_nil, load1, Ev.loadCells, objCells, bodyCells, setCells, AV.flat, AV.flat1, backR, backV, backCell, mapO, AV.cells, AV.atom, AV.tree, fillV, repeatL, treeCell, freezeAll, eqCells, callV_T, callV_F, passN, passV, passCell, srcCells, sliceBounds, hiB, loB, thenQ_nA, thenQ_xA, thenQ_rA, runK_nA, runK_xA, runK_rA, wrap_i64, wrap_u64, wrap_u32, wrap_u8, wrap_u16, AV.atom, normA, lkE, fixObjs, fixBody, fixV, fixCell, eqCells, hj', hj, hi', hi, dSj, dlj, dSi, wj, ep, er, c1, c2, u1, u2]
        · rw [decide_eq_false c1] at ep
          by_cases c2 : r = x
          · rw [decide_eq_true c2] at er
            simp [beqI, bneI, mm_min2, mm_max2, mm_min3, mm_max3, startE, lkE, lkX, lkE_rest, sx, substE, opVA, objs0, List.replicate, XA_seq, XA_region, XOA_go, goE_someA, opV, ev, putA, layAll, XOA_nil, XA_skip_seq, XA_skip_nil, XOA_gd, goG_tA, goG_uA, binV, bi_add, bi_sub, bi_mul, bi_quo, bi_rem, bi_eql, bi_neq, bi_lss, bi_leq, bi_gtr, bi_geq, bi_shl, bi_shr, bi_and, bi_or, bi_xor, unV, XA_ret_nil, XA_ret_cons, endFA_r, endFA_n, endTA_r, endTA_n, endRA_r, endRA_n, fltR, resultsA, resAs, resA, XA_block, XA_cond, pickX_t, pickX_f, pickX_b, XA_skip_blk, XA_skip_lp, XA_exit_seq, XA_exit_lp, XA_exit_blk, XA_exit_nil, load1, Ev.loadCells, objCells, bodyCells, setCells, AV.flat, AV.flat1, backR, backV, backCell, mapO, AV.cells, AV.atom, AV.tree, fillV, repeatL, treeCell, freezeAll, eqCells, callV_T, callV_F, passN, passV, passCell, srcCells, sliceBounds, hiB, loB, thenQ_nA, thenQ_xA, thenQ_rA, runK_nA, runK_xA, runK_rA, wrap_i64, wrap_u64, wrap_u32, wrap_u8, wrap_u16, AV.atom, normA, lkE, fixObjs, fixBody, fixV, fixCell, eqCells, hj', hj, hi', hi, dSj, dlj, dSi, wj, ep, er, c1, c2, u1, u2]
          · rw [decide_eq_false c2] at er
            simp [beqI, bneI, mm_min2, mm_max2, mm_min3, mm_max3, startE, lkE, lkX, lkE_rest, sx, substE, opVA, objs0, List.replicate, XA_seq, XA_region, XOA_go, goE_someA, opV, ev, putA, layAll, XOA_nil, XA_skip_seq, XA_skip_nil, XOA_gd, goG_tA, goG_uA, binV, bi_add, bi_sub, bi_mul, bi_quo, bi_rem, bi_eql, bi_neq, bi_lss, bi_leq, bi_gtr, bi_geq, bi_shl, bi_shr, bi_and, bi_or, bi_xor, unV, XA_ret_nil, XA_ret_cons, endFA_r, endFA_n, endTA_r, endTA_n, endRA_r, endRA_n, fltR, resultsA, resAs, resA, XA_block, XA_cond, pickX_t, pickX_f, pickX_b, XA_skip_blk, XA_skip_lp, XA_exit_seq, XA_exit_lp, XA_exit_blk, XA_exit_nil, load1, Ev.loadCells, objCells, bodyCells, setCells, AV.flat, AV.flat1, backR, backV, backCell, mapO, AV.cells, AV.atom, AV.tree, fillV, repeatL, treeCell, freezeAll, eqCells, callV_T, callV_F, passN, passV, passCell, srcCells, sliceBounds, hiB, loB, thenQ_nA, thenQ_xA, thenQ_rA, runK_nA, runK_xA, runK_rA, wrap_i64, wrap_u64, wrap_u32, wrap_u8, wrap_u16, AV.atom, normA, lkE, fixObjs, fixBody, fixV, fixCell, eqCells, hj', hj, hi', hi, dSj, dlj, dSi, wj, ep, er, c1, c2, u1, u2]
      · intro _
        have hT1 : S.take n = S := List.take_of_length_le (by omega)
        have hT2 : l.take n = l := List.take_of_length_le (by omega)
        rw [hT1, hT2, hcx]
        by_cases h0 : i = 0
        · subst h0
          simp at dSi hi' hws
          simp [beqI, bneI, mm_min2, mm_max2, mm_min3, mm_max3, startE, lkE, lkX, lkE_rest, sx, substE, opVA, objs0, List.replicate, XA_seq, XA_region, XOA_go, goE_someA, opV, ev, putA, layAll, XOA_nil, XA_skip_seq, XA_skip_nil, XOA_gd, goG_tA, goG_uA, binV, bi_add, bi_sub, bi_mul, bi_quo, bi_rem, bi_eql, bi_neq, bi_lss, bi_leq, bi_gtr, bi_geq, bi_shl, bi_shr, bi_and, bi_or, bi_xor, unV, XA_ret_nil, XA_ret_cons, endFA_r, endFA_n, endTA_r, endTA_n, endRA_r, endRA_n, fltR, resultsA, resAs, resA, XA_block, XA_cond, pickX_t, pickX_f, pickX_b, XA_skip_blk, XA_skip_lp, XA_exit_seq, XA_exit_lp, XA_exit_blk, XA_exit_nil, load1, Ev.loadCells, objCells, bodyCells, setCells, AV.flat, AV.flat1, backR, backV, backCell, mapO, AV.cells, AV.atom, AV.tree, fillV, repeatL, treeCell, freezeAll, eqCells, callV_T, callV_F, passN, passV, passCell, srcCells, sliceBounds, hiB, loB, thenQ_nA, thenQ_xA, thenQ_rA, runK_nA, runK_xA, runK_rA, wrap_i64, wrap_u64, wrap_u32, wrap_u8, wrap_u16, AV.atom, normA, lkE, fixObjs, fixBody, fixV, fixCell, eqCells, hi', hi, dSi, hws]
        · obtain ⟨j, rfl⟩ : ∃ j, i = j + 1 := ⟨i - 1, by omega⟩
          have hjS : j < S.length := by omega
          have hpv := hprev j rfl
          have el := hle j hjS
          have dSj := hds j hjS
          have hlt : decide (ltR x S[j]) = false := hpv
          rw [hlt] at el
          have wj : IntKind.i64.wrap (((j + 1 : Nat) : Int) - 1) = (j : Int) := by rw [wrap_i64 (by omega) (by omega)]; omega
          have hj' : (j : Int) < n := by omega
          have hj : j < n := by omega
          have h0' : (0 : Int) < ((j + 1 : Nat) : Int) := by omega
          generalize S[j] = p at *
          obtain ⟨i, hii⟩ : ∃ i, j + 1 = i := ⟨_, rfl⟩
          rw [hii] at dSi hi' hi wj hws h0' h0 ⊢
          have h0p : 0 < i := by omega
          simp only [rowC, List.cons_append, List.nil_append] at dSj el
          simp [beqI, bneI, mm_min2, mm_max2, mm_min3, mm_max3, startE, lkE, lkX, lkE_rest, sx, substE, opVA, objs0, List.replicate, XA_seq, XA_region, XOA_go, goE_someA, opV, ev, putA, layAll, XOA_nil, XA_skip_seq, XA_skip_nil, XOA_gd, goG_tA, goG_uA, binV, bi_add, bi_sub, bi_mul, bi_quo, bi_rem, bi_eql, bi_neq, bi_lss, bi_leq, bi_gtr, bi_geq, bi_shl, bi_shr, bi_and, bi_or, bi_xor, unV, XA_ret_nil, XA_ret_cons, endFA_r, endFA_n, endTA_r, endTA_n, endRA_r, endRA_n, fltR, resultsA, resAs, resA, XA_block, XA_cond, pickX_t, pickX_f, pickX_b, XA_skip_blk, XA_skip_lp, XA_exit_seq, XA_exit_lp, XA_exit_blk, XA_exit_nil, load1, Ev.loadCells, objCells, bodyCells, setCells, AV.flat, AV.flat1, backR, backV, backCell, mapO, AV.cells, AV.atom, AV.tree, fillV, repeatL, treeCell, freezeAll, eqCells, callV_T, callV_F, passN, passV, passCell, srcCells, sliceBounds, hiB, loB, thenQ_nA, thenQ_xA, thenQ_rA, runK_nA, runK_xA, runK_rA, wrap_i64, wrap_u64, wrap_u32, wrap_u8, wrap_u16, AV.atom, normA, lkE, fixObjs, fixBody, fixV, fixCell, eqCells, hi', hi, dSi, dSj, hj', hj, wj, hws, el, h0', h0p]
    · intro _
      simp [beqI, bneI, mm_min2, mm_max2, mm_min3, mm_max3, startE, lkE, lkX, lkE_rest, sx, substE, opVA, objs0, List.replicate, XA_seq, XA_region, XOA_go, goE_someA, opV, ev, putA, layAll, XOA_nil, XA_skip_seq, XA_skip_nil, XOA_gd, goG_tA, goG_uA, binV, bi_add, bi_sub, bi_mul, bi_quo, bi_rem, bi_eql, bi_neq, bi_lss, bi_leq, bi_gtr, bi_geq, bi_shl, bi_shr, bi_and, bi_or, bi_xor, unV, XA_ret_nil, XA_ret_cons, endFA_r, endFA_n, endTA_r, endTA_n, endRA_r, endRA_n, fltR, resultsA, resAs, resA, XA_block, XA_cond, pickX_t, pickX_f, pickX_b, XA_skip_blk, XA_skip_lp, XA_exit_seq, XA_exit_lp, XA_exit_blk, XA_exit_nil, load1, Ev.loadCells, objCells, bodyCells, setCells, AV.flat, AV.flat1, backR, backV, backCell, mapO, AV.cells, AV.atom, AV.tree, fillV, repeatL, treeCell, freezeAll, eqCells, callV_T, callV_F, passN, passV, passCell, srcCells, sliceBounds, hiB, loB, thenQ_nA, thenQ_xA, thenQ_rA, runK_nA, runK_xA, runK_rA, wrap_i64, wrap_u64, wrap_u32, wrap_u8, wrap_u16, AV.atom, normA, lkE, fixObjs, fixBody, fixV, fixCell, ew]
  · have c60' : 60 < (l.length : Int) := by omega
    simp [beqI, bneI, mm_min2, mm_max2, mm_min3, mm_max3, startE, lkE, lkX, lkE_rest, sx, substE, opVA, objs0, List.replicate, XA_seq, XA_region, XOA_go, goE_someA, opV, ev, putA, layAll, XOA_nil, XA_skip_seq, XA_skip_nil, XOA_gd, goG_tA, goG_uA, binV, bi_add, bi_sub, bi_mul, bi_quo, bi_rem, bi_eql, bi_neq, bi_lss, bi_leq, bi_gtr, bi_geq, bi_shl, bi_shr, bi_and, bi_or, bi_xor, unV, XA_ret_nil, XA_ret_cons, endFA_r, endFA_n, endTA_r, endTA_n, endRA_r, endRA_n, fltR, resultsA, resAs, resA, XA_block, XA_cond, pickX_t, pickX_f, pickX_b, XA_skip_blk, XA_skip_lp, XA_exit_seq, XA_exit_lp, XA_exit_blk, XA_exit_nil, load1, Ev.loadCells, objCells, bodyCells, setCells, AV.flat, AV.flat1, backR, backV, backCell, mapO, AV.cells, AV.atom, AV.tree, fillV, repeatL, treeCell, freezeAll, eqCells, callV_T, callV_F, passN, passV, passCell, srcCells, sliceBounds, hiB, loB, thenQ_nA, thenQ_xA, thenQ_rA, runK_nA, runK_xA, runK_rA, wrap_i64, wrap_u64, wrap_u32, wrap_u8, wrap_u16, rW, c60', ew]
theorem rowSorts_law (l : List AV) (h : RDargs [.slice gRow, .int .i64] l) : ∃ H1, cfT tabS 8 l [] = some (.bool true, H1) := by
  obtain ⟨x, r, rfl, hx, y, r2, rfl, hy, rfl⟩ := h
  obtain ⟨l, rfl, hl⟩ := rdarg_rows hx
  obtain ⟨n, rfl, hn⟩ := rdarg_i64 hy
  exact cvF_bool (rowSorts_ev l n hl hn)
theorem rowSorts_lifted (os : Os) (started : os.Started) (H : Type) (enc : TypeId × Value → H) :
    ReturnsInHanded {} Try.checked os 8 .any (Rows.rowSortsSpec.pre6 enc Try.prog Try.f8 Rows.rowSortsRow.domain false) (Rows.rowSortsSpec.post enc Try.prog Try.f8 false true false false) := by
  refine returnsInHanded_of_change (C := Try.checked) Try.own started (by kernel_rfl) Try.func8
    (ChangeSpec.witness6 (enc := enc) (C := Try.checked) false ⟨#[], #[.slice none 0 0 , .int .i64 0], []⟩ 8 (by kernel_rfl) (by kernel_rfl) (by kernel_rfl) (by kernel_rfl)) ?_
  intro W base args ds gs before hval hW hcnd _
  have hval' : ∀ (j : Nat) (t : TypeId) (v : Value), Try.f8.params.toList[j]? = some t → args[j]? = some v → Value.okWide Try.prog W .any base t v := fun j t v h1 h2 => hval j t v (by simpa using h1) h2
  obtain ⟨p, q, hA, hV, hpq, _, _⟩ := id hW
  have hg : gtsB Try.prog [.slice gRow, .int .i64] Try.f8.params.toList = true := by kernel_rfl
  refine (law_calls' tabS_ok hg rowSorts_law hval' hA).mono fun e W' ⟨he, hb⟩ => ?_
  subst he
  refine ⟨_, rfl, post_true Try.laidOut (rt := 4) (fun ds h => ?_) rfl (by kernel_rfl) (by kernel_rfl) (by kernel_rfl) hW hb⟩
  match ds, h with
  | [_, _], _ => rfl
theorem rowSorts_holds : Rows.RowSortsSaid :=
  OpenClaim.holds_of_wide 8 Try.f8 rfl rfl rfl rfl rfl rfl rfl ⟨rfl, rfl, rfl, rfl, rfl⟩ rfl rfl rfl rfl rfl (by kernel_rfl) Try.func8 (by kernel_rfl)
    (of_decide_eq_true (by kernel_rfl)) (by unfold Func.isWrapper; first | (rw [if_pos (by decide +kernel)]; kernel_rfl) | (rw [if_neg (by decide +kernel)]; exact ⟨rfl, rfl⟩))
    (fun os started H enc _ => rowSorts_lifted os started H enc)
end Go.Proofs.Ytnlihobhbbopfaa
