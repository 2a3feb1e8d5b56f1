/- The mass of all rows may come to just so much, whatever signs they have: one more is too much, and what goes makes room. -/
import Derived.Test.YtmnafjgkhhdidaaBaI
set_option linter.unusedSimpArgs false
set_option linter.unusedVariables false
set_option maxHeartbeats 16000000
set_option maxRecDepth 100000
namespace Go.Proofs.Ytmnafjgkhhdidaa
open Go.Ev
theorem absI_sgn (b : Bool) (v : Int) (h : 0 ≤ v) : absI (if b then -v else v) = v := by
  cases b <;> simp [absI] <;> omega
theorem bound_ev (a at_ : Int) (n0 n1 : Bool) (ha : 0 ≤ a ∧ a ≤ 18446744073709551615) (hat : byte at_) : cvF tabB 5 [.int .u64 a, .agg [.bool n0, .bool n1], .int .u8 at_] = some (.bool true) := by
  unfold byte at hat
  have hv0 := Int.emod_nonneg a (show (2305843009213693953 : Int) ≠ 0 by omega)
  have hv1 := Int.emod_lt_of_pos a (show (0 : Int) < 2305843009213693953 by omega)
  have htm : a.tmod 2305843009213693953 = a % 2305843009213693953 := Int.tmod_eq_emod_of_nonneg ha.1
  generalize a % 2305843009213693953 = v at *
  obtain ⟨w, hw⟩ : ∃ w, w = 2305843009213693952 - v := ⟨_, rfl⟩
  have es := some_ev
  have en := cfB (cfS (new_cf ds0 1 ds0_ok (by decide)))
  have ew := wake_ev
  have wv : IntKind.i64.wrap v = v := wrap_i64 (by omega) (by omega)
  have ww : IntKind.i64.wrap (2305843009213693952 - v) = w := by rw [← hw]; exact wrap_i64 (by omega) (by omega)
  have wnv : IntKind.i64.wrap (-v) = -v := wrap_i64 (by omega) (by omega)
  have wnw : IntKind.i64.wrap (-w) = -w := wrap_i64 (by omega) (by omega)
  have hb1 : 0 ≤ IntKind.u8.wrap (at_ + 1) ∧ IntKind.u8.wrap (at_ + 1) % 4 = (at_ + 1) % 4 := by
    rcases Int.lt_or_le at_ 255 with h | h
    · rw [wrap_u8 (by omega) (by omega)]; omega
    · have : at_ = 255 := by omega
      subst this
      exact ⟨by decide, by decide⟩
  obtain ⟨X, hX⟩ : ∃ X, X = if n0 = true then -v else v := ⟨_, rfl⟩
  obtain ⟨Y, hY⟩ : ∃ Y, Y = if n1 = true then -w else w := ⟨_, rfl⟩
  have aX : absI X = v := by rw [hX]; exact absI_sgn n0 v (by omega)
  have aY : absI Y = w := by rw [hY]; exact absI_sgn n1 w (by omega)
  have iX : inI X := by rw [hX]; unfold inI; split <;> omega
  have iY : inI Y := by rw [hY]; unfold inI; split <;> omega
  have r1 := rowOf_ev at_ X hat.1
  have r2 := rowOf_ev (IntKind.u8.wrap (at_ + 1)) Y hb1.1
  have r3 := rowOf_ev 2 1 (by omega)
  have r4 := rowOf_ev 2 (-1) (by omega)
  have r5 := rowOf_ev 2 (-9223372036854775808) (by omega)
  have r6 := rowOf_ev 2 0 (by omega)
  have r8 := rowOf_ev 3 1 (by omega)
  have o1 : okW (row0 at_ X) := row0_ok hat.1 iX
  have o2 : okW (row0 (IntKind.u8.wrap (at_ + 1)) Y) := row0_ok hb1.1 iY
  have g1 : goodW ds0 1 (row0 at_ X) = true := row0_good hat.1
  have g2 : goodW ds0 1 (row0 (IntKind.u8.wrap (at_ + 1)) Y) = true := row0_good hb1.1
  have x1 : absI (row0 at_ X).x = v := aX
  have x2 : absI (row0 (IntKind.u8.wrap (at_ + 1)) Y).x = w := aY
  have y1 : absI (row0 at_ X).y = 0 := rfl
  have y2 : absI (row0 (IntKind.u8.wrap (at_ + 1)) Y).y = 0 := rfl
  generalize row0 at_ X = R1 at *
  generalize row0 (IntKind.u8.wrap (at_ + 1)) Y = R2 at *
  have z3 : absI (row0 2 1).x = 1 ∧ absI (row0 2 1).y = 0 := ⟨rfl, rfl⟩
  have z4 : absI (row0 2 (-1)).x = 1 ∧ absI (row0 2 (-1)).y = 0 := ⟨rfl, rfl⟩
  have z5 : absI (row0 2 (-9223372036854775808)).x = 9223372036854775808 ∧ absI (row0 2 (-9223372036854775808)).y = 0 := ⟨rfl, rfl⟩
  have z6 : absI (row0 2 0).x = 0 ∧ absI (row0 2 0).y = 0 := ⟨rfl, rfl⟩
  have z8 : absI (row0 3 1).x = 1 ∧ absI (row0 3 1).y = 0 := ⟨rfl, rfl⟩
  have q3 : goodW ds0 1 (row0 2 1) = true := row0_good (by omega)
  have q4 : goodW ds0 1 (row0 2 (-1)) = true := row0_good (by omega)
  have q5 : goodW ds0 1 (row0 2 (-9223372036854775808)) = true := row0_good (by omega)
  have q6 : goodW ds0 1 (row0 2 0) = true := row0_good (by omega)
  have q8 : goodW ds0 1 (row0 3 1) = true := row0_good (by omega)
  have p3 : okW (row0 2 1) := row0_ok (by omega) ⟨by omega, by omega⟩
  have p4 : okW (row0 2 (-1)) := row0_ok (by omega) ⟨by omega, by omega⟩
  have p5 : okW (row0 2 (-9223372036854775808)) := row0_ok (by omega) ⟨by omega, by omega⟩
  have p6 : okW (row0 2 0) := row0_ok (by omega) ⟨by omega, by omega⟩
  have p8 : okW (row0 3 1) := row0_ok (by omega) ⟨by omega, by omega⟩
  generalize hR3 : row0 2 1 = R3 at *
  generalize hR4 : row0 2 (-1) = R4 at *
  generalize hR5 : row0 2 (-9223372036854775808) = R5 at *
  generalize hR6 : row0 2 0 = R6 at *
  generalize hR8 : row0 3 1 = R8 at *
  clear hR3 hR4 hR5 hR6 hR8
  -- one after the other
  have mg : ∀ L : List Rw, massG L = true ↔ sumX L ≤ 2305843009213693952 ∧ sumY L ≤ 2305843009213693952 := fun L => by unfold massG MM; simp
  have add : ∀ (L : List Rw) (R : Rw), goodW ds0 1 R = true → (absI R.x + sumX L ≤ 2305843009213693952 ∧ absI R.y + sumY L ≤ 2305843009213693952) → errL ds0 1 L false R = 0 := by
    intro L R hg h
    unfold errL
    rw [hg]
    have : massG (R :: L) = true := (mg _).2 (by rw [sumX_cons, sumY_cons]; exact h)
    simp [this]
  have ovr : ∀ (L : List Rw) (R : Rw), goodW ds0 1 R = true → ¬ (absI R.x + sumX L ≤ 2305843009213693952 ∧ absI R.y + sumY L ≤ 2305843009213693952) → errL ds0 1 L false R = 9 := by
    intro L R hg h
    unfold errL
    rw [hg]
    have : massG (R :: L) = false := by
      cases hm : massG (R :: L) with
      | false => rfl
      | true => exact absurd (by have := (mg _).1 hm; rwa [sumX_cons, sumY_cons] at this) h
    simp [this]
  have sx0 : sumX [] = 0 := rfl
  have sy0 : sumY [] = 0 := rfl
  have sx1 : sumX [R1] = v := by rw [sumX_cons, sx0]; omega
  have sy1 : sumY [R1] = 0 := by rw [sumY_cons, sy0]; omega
  have sx2 : sumX [R2, R1] = 2305843009213693952 := by rw [sumX_cons, sx1]; omega
  have sy2 : sumY [R2, R1] = 0 := by rw [sumY_cons, sy1]; omega
  have sx6 : sumX [R6, R2, R1] = 2305843009213693952 := by rw [sumX_cons, sx2]; omega
  have sy6 : sumY [R6, R2, R1] = 0 := by rw [sumY_cons, sy2]; omega
  have hp7 : ([R6, R2, R1].Perm (R1 :: [R6, R2, R1].erase R1)) := List.perm_cons_erase (by simp)
  have sx7 : sumX ([R6, R2, R1].erase R1) = w := by have := sumX_perm hp7; rw [sumX_cons R1, sx6] at this; omega
  have sy7 : sumY ([R6, R2, R1].erase R1) = 0 := by have := sumY_perm hp7; rw [sumY_cons R1, sy6] at this; omega
  have l7 : ([R6, R2, R1].erase R1).length ≤ 1000000 := by have := hp7.length_eq; simp only [List.length_cons, List.length_nil] at this; omega
  obtain ⟨S1, H1, h1, e1⟩ := do_K ds0 1 false 0 [R1] ds0_ok rb0 o1 (by simp) (add _ _ g1 (by omega)) (by simp)
  obtain ⟨S2, H2, h2, e2⟩ := do_K ds0 1 false 0 [R2, R1] ds0_ok h1 o2 (by simp) (add _ _ g2 (by omega)) (by simp)
  obtain ⟨Hm, em⟩ := mass_R ds0 1 h2
  rw [sx2] at em
  obtain ⟨S3, H3, h3, e3⟩ := do_K ds0 1 false 9 [R2, R1] ds0_ok h2 p3 (by simp) (ovr _ _ q3 (by omega)) (by simp)
  obtain ⟨S4, H4, h4, e4⟩ := do_K ds0 1 false 9 [R2, R1] ds0_ok h3 p4 (by simp) (ovr _ _ q4 (by omega)) (by simp)
  obtain ⟨S5, H5, h5, e5⟩ := do_K ds0 1 false 9 [R2, R1] ds0_ok h4 p5 (by simp) (ovr _ _ q5 (by omega)) (by simp)
  obtain ⟨S6, H6, h6, e6⟩ := do_K ds0 1 false 0 [R6, R2, R1] ds0_ok h5 p6 (by simp) (add _ _ q6 (by omega)) (by simp)
  obtain ⟨S7, H7, h7, e7⟩ := do_K ds0 1 true 0 ([R6, R2, R1].erase R1) ds0_ok h6 o1 (by simp) (by unfold errL; rw [g1]; simp) (by simp)
  obtain ⟨S8, H8, h8, e8⟩ := do_K ds0 1 false (if 0 < v then 0 else 9) (if 0 < v then R8 :: [R6, R2, R1].erase R1 else [R6, R2, R1].erase R1) ds0_ok h7 p8 l7
    (by split
        · exact add _ _ q8 (by omega)
        · exact ovr _ _ q8 (by omega)) (by split <;> simp)
  clear h1 h2 h3 h4 h5 h6 h7 h8 add ovr mg
  simp only [rowC, chC, bV, bM] at e1 e2 em e3 e4 e5 e6 e7 e8 r1 r2 r3 r4 r5 r6 r8 en es
  generalize flatD ds0 = F at *
  generalize ds0.length = N at *
  refine cvFA_R (mf := Mf.f5) rfl rfl (by kernel_rfl) ?_
  simp only [Mf.f5]
  by_cases c : 0 < v
  · simp only [c, if_true] at e8
    cases n0 <;> cases n1 <;> simp only [Bool.false_eq_true, if_true, if_false] at hX hY <;> rw [hX] at r1 <;> rw [hY] at r2
    all_goals simp [beqI, bneI, mm_min2, mm_max2, mm_min3, mm_max3, startE, lkE, lkX, lkE_rest, sx, substE, opVA, objs0, List.replicate, XA_seq, XA_region, XOA_go, goE_someA, opV, ev, putA, layAll, XOA_nil, XA_skip_seq, XA_skip_nil, XOA_gd, goG_tA, goG_uA, binV, bi_add, bi_sub, bi_mul, bi_quo, bi_rem, bi_eql, bi_neq, bi_lss, bi_leq, bi_gtr, bi_geq, bi_shl, bi_shr, bi_and, bi_or, bi_xor, unV, XA_ret_nil, XA_ret_cons, endFA_r, endFA_n, endTA_r, endTA_n, endRA_r, endRA_n, endEA_r, endEA_n, List.take, fltR, resultsA, resAs, resA, XA_block, XA_cond, pickX_t, pickX_f, pickX_b, XA_skip_blk, XA_skip_lp, XA_exit_seq, XA_exit_lp, XA_exit_blk, XA_exit_nil, load1, Ev.loadCells, objCells, bodyCells, setCells, AV.flat, AV.flat1, backR, backV, backCell, mapO, AV.cells, AV.atom, AV.tree, fillV, repeatL, treeCell, freezeAll, eqCells, callV_T, callV_F, passN, passV, passCell, srcCells, sliceBounds, hiB, loB, thenQ_nA, thenQ_xA, thenQ_rA, runK_nA, runK_xA, runK_rA, wrap_i64, wrap_u64, wrap_u32, wrap_u8, wrap_u16, callV_O, okIds, passObjs, passBody, backObjs, backBody, adopts, List.idxOf?, List.findIdx?, List.findIdx?.go, isNilP, mapLook, mapGet, keyGet, adopts, List.lookup, callV_R, backBody, es, en, ew, htm, wv, ww, wnv, wnw, e1, e2, em, e3, e4, e5, e6, e7, e8, r1, r2, r3, r4, r5, r6, r8, c]
  · simp only [c, if_false] at e8
    cases n0 <;> cases n1 <;> simp only [Bool.false_eq_true, if_true, if_false] at hX hY <;> rw [hX] at r1 <;> rw [hY] at r2
    all_goals simp [beqI, bneI, mm_min2, mm_max2, mm_min3, mm_max3, startE, lkE, lkX, lkE_rest, sx, substE, opVA, objs0, List.replicate, XA_seq, XA_region, XOA_go, goE_someA, opV, ev, putA, layAll, XOA_nil, XA_skip_seq, XA_skip_nil, XOA_gd, goG_tA, goG_uA, binV, bi_add, bi_sub, bi_mul, bi_quo, bi_rem, bi_eql, bi_neq, bi_lss, bi_leq, bi_gtr, bi_geq, bi_shl, bi_shr, bi_and, bi_or, bi_xor, unV, XA_ret_nil, XA_ret_cons, endFA_r, endFA_n, endTA_r, endTA_n, endRA_r, endRA_n, endEA_r, endEA_n, List.take, fltR, resultsA, resAs, resA, XA_block, XA_cond, pickX_t, pickX_f, pickX_b, XA_skip_blk, XA_skip_lp, XA_exit_seq, XA_exit_lp, XA_exit_blk, XA_exit_nil, load1, Ev.loadCells, objCells, bodyCells, setCells, AV.flat, AV.flat1, backR, backV, backCell, mapO, AV.cells, AV.atom, AV.tree, fillV, repeatL, treeCell, freezeAll, eqCells, callV_T, callV_F, passN, passV, passCell, srcCells, sliceBounds, hiB, loB, thenQ_nA, thenQ_xA, thenQ_rA, runK_nA, runK_xA, runK_rA, wrap_i64, wrap_u64, wrap_u32, wrap_u8, wrap_u16, callV_O, okIds, passObjs, passBody, backObjs, backBody, adopts, List.idxOf?, List.findIdx?, List.findIdx?.go, isNilP, mapLook, mapGet, keyGet, adopts, List.lookup, callV_R, backBody, es, en, ew, htm, wv, ww, wnv, wnw, e1, e2, em, e3, e4, e5, e6, e7, e8, r1, r2, r3, r4, r5, r6, r8, c]
theorem rd_boolB {cs : List AV} (h : RD .bool cs) : ∃ b, cs = [.bool b] := h
theorem baseBound_law (l : List AV) (h : RDargs [.int .u64, .arr 2 .bool, .int .u8] l) : ∃ H1, cfT tabB 5 l [] = some (.bool true, H1) := by
  obtain ⟨x, r, rfl, hx, y, r2, rfl, hy, z, r3, rfl, hz, rfl⟩ := h
  obtain ⟨n, rfl, hn⟩ : ∃ n, x = .int .u64 n ∧ 0 ≤ n ∧ n ≤ 18446744073709551615 := by
    simp only [RDarg, isAggG] at hx
    obtain ⟨n, h1, h2⟩ := hx
    simp at h1
    exact ⟨n, h1, h2.1, h2.2⟩
  obtain ⟨n0, n1, rfl⟩ : ∃ n0 n1, y = .agg [.bool n0, .bool n1] := by
    simp only [RDarg, isAggG, if_true] at hy
    obtain ⟨cs, rfl, L, hL, rfl, hx⟩ := hy
    match L, hL, hx with
    | [a, b], _, hx =>
      obtain ⟨n0, rfl⟩ := rd_boolB (hx a (by simp))
      obtain ⟨n1, rfl⟩ := rd_boolB (hx b (by simp))
      exact ⟨n0, n1, rfl⟩
  obtain ⟨k, rfl, hk⟩ := rdarg_u8 hz
  exact cvF_bool (bound_ev n k n0 n1 hn hk)
theorem baseBound_lifted (os : Os) (started : os.Started) (H : Type) (enc : TypeId × Value → H) :
    ReturnsInHanded {} Try.checked os 5 .any (Rows.baseBoundSpec.pre6 enc Try.prog Try.f5 Rows.baseBoundRow.domain false) (Rows.baseBoundSpec.post enc Try.prog Try.f5 false true false false) := by
  refine returnsInHanded_of_change (C := Try.checked) Try.own started (by kernel_rfl) Try.func5
    (ChangeSpec.witness6 (enc := enc) (C := Try.checked) false ⟨#[], #[.int .u64 0 , .agg #[.bool false, .bool false] , .int .u8 0], []⟩ 8 (by kernel_rfl) (by kernel_rfl) (by kernel_rfl) (by kernel_rfl)) ?_
  intro W base args ds gs before hval hW hcnd _
  have hval' : ∀ (j : Nat) (t : TypeId) (v : Value), Try.f5.params.toList[j]? = some t → args[j]? = some v → Value.okWide Try.prog W .any base t v := fun j t v h1 h2 => hval j t v (by simpa using h1) h2
  obtain ⟨p, q, hA, hV, hpq, _, _⟩ := id hW
  have hg : gtsB Try.prog [.int .u64, .arr 2 .bool, .int .u8] Try.f5.params.toList = true := by kernel_rfl
  refine (law_calls' tabB_ok hg baseBound_law hval' hA).mono fun e W' ⟨he, hb⟩ => ?_
  subst he
  refine ⟨_, rfl, post_true Try.laidOut (rt := 4) (fun ds h => ?_) rfl (by kernel_rfl) (by kernel_rfl) (by kernel_rfl) hW hb⟩
  match ds, h with
  | [_, _, _], _ => rfl
theorem baseBound_holds : Rows.BaseBoundSaid :=
  OpenClaim.holds_of_wide 5 Try.f5 rfl rfl rfl rfl rfl rfl rfl ⟨rfl, rfl, rfl, rfl, rfl⟩ rfl rfl rfl rfl rfl (by kernel_rfl) Try.func5 (by kernel_rfl)
    (of_decide_eq_true (by kernel_rfl)) (by unfold Func.isWrapper; first | (rw [if_pos (by decide +kernel)]; kernel_rfl) | (rw [if_neg (by decide +kernel)]; exact ⟨rfl, rfl⟩))
    (fun os started H enc _ => baseBound_lifted os started H enc)
end Go.Proofs.Ytmnafjgkhhdidaa
