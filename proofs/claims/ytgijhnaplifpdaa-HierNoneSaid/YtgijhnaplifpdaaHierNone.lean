/- A dimension that may not be has no members, lifts nobody. -/
import Derived.Test.YtgijhnaplifpdaaHierCom
set_option linter.unusedSimpArgs false
set_option linter.unusedVariables false
set_option maxHeartbeats 4000000
set_option maxRecDepth 100000
namespace Go.Proofs.Ytgijhnaplifpdaa
open Go.Ev
theorem bad_size {S : List Int} {U : List (List Int)} (h : goodD S U = false) (lv : Int) : sizeD S U lv = 0 := by
  unfold sizeD
  rw [if_neg (fun c => by rw [h] at c; exact absurd c.1 (by simp))]
theorem bad_ok {S : List Int} {U : List (List Int)} (h : goodD S U = false) (a b m : Int) : liftOk S U a b m = false := by
  simp [liftOk, bad_size h]
theorem bad_under {S : List Int} {U : List (List Int)} (h : goodD S U = false) (a b m : Int) : underD S U b m a = [] := by
  unfold underD
  rw [bad_size h, if_neg (by omega)]
/-- All that is told of it. -/
structure Bad (S : List Int) (U : List (List Int)) : Prop where
  lift : cvF tab 15 [.agg [rI S, rR U], .int .i64 0, .int .i64 0, .int .i64 0] = some (.tup [.int .i64 0, .bool false])
  good : cvF tab 18 [.agg [rI S, rR U]] = some (.bool false)
  size : ∀ lv, cvF tab 19 [.agg [rI S, rR U], .int .i64 lv] = some (.int .i64 0)
  under : cvT tab 16 [.agg [rI S, rR U], .int .i64 1, .int .i64 0, .int .i64 0] = some (.ro 0 [])
  kids : cvT tab 17 [.agg [rI S, rR U], .int .i64 1, .int .i64 0] = some (.ro 0 [])
theorem bad_of {S : List Int} {U : List (List Int)} (h : goodD S U = false) (hS : S.length ≤ 9223372036854775807) (hU : fitsU U) : Bad S U := by
  have e1 := Lift_ev S U 0 0 0 hS hU
  have e2 := good_ev S U hS hU
  have e3 := fun lv => size_ev S U lv hS hU
  have e4 := Under_ev S U 1 0 0 hS hU
  have e5 := Kids_ev S U 1 0 ⟨by omega, by omega⟩ hS hU
  have k : kidsD S U 1 0 = [] := by unfold kidsD; rw [bad_under h]; rfl
  rw [bad_ok h] at e1
  simp only [bad_size h] at e3
  rw [bad_under h] at e4
  rw [k] at e5
  rw [h] at e2
  exact ⟨e1, e2, e3, e4, e5⟩
theorem hierNone_ev (S : List Int) (U : List (List Int)) (x n : Int) (hD : okD S U) (hx : 0 ≤ x ∧ x ≤ 255) :
    cvF tab 7 [.agg [rI S, rR U], .int .u8 x, .int .i64 n] = some (.bool true) := by
  refine cvFA_R (mf := Mf.f7) rfl rfl (by kernel_rfl) ?_
  simp only [Mf.f7]
  obtain ⟨hS, hU⟩ := fits_of hD
  have e1 := refGood_ev S U hS hU
  have e0 := good_ev S U hS hU
  simp only [rI, rR] at e1 e0
  cases g : goodD S U with
  | false => simp [beqI, bneI, mm_min2, mm_max2, mm_min3, mm_max3, startE, lkE, lkX, lkE_rest, sx, substE, opVA, objs0, List.replicate, XA_seq, XA_region, XOA_go, goE_someA, opV, ev, putA, layAll, XOA_nil, XA_skip_seq, XA_skip_nil, XOA_gd, goG_tA, goG_uA, binV, binInt, unV, XA_ret_nil, XA_ret_cons, endFA_r, endFA_n, endTA_r, endTA_n, endRA_r, endRA_n, fltR, resultsA, resAs, resA, XA_block, XA_cond, pickX_t, pickX_f, pickX_b, XA_skip_blk, XA_skip_lp, XA_exit_seq, XA_exit_lp, XA_exit_blk, XA_exit_nil, load1, Ev.loadCells, objCells, bodyCells, setCells, AV.flat, AV.flat1, backR, backV, backCell, mapO, AV.cells, AV.atom, AV.tree, fillV, repeatL, treeCell, freezeAll, eqCells, callV_T, callV_F, passV, passCell, srcCells, sliceBounds, hiB, loB, thenQ_nA, thenQ_xA, thenQ_rA, runK_nA, runK_xA, runK_rA, wrap_i64, wrap_u64, wrap_u32, wrap_u8, wrap_u16, rI, rR, e1, g, wakes_ev]
  | true =>
    have hl := good_len g
    have hy0 : 0 ≤ x.tmod 5 := Int.tmod_nonneg 5 hx.1
    have hy5 : x.tmod 5 < 5 := Int.tmod_lt_of_pos x (by omega)
    rw [g] at e0 e1
    match S, hl with
    | s0 :: S1, hl =>
    have hl1 : S1.length + 1 ≤ 4 := by simpa using hl.2.1
    have hl2 : U.length = S1.length := by simpa using hl.2.2
    have q1 : (S1.length + 1) * 8 ≤ 140737488355328 := by omega
    have q2 : S1.length + 1 < 4611686018427387904 := by omega
    have q3 : (S1.length + 1 + 4) * 8 ≤ 140737488355328 := by omega
    have q4 : S1.length + 1 + 4 < 4611686018427387904 := by omega
    have q5 : (1 + S1.length) * 8 ≤ 140737488355328 := by omega
    have q6 : 1 + S1.length < 4611686018427387904 := by omega
    have q7 : U.length * 24 ≤ 140737488355328 := by omega
    have q8 : U.length < 4611686018427387904 := by omega
    have q9 : (U.length + 1) * 24 ≤ 140737488355328 := by omega
    have q10 : U.length + 1 < 4611686018427387904 := by omega
    have hc1 : 1 + S1.length = S1.length + 1 := Nat.add_comm _ _
    have tS : (1 : Int) ≤ (S1.length : Int) + 1 := by omega
    by_cases y0 : x.tmod 5 = 0
    · have hb : goodD (s0 :: S1 ++ [1, 1, 1, 1]) U = false := by
        simp [goodD]
      obtain ⟨b1, b2, b3, b4, b5⟩ := bad_of hb (by simp; omega) hU
      simp [rI, rR] at b1 b2 b3 b4 b5 e0 e1
      simp [beqI, bneI, mm_min2, mm_max2, mm_min3, mm_max3, startE, lkE, lkX, lkE_rest, sx, substE, opVA, objs0, List.replicate, XA_seq, XA_region, XOA_go, goE_someA, opV, ev, putA, layAll, XOA_nil, XA_skip_seq, XA_skip_nil, XOA_gd, goG_tA, goG_uA, binV, binInt, unV, XA_ret_nil, XA_ret_cons, endFA_r, endFA_n, endTA_r, endTA_n, endRA_r, endRA_n, fltR, resultsA, resAs, resA, XA_block, XA_cond, pickX_t, pickX_f, pickX_b, XA_skip_blk, XA_skip_lp, XA_exit_seq, XA_exit_lp, XA_exit_blk, XA_exit_nil, load1, Ev.loadCells, objCells, bodyCells, setCells, AV.flat, AV.flat1, backR, backV, backCell, mapO, AV.cells, AV.atom, AV.tree, fillV, repeatL, treeCell, freezeAll, eqCells, callV_T, callV_F, passV, passCell, srcCells, sliceBounds, hiB, loB, thenQ_nA, thenQ_xA, thenQ_rA, runK_nA, runK_xA, runK_rA, wrap_i64, wrap_u64, wrap_u32, wrap_u8, wrap_u16, rI, rR, e0, e1, y0, q1, q2, q3, q4, b1, b2, b3, b4, b5, wakes_ev, List.take_of_length_le, or_imp, forall_and]
    · by_cases y1 : x.tmod 5 = 1
      · have hb : goodD (0 :: S1) U = false := by simp [goodD, inSize]
        obtain ⟨b1, b2, b3, b4, b5⟩ := bad_of hb (by simp; omega) hU
        simp [rI, rR] at b1 b2 b3 b4 b5 e0 e1
        simp [beqI, bneI, mm_min2, mm_max2, mm_min3, mm_max3, startE, lkE, lkX, lkE_rest, sx, substE, opVA, objs0, List.replicate, XA_seq, XA_region, XOA_go, goE_someA, opV, ev, putA, layAll, XOA_nil, XA_skip_seq, XA_skip_nil, XOA_gd, goG_tA, goG_uA, binV, binInt, unV, XA_ret_nil, XA_ret_cons, endFA_r, endFA_n, endTA_r, endTA_n, endRA_r, endRA_n, fltR, resultsA, resAs, resA, XA_block, XA_cond, pickX_t, pickX_f, pickX_b, XA_skip_blk, XA_skip_lp, XA_exit_seq, XA_exit_lp, XA_exit_blk, XA_exit_nil, load1, Ev.loadCells, objCells, bodyCells, setCells, AV.flat, AV.flat1, backR, backV, backCell, mapO, AV.cells, AV.atom, AV.tree, fillV, repeatL, treeCell, freezeAll, eqCells, callV_T, callV_F, passV, passCell, srcCells, sliceBounds, hiB, loB, thenQ_nA, thenQ_xA, thenQ_rA, runK_nA, runK_xA, runK_rA, wrap_i64, wrap_u64, wrap_u32, wrap_u8, wrap_u16, rI, rR, e0, e1, y0, y1, q5, q6, b1, b2, b3, b4, b5, wakes_ev, tS, q1, q2, hc1, List.take_of_length_le, or_imp, forall_and]
      · by_cases y2 : x.tmod 5 = 2
        · have hb : goodD (s0 :: S1) (U ++ [[0]]) = false := by simp [goodD]; omega
          obtain ⟨b1, b2, b3, b4, b5⟩ := bad_of hb (by simp; omega) ⟨by simp; omega, fun l hl => by
            rcases List.mem_append.1 hl with h | h
            · exact hU.2 l h
            · simp at h; subst h; simp⟩
          simp [rI, rR] at b1 b2 b3 b4 b5 e0 e1
          simp [beqI, bneI, mm_min2, mm_max2, mm_min3, mm_max3, startE, lkE, lkX, lkE_rest, sx, substE, opVA, objs0, List.replicate, XA_seq, XA_region, XOA_go, goE_someA, opV, ev, putA, layAll, XOA_nil, XA_skip_seq, XA_skip_nil, XOA_gd, goG_tA, goG_uA, binV, binInt, unV, XA_ret_nil, XA_ret_cons, endFA_r, endFA_n, endTA_r, endTA_n, endRA_r, endRA_n, fltR, resultsA, resAs, resA, XA_block, XA_cond, pickX_t, pickX_f, pickX_b, XA_skip_blk, XA_skip_lp, XA_exit_seq, XA_exit_lp, XA_exit_blk, XA_exit_nil, load1, Ev.loadCells, objCells, bodyCells, setCells, AV.flat, AV.flat1, backR, backV, backCell, mapO, AV.cells, AV.atom, AV.tree, fillV, repeatL, treeCell, freezeAll, eqCells, callV_T, callV_F, passV, passCell, srcCells, sliceBounds, hiB, loB, thenQ_nA, thenQ_xA, thenQ_rA, runK_nA, runK_xA, runK_rA, wrap_i64, wrap_u64, wrap_u32, wrap_u8, wrap_u16, rI, rR, e0, e1, y0, y1, y2, q7, q8, q9, q10, b1, b2, b3, b4, b5, wakes_ev, List.take_of_length_le, or_imp, forall_and, rI]
        · by_cases y3 : x.tmod 5 = 3
          · have hb : goodD (41 :: S1) U = false := by simp [goodD, inSize]
            obtain ⟨b1, b2, b3, b4, b5⟩ := bad_of hb (by simp; omega) hU
            simp [rI, rR] at b1 b2 b3 b4 b5 e0 e1
            simp [beqI, bneI, mm_min2, mm_max2, mm_min3, mm_max3, startE, lkE, lkX, lkE_rest, sx, substE, opVA, objs0, List.replicate, XA_seq, XA_region, XOA_go, goE_someA, opV, ev, putA, layAll, XOA_nil, XA_skip_seq, XA_skip_nil, XOA_gd, goG_tA, goG_uA, binV, binInt, unV, XA_ret_nil, XA_ret_cons, endFA_r, endFA_n, endTA_r, endTA_n, endRA_r, endRA_n, fltR, resultsA, resAs, resA, XA_block, XA_cond, pickX_t, pickX_f, pickX_b, XA_skip_blk, XA_skip_lp, XA_exit_seq, XA_exit_lp, XA_exit_blk, XA_exit_nil, load1, Ev.loadCells, objCells, bodyCells, setCells, AV.flat, AV.flat1, backR, backV, backCell, mapO, AV.cells, AV.atom, AV.tree, fillV, repeatL, treeCell, freezeAll, eqCells, callV_T, callV_F, passV, passCell, srcCells, sliceBounds, hiB, loB, thenQ_nA, thenQ_xA, thenQ_rA, runK_nA, runK_xA, runK_rA, wrap_i64, wrap_u64, wrap_u32, wrap_u8, wrap_u16, rI, rR, e0, e1, y0, y1, y2, y3, q5, q6, b1, b2, b3, b4, b5, wakes_ev, tS, q1, q2, hc1, List.take_of_length_le, or_imp, forall_and]
          · match U, hl2 with
            | [], _ =>
              simp [rI, rR] at e0 e1
              simp [beqI, bneI, mm_min2, mm_max2, mm_min3, mm_max3, startE, lkE, lkX, lkE_rest, sx, substE, opVA, objs0, List.replicate, XA_seq, XA_region, XOA_go, goE_someA, opV, ev, putA, layAll, XOA_nil, XA_skip_seq, XA_skip_nil, XOA_gd, goG_tA, goG_uA, binV, binInt, unV, XA_ret_nil, XA_ret_cons, endFA_r, endFA_n, endTA_r, endTA_n, endRA_r, endRA_n, fltR, resultsA, resAs, resA, XA_block, XA_cond, pickX_t, pickX_f, pickX_b, XA_skip_blk, XA_skip_lp, XA_exit_seq, XA_exit_lp, XA_exit_blk, XA_exit_nil, load1, Ev.loadCells, objCells, bodyCells, setCells, AV.flat, AV.flat1, backR, backV, backCell, mapO, AV.cells, AV.atom, AV.tree, fillV, repeatL, treeCell, freezeAll, eqCells, callV_T, callV_F, passV, passCell, srcCells, sliceBounds, hiB, loB, thenQ_nA, thenQ_xA, thenQ_rA, runK_nA, runK_xA, runK_rA, wrap_i64, wrap_u64, wrap_u32, wrap_u8, wrap_u16, rI, rR, e0, e1, y0, y1, y2, y3, wakes_ev]
            | u0 :: U1, hl2 =>
              match S1, hl1, hl2, hl with
              | s1 :: S2, hl1, hl2, hl =>
              have hu := good_up g (i := 0) (by simp)
              have hs0 := good_size g (i := 0) (by simp)
              have hs1 := good_size g (i := 1) (by simp)
              have hul := hU.2 u0 (by simp)
              simp [gR, gI] at hu hs0 hs1
              match u0, hu, hul with
              | [], hu, _ => simp at hu; omega
              | v0 :: u1, hu, hul =>
              have hb : goodD (s0 :: s1 :: S2) ((s1 :: u1) :: U1) = false := by
                unfold goodD
                rw [range_false (upAt (s0 :: s1 :: S2) ((s1 :: u1) :: U1)) _ 0 (by simp) (by
                  unfold upAt upB
                  have hw : IntKind.i64.wrap (s1 - 1) = s1 - 1 := wrap_i64 (by omega) (by omega)
                  simp [gR, gI, inUp, hw]
                  intros
                  omega)]
                simp
              obtain ⟨b1, b2, b3, b4, b5⟩ := bad_of hb (by simpa using hS) ⟨by simpa using hU.1, fun l hl => by
                rcases List.mem_cons.1 hl with h | h
                · subst h; simpa using hul
                · exact hU.2 l (by simp [h])⟩
              have hu1 : (u1.length : Int) + 1 = s0 := by simpa using hu.1
              have p1 : (u1.length + 1) * 8 ≤ 140737488355328 := by omega
              have p2 : u1.length + 1 < 4611686018427387904 := by omega
              have hU1 : U1.length = S2.length + 1 - 1 := by simp at hl2; omega
              have p3 : (1 + U1.length) * 24 ≤ 140737488355328 := by simp at hl1; omega
              have p4 : 1 + U1.length < 4611686018427387904 := by simp at hl1; omega
              have p5 : (U1.length + 1) * 24 ≤ 140737488355328 := by omega
              have p6 : U1.length + 1 < 4611686018427387904 := by omega
              have p7 : (0 : Int) < (u1.length : Int) + 1 := by omega
              have p8 : (1 : Int) ≤ (U1.length : Int) + 1 := by omega
              have p9 : ¬ (U1.length : Int) + 1 = 0 := by omega
              have p10 : (1 : Int) < (S2.length : Int) + 1 + 1 := by omega
              have hc2 : 1 + U1.length = U1.length + 1 := Nat.add_comm _ _
              simp [rI, rR] at b1 b2 b3 b4 b5 e0 e1
              simp [beqI, bneI, mm_min2, mm_max2, mm_min3, mm_max3, startE, lkE, lkX, lkE_rest, sx, substE, opVA, objs0, List.replicate, XA_seq, XA_region, XOA_go, goE_someA, opV, ev, putA, layAll, XOA_nil, XA_skip_seq, XA_skip_nil, XOA_gd, goG_tA, goG_uA, binV, binInt, unV, XA_ret_nil, XA_ret_cons, endFA_r, endFA_n, endTA_r, endTA_n, endRA_r, endRA_n, fltR, resultsA, resAs, resA, XA_block, XA_cond, pickX_t, pickX_f, pickX_b, XA_skip_blk, XA_skip_lp, XA_exit_seq, XA_exit_lp, XA_exit_blk, XA_exit_nil, load1, Ev.loadCells, objCells, bodyCells, setCells, AV.flat, AV.flat1, backR, backV, backCell, mapO, AV.cells, AV.atom, AV.tree, fillV, repeatL, treeCell, freezeAll, eqCells, callV_T, callV_F, passV, passCell, srcCells, sliceBounds, hiB, loB, thenQ_nA, thenQ_xA, thenQ_rA, runK_nA, runK_xA, runK_rA, wrap_i64, wrap_u64, wrap_u32, wrap_u8, wrap_u16, rI, rR, e0, e1, y0, y1, y2, y3, p1, p2, p3, p4, p5, p6, p7, p8, p9, p10, hc2, b1, b2, b3, b4, b5, wakes_ev, List.take_of_length_le, or_imp, forall_and]
theorem hierNone_law (l : List AV) (h : RDargs [gDim, .int .u8, .int .i64] l) : ∃ H1, cfT tab 7 l [] = some (.bool true, H1) := by
  obtain ⟨d, r, rfl, hd, x, r, rfl, hx, y, r, rfl, hy, rfl⟩ := h
  obtain ⟨S, U, rfl, hD⟩ := rdarg_dim hd
  obtain ⟨x, rfl, hx'⟩ := rdarg_u8 hx
  obtain ⟨y, rfl, hy'⟩ := rdarg_i64 hy
  exact cvF_bool (hierNone_ev S U x y hD hx')
theorem hierNone_lifted (os : Os) (started : os.Started) (H : Type) (enc : TypeId × Value → H) :
    ReturnsInHanded {} Try.checked os 7 .any (Rows.hierNoneSpec.pre6 enc Try.prog Try.f7 Rows.hierNoneRow.domain false) (Rows.hierNoneSpec.post enc Try.prog Try.f7 false true false false) := by
  refine returnsInHanded_of_change (C := Try.checked) Try.own started (by kernel_rfl) Try.func7
    (ChangeSpec.witness6 (enc := enc) (C := Try.checked) false ⟨#[], #[.agg #[.slice none 0 0, .slice none 0 0], .int .u8 0, .int .i64 0], []⟩ 8 (by kernel_rfl) (by kernel_rfl) (by kernel_rfl) (by kernel_rfl)) ?_
  intro W base args ds gs before hval hW hcnd _
  have hval' : ∀ (j : Nat) (t : TypeId) (v : Value), Try.f7.params.toList[j]? = some t → args[j]? = some v → Value.okWide Try.prog W .any base t v := fun j t v h1 h2 => hval j t v (by simpa using h1) h2
  obtain ⟨p, q, hA, hV, hpq, _, _⟩ := id hW
  have hg : gtsB Try.prog [gDim, .int .u8, .int .i64] Try.f7.params.toList = true := by kernel_rfl
  refine (law_calls' tab_ok hg hierNone_law hval' hA).mono fun e W' ⟨he, hb⟩ => ?_
  subst he
  refine ⟨_, rfl, post_true Try.laidOut (rt := 4) (fun ds h => ?_) rfl (by kernel_rfl) (by kernel_rfl) (by kernel_rfl) hW hb⟩
  match ds, h with
  | [_, _, _], _ => rfl
theorem hierNone_holds : Rows.HierNoneSaid :=
  OpenClaim.holds_of_wide 7 Try.f7 rfl rfl rfl rfl rfl rfl rfl ⟨rfl, rfl, rfl, rfl, rfl⟩ rfl rfl rfl rfl rfl (by kernel_rfl) Try.func7 (by kernel_rfl)
    (of_decide_eq_true (by kernel_rfl)) (by unfold Func.isWrapper; first | (rw [if_pos (by decide +kernel)]; kernel_rfl) | (rw [if_neg (by decide +kernel)]; exact ⟨rfl, rfl⟩))
    (fun os started H enc _ => hierNone_lifted os started H enc)
end Go.Proofs.Ytgijhnaplifpdaa
