/- Of any dimension, any levels, any member: the program says what the document says. -/
import Derived.Test.YtgijhnaplifpdaaHierRef
import Derived.Test.YtgijhnaplifpdaaKeep
import Derived.Test.YtgijhnaplifpdaaDims
set_option linter.unusedSimpArgs false
set_option linter.unusedVariables false
set_option maxHeartbeats 4000000
set_option maxRecDepth 100000
namespace Go.Proofs.Ytgijhnaplifpdaa
open Go.Ev
theorem fits_of {S : List Int} {U : List (List Int)} (h : okD S U) : S.length ≤ 9223372036854775807 ∧ fitsU U := ⟨h.1.1, h.2.1, fun l hl => (h.2.2 l hl).1⟩
theorem wakes_ev : cvF tab 9 [] = some (.bool true) := by
  have h : (evalFun tab 400 9 [] []).map (fun p => match p.1 with | .bool b => b | _ => false) = some true := by kernel_rfl
  obtain ⟨⟨r, H1⟩, h1, h2⟩ := Option.map_eq_some_iff.1 h
  have h3 := cfT_of h1
  unfold cvF
  rw [h3]
  cases r <;> simp at h2
  subst h2
  rfl
theorem refL_ok (S : List Int) (U : List (List Int)) (a b m : Int) : decide (0 ≤ refL S U a b m) = liftOk S U a b m := by
  unfold refL
  cases h : liftOk S U a b m with
  | false => simp
  | true =>
    obtain ⟨h1, h2, h3, h4, h5, h6⟩ := liftOk_iff h
    have := liftD_in h1 (a := a.toNat) (b := b.toNat) (m := m) (by omega) (by omega) h5 (by rw [Int.toNat_of_nonneg h2]; exact h6)
    simp
    exact this.1
theorem refL_max (S : List Int) (U : List (List Int)) (a b m : Int) : max (refL S U a b m) 0 = (if liftOk S U a b m = true then liftD S U a.toNat b.toNat m else 0) := by
  have h := refL_ok S U a b m
  unfold refL at *
  cases h1 : liftOk S U a b m with
  | false => rfl
  | true =>
    simp [h1] at h ⊢
    omega
theorem underD_neg (S : List Int) (U : List (List Int)) (b m a : Int) (h : ¬ (0 ≤ a ∧ a ≤ b)) : underD S U b m a = [] := by
  unfold underD
  split
  · rename_i c
    have : sizeD S U a = 0 := by
      unfold sizeD
      rw [if_neg (by omega)]
    rw [this]; rfl
  · rfl
theorem told_ev (S : List Int) (U : List (List Int)) (a b m : Int) (hD : okD S U) (hb : inI b) : cvF tab 11 [.agg [rI S, rR U, .int .i64 a, .int .i64 b, .int .i64 m]] = some (.bool true) := by
  refine cvFA_R (mf := Mf.f11) rfl rfl (by kernel_rfl) ?_
  obtain ⟨hS, hU⟩ := fits_of hD
  have e1 := Lift_ev S U a b m hS hU
  have e2 := refLift_ev S U a b m hS hU
  have e3 := refUnder_ev S U b m a hS hU
  have e4 := refUnder_ev S U b m (b - 1) hS hU
  have e5 := good_ev S U hS hU
  have e6 := refGood_ev S U hS hU
  have e7 := size_ev S U b hS hU
  have e8 := refSize_ev S U b hS hU
  have e9 := Under_ev S U b m a hS hU
  have e10 := Kids_ev S U b m hb hS hU
  have hlen : ∀ b m a : Int, (underD S U b m a).length ≤ 9223372036854775807 := fun b m a => by
    unfold underD
    split
    · have h1 := underP_len S U b m a (sizeD S U a).toNat
      have h2 := sizeD_range S U a
      omega
    · simp
  have e11 := ints_ev (underD S U b m a) (underD S U b m a) (hlen _ _ _)
  have e12 := ints_ev (underD S U b m (b - 1)) (underD S U b m (b - 1)) (hlen _ _ _)
  have e13 : cvF tab 23 [.ro 0 [], .ro 0 []] = some (.bool true) := by simpa [rI] using ints_ev [] [] (by simp)
  have r1 := refL_ok S U a b m
  have r2 := refL_max S U a b m
  simp only [rI, rR] at e1 e2 e3 e4 e5 e6 e7 e8 e9 e10 e11 e12
  unfold inI at hb
  simp only [Mf.f11]
  by_cases c2 : 0 < b
  · have hw : IntKind.i64.wrap (b - 1) = b - 1 := wrap_i64 (by omega) (by omega)
    have hk : kidsD S U b m = underD S U b m (b - 1) := by unfold kidsD; rw [if_neg (by omega)]
    rw [hk] at e10
    by_cases c : 0 ≤ a ∧ a ≤ b
    · simp [beqI, bneI, mm_min2, mm_max2, mm_min3, mm_max3, startE, lkE, lkX, lkE_rest, sx, substE, opVA, objs0, List.replicate, XA_seq, XA_region, XOA_go, goE_someA, opV, ev, putA, layAll, XOA_nil, XA_skip_seq, XA_skip_nil, XOA_gd, goG_tA, goG_uA, binV, binInt, unV, XA_ret_nil, XA_ret_cons, endFA_r, endFA_n, endTA_r, endTA_n, endRA_r, endRA_n, fltR, resultsA, resAs, resA, XA_block, XA_cond, pickX_t, pickX_f, pickX_b, XA_skip_blk, XA_skip_lp, XA_exit_seq, XA_exit_lp, XA_exit_blk, XA_exit_nil, load1, Ev.loadCells, objCells, bodyCells, setCells, AV.flat, AV.flat1, backR, backV, backCell, mapO, AV.cells, AV.atom, AV.tree, fillV, repeatL, treeCell, freezeAll, eqCells, callV_T, callV_F, passV, passCell, srcCells, sliceBounds, hiB, loB, thenQ_nA, thenQ_xA, thenQ_rA, runK_nA, runK_xA, runK_rA, wrap_i64, wrap_u64, wrap_u32, wrap_u8, wrap_u16, rI, rR, e1, e2, e3, e4, e5, e6, e7, e8, e9, e10, e11, e12, r1, r2, c, c2, hw]
    · rw [underD_neg S U b m a c] at e9
      by_cases c3 : 0 ≤ a
      · have c4 : ¬ a ≤ b := fun h => c ⟨c3, h⟩
        simp [beqI, bneI, mm_min2, mm_max2, mm_min3, mm_max3, startE, lkE, lkX, lkE_rest, sx, substE, opVA, objs0, List.replicate, XA_seq, XA_region, XOA_go, goE_someA, opV, ev, putA, layAll, XOA_nil, XA_skip_seq, XA_skip_nil, XOA_gd, goG_tA, goG_uA, binV, binInt, unV, XA_ret_nil, XA_ret_cons, endFA_r, endFA_n, endTA_r, endTA_n, endRA_r, endRA_n, fltR, resultsA, resAs, resA, XA_block, XA_cond, pickX_t, pickX_f, pickX_b, XA_skip_blk, XA_skip_lp, XA_exit_seq, XA_exit_lp, XA_exit_blk, XA_exit_nil, load1, Ev.loadCells, objCells, bodyCells, setCells, AV.flat, AV.flat1, backR, backV, backCell, mapO, AV.cells, AV.atom, AV.tree, fillV, repeatL, treeCell, freezeAll, eqCells, callV_T, callV_F, passV, passCell, srcCells, sliceBounds, hiB, loB, thenQ_nA, thenQ_xA, thenQ_rA, runK_nA, runK_xA, runK_rA, wrap_i64, wrap_u64, wrap_u32, wrap_u8, wrap_u16, rI, rR, e1, e2, e3, e4, e5, e6, e7, e8, e9, e10, e12, e13, r1, r2, c3, c4, c2, hw]
      · simp [beqI, bneI, mm_min2, mm_max2, mm_min3, mm_max3, startE, lkE, lkX, lkE_rest, sx, substE, opVA, objs0, List.replicate, XA_seq, XA_region, XOA_go, goE_someA, opV, ev, putA, layAll, XOA_nil, XA_skip_seq, XA_skip_nil, XOA_gd, goG_tA, goG_uA, binV, binInt, unV, XA_ret_nil, XA_ret_cons, endFA_r, endFA_n, endTA_r, endTA_n, endRA_r, endRA_n, fltR, resultsA, resAs, resA, XA_block, XA_cond, pickX_t, pickX_f, pickX_b, XA_skip_blk, XA_skip_lp, XA_exit_seq, XA_exit_lp, XA_exit_blk, XA_exit_nil, load1, Ev.loadCells, objCells, bodyCells, setCells, AV.flat, AV.flat1, backR, backV, backCell, mapO, AV.cells, AV.atom, AV.tree, fillV, repeatL, treeCell, freezeAll, eqCells, callV_T, callV_F, passV, passCell, srcCells, sliceBounds, hiB, loB, thenQ_nA, thenQ_xA, thenQ_rA, runK_nA, runK_xA, runK_rA, wrap_i64, wrap_u64, wrap_u32, wrap_u8, wrap_u16, rI, rR, e1, e2, e3, e4, e5, e6, e7, e8, e9, e10, e12, e13, r1, r2, c3, c2, hw]
  · have hk : kidsD S U b m = [] := by unfold kidsD; rw [if_pos (by omega)]
    rw [hk] at e10
    by_cases c : 0 ≤ a ∧ a ≤ b
    · simp [beqI, bneI, mm_min2, mm_max2, mm_min3, mm_max3, startE, lkE, lkX, lkE_rest, sx, substE, opVA, objs0, List.replicate, XA_seq, XA_region, XOA_go, goE_someA, opV, ev, putA, layAll, XOA_nil, XA_skip_seq, XA_skip_nil, XOA_gd, goG_tA, goG_uA, binV, binInt, unV, XA_ret_nil, XA_ret_cons, endFA_r, endFA_n, endTA_r, endTA_n, endRA_r, endRA_n, fltR, resultsA, resAs, resA, XA_block, XA_cond, pickX_t, pickX_f, pickX_b, XA_skip_blk, XA_skip_lp, XA_exit_seq, XA_exit_lp, XA_exit_blk, XA_exit_nil, load1, Ev.loadCells, objCells, bodyCells, setCells, AV.flat, AV.flat1, backR, backV, backCell, mapO, AV.cells, AV.atom, AV.tree, fillV, repeatL, treeCell, freezeAll, eqCells, callV_T, callV_F, passV, passCell, srcCells, sliceBounds, hiB, loB, thenQ_nA, thenQ_xA, thenQ_rA, runK_nA, runK_xA, runK_rA, wrap_i64, wrap_u64, wrap_u32, wrap_u8, wrap_u16, rI, rR, e1, e2, e3, e4, e5, e6, e7, e8, e9, e10, e11, e13, r1, r2, c, c2]
    · rw [underD_neg S U b m a c] at e9
      by_cases c3 : 0 ≤ a
      · have c4 : ¬ a ≤ b := fun h => c ⟨c3, h⟩
        simp [beqI, bneI, mm_min2, mm_max2, mm_min3, mm_max3, startE, lkE, lkX, lkE_rest, sx, substE, opVA, objs0, List.replicate, XA_seq, XA_region, XOA_go, goE_someA, opV, ev, putA, layAll, XOA_nil, XA_skip_seq, XA_skip_nil, XOA_gd, goG_tA, goG_uA, binV, binInt, unV, XA_ret_nil, XA_ret_cons, endFA_r, endFA_n, endTA_r, endTA_n, endRA_r, endRA_n, fltR, resultsA, resAs, resA, XA_block, XA_cond, pickX_t, pickX_f, pickX_b, XA_skip_blk, XA_skip_lp, XA_exit_seq, XA_exit_lp, XA_exit_blk, XA_exit_nil, load1, Ev.loadCells, objCells, bodyCells, setCells, AV.flat, AV.flat1, backR, backV, backCell, mapO, AV.cells, AV.atom, AV.tree, fillV, repeatL, treeCell, freezeAll, eqCells, callV_T, callV_F, passV, passCell, srcCells, sliceBounds, hiB, loB, thenQ_nA, thenQ_xA, thenQ_rA, runK_nA, runK_xA, runK_rA, wrap_i64, wrap_u64, wrap_u32, wrap_u8, wrap_u16, rI, rR, e1, e2, e3, e4, e5, e6, e7, e8, e9, e10, e13, r1, r2, c3, c4, c2]
      · simp [beqI, bneI, mm_min2, mm_max2, mm_min3, mm_max3, startE, lkE, lkX, lkE_rest, sx, substE, opVA, objs0, List.replicate, XA_seq, XA_region, XOA_go, goE_someA, opV, ev, putA, layAll, XOA_nil, XA_skip_seq, XA_skip_nil, XOA_gd, goG_tA, goG_uA, binV, binInt, unV, XA_ret_nil, XA_ret_cons, endFA_r, endFA_n, endTA_r, endTA_n, endRA_r, endRA_n, fltR, resultsA, resAs, resA, XA_block, XA_cond, pickX_t, pickX_f, pickX_b, XA_skip_blk, XA_skip_lp, XA_exit_seq, XA_exit_lp, XA_exit_blk, XA_exit_nil, load1, Ev.loadCells, objCells, bodyCells, setCells, AV.flat, AV.flat1, backR, backV, backCell, mapO, AV.cells, AV.atom, AV.tree, fillV, repeatL, treeCell, freezeAll, eqCells, callV_T, callV_F, passV, passCell, srcCells, sliceBounds, hiB, loB, thenQ_nA, thenQ_xA, thenQ_rA, runK_nA, runK_xA, runK_rA, wrap_i64, wrap_u64, wrap_u32, wrap_u8, wrap_u16, rI, rR, e1, e2, e3, e4, e5, e6, e7, e8, e9, e10, e13, r1, r2, c3, c2]
def gAsk : GT := .pair gDim (.pair (.int .i64) (.pair (.int .i64) (.pair (.int .i64) .unit)))
theorem hierTells_ev (S : List Int) (U : List (List Int)) (a b m : Int) (hD : okD S U) (hb : inI b) : cvF tab 3 [.agg [rI S, rR U, .int .i64 a, .int .i64 b, .int .i64 m]] = some (.bool true) := by
  refine cvFA_R (mf := Mf.f3) rfl rfl (by kernel_rfl) ?_
  simp only [Mf.f3]
  have e1 := light_ev S U
  have e2 := fun a m b (hb : inI b) => told_ev S U a b m hD hb
  have hmb := modD_in b 5 (by omega)
  have e3 := told_ev S U a b m hD hb
  have e4 := told_ev S U (modD a 5) (modD b 5) (modD m 7) hD ⟨by omega, by omega⟩
  have e5 := told_ev S U (modD a 5) (modD b 5) m hD ⟨by omega, by omega⟩
  have e6 := mod_ev a 5 (by omega) (by omega)
  have e7 := mod_ev b 5 (by omega) (by omega)
  have e8 := mod_ev m 7 (by omega) (by omega)
  simp only [rI, rR] at e1 e3 e4 e5
  cases c : lightD S U with
  | false => simp [beqI, bneI, mm_min2, mm_max2, mm_min3, mm_max3, startE, lkE, lkX, lkE_rest, sx, substE, opVA, objs0, List.replicate, XA_seq, XA_region, XOA_go, goE_someA, opV, ev, putA, layAll, XOA_nil, XA_skip_seq, XA_skip_nil, XOA_gd, goG_tA, goG_uA, binV, binInt, unV, XA_ret_nil, XA_ret_cons, endFA_r, endFA_n, endTA_r, endTA_n, endRA_r, endRA_n, fltR, resultsA, resAs, resA, XA_block, XA_cond, pickX_t, pickX_f, pickX_b, XA_skip_blk, XA_skip_lp, XA_exit_seq, XA_exit_lp, XA_exit_blk, XA_exit_nil, load1, Ev.loadCells, objCells, bodyCells, setCells, AV.flat, AV.flat1, backR, backV, backCell, mapO, AV.cells, AV.atom, AV.tree, fillV, repeatL, treeCell, freezeAll, eqCells, callV_T, callV_F, passV, passCell, srcCells, sliceBounds, hiB, loB, thenQ_nA, thenQ_xA, thenQ_rA, runK_nA, runK_xA, runK_rA, wrap_i64, wrap_u64, wrap_u32, wrap_u8, wrap_u16, rI, rR, e1, c, wakes_ev]
  | true => simp [beqI, bneI, mm_min2, mm_max2, mm_min3, mm_max3, startE, lkE, lkX, lkE_rest, sx, substE, opVA, objs0, List.replicate, XA_seq, XA_region, XOA_go, goE_someA, opV, ev, putA, layAll, XOA_nil, XA_skip_seq, XA_skip_nil, XOA_gd, goG_tA, goG_uA, binV, binInt, unV, XA_ret_nil, XA_ret_cons, endFA_r, endFA_n, endTA_r, endTA_n, endRA_r, endRA_n, fltR, resultsA, resAs, resA, XA_block, XA_cond, pickX_t, pickX_f, pickX_b, XA_skip_blk, XA_skip_lp, XA_exit_seq, XA_exit_lp, XA_exit_blk, XA_exit_nil, load1, Ev.loadCells, objCells, bodyCells, setCells, AV.flat, AV.flat1, backR, backV, backCell, mapO, AV.cells, AV.atom, AV.tree, fillV, repeatL, treeCell, freezeAll, eqCells, callV_T, callV_F, passV, passCell, srcCells, sliceBounds, hiB, loB, thenQ_nA, thenQ_xA, thenQ_rA, runK_nA, runK_xA, runK_rA, wrap_i64, wrap_u64, wrap_u32, wrap_u8, wrap_u16, rI, rR, e1, c, wakes_ev, e3, e4, e5, e6, e7, e8]
theorem hierTells_law (l : List AV) (h : RDargs [gAsk] l) : ∃ H1, cfT tab 3 l [] = some (.bool true, H1) := by
  obtain ⟨x, r, rfl, hx, rfl⟩ := h
  simp only [RDarg, gAsk, isAggG, if_true] at hx
  obtain ⟨cs, rfl, d, e, rfl, hd, i1, e, rfl, h1, i2, e, rfl, h2, i3, e, rfl, h3, rfl⟩ := hx
  obtain ⟨S, U, rfl, hD⟩ := rd_dim hd
  obtain ⟨a, rfl, ha⟩ := rd_i64 h1
  obtain ⟨b, rfl, hb⟩ := rd_i64 h2
  obtain ⟨m, rfl, hm⟩ := rd_i64 h3
  exact cvF_bool (hierTells_ev S U a b m hD hb)
theorem hierTells_lifted (os : Os) (started : os.Started) (H : Type) (enc : TypeId × Value → H) :
    ReturnsInHanded {} Try.checked os 3 .any (Rows.hierTellsSpec.pre6 enc Try.prog Try.f3 Rows.hierTellsRow.domain false) (Rows.hierTellsSpec.post enc Try.prog Try.f3 false true false false) := by
  refine returnsInHanded_of_change (C := Try.checked) Try.own started (by kernel_rfl) Try.func3
    (ChangeSpec.witness6 (enc := enc) (C := Try.checked) false ⟨#[], #[.agg #[.slice none 0 0, .slice none 0 0, .int .i64 0, .int .i64 0, .int .i64 0]], []⟩ 8 (by kernel_rfl) (by kernel_rfl) (by kernel_rfl) (by kernel_rfl)) ?_
  intro W base args ds gs before hval hW hcnd _
  have hval' : ∀ (j : Nat) (t : TypeId) (v : Value), Try.f3.params.toList[j]? = some t → args[j]? = some v → Value.okWide Try.prog W .any base t v := fun j t v h1 h2 => hval j t v (by simpa using h1) h2
  obtain ⟨p, q, hA, hV, hpq, _, _⟩ := id hW
  have hg : gtsB Try.prog [gAsk] Try.f3.params.toList = true := by kernel_rfl
  refine (law_calls' tab_ok hg hierTells_law hval' hA).mono fun e W' ⟨he, hb⟩ => ?_
  subst he
  refine ⟨_, rfl, post_true Try.laidOut (rt := 4) (fun ds h => ?_) rfl (by kernel_rfl) (by kernel_rfl) (by kernel_rfl) hW hb⟩
  match ds, h with
  | [_], _ => rfl
theorem hierTells_holds : Rows.HierTellsSaid :=
  OpenClaim.holds_of_wide 3 Try.f3 rfl rfl rfl rfl rfl rfl rfl ⟨rfl, rfl, rfl, rfl, rfl⟩ rfl rfl rfl rfl rfl (by kernel_rfl) Try.func3 (by kernel_rfl)
    (of_decide_eq_true (by kernel_rfl)) (by unfold Func.isWrapper; first | (rw [if_pos (by decide +kernel)]; kernel_rfl) | (rw [if_neg (by decide +kernel)]; exact ⟨rfl, rfl⟩))
    (fun os started H enc _ => hierTells_lifted os started H enc)
end Go.Proofs.Ytgijhnaplifpdaa
