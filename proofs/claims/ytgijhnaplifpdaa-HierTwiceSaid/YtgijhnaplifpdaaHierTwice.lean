/- Lifted twice is lifted once; to its own level a member is itself; to the whole it is 0. -/
import Derived.Test.YtgijhnaplifpdaaHierCom
set_option linter.unusedSimpArgs false
set_option linter.unusedVariables false
set_option maxHeartbeats 4000000
set_option maxRecDepth 100000
namespace Go.Proofs.Ytgijhnaplifpdaa
open Go.Ev
theorem hierTwice_ev (S : List Int) (U : List (List Int)) (x y z w : Int) (hD : okD S U) (hx : 0 ≤ x ∧ x ≤ 255) (hy : 0 ≤ y ∧ y ≤ 255) (hz : 0 ≤ z ∧ z ≤ 255) (hw : 0 ≤ w ∧ w ≤ 255) :
    cvF tab 4 [.agg [rI S, rR U], .agg [.int .u8 x, .int .u8 y, .int .u8 z], .int .u8 w] = some (.bool true) := by
  refine cvFA_R (mf := Mf.f4) rfl rfl (by kernel_rfl) ?_
  simp only [Mf.f4]
  obtain ⟨hS, hU⟩ := fits_of hD
  have e1 := refGood_ev S U hS hU
  simp only [rI, rR] at e1
  cases g : goodD S U with
  | false => simp [beqI, bneI, mm_min2, mm_max2, mm_min3, mm_max3, startE, lkE, lkX, lkE_rest, sx, substE, opVA, objs0, List.replicate, XA_seq, XA_region, XOA_go, goE_someA, opV, ev, putA, layAll, XOA_nil, XA_skip_seq, XA_skip_nil, XOA_gd, goG_tA, goG_uA, binV, binInt, unV, XA_ret_nil, XA_ret_cons, endFA_r, endFA_n, endTA_r, endTA_n, endRA_r, endRA_n, fltR, resultsA, resAs, resA, XA_block, XA_cond, pickX_t, pickX_f, pickX_b, XA_skip_blk, XA_skip_lp, XA_exit_seq, XA_exit_lp, XA_exit_blk, XA_exit_nil, load1, Ev.loadCells, objCells, bodyCells, setCells, AV.flat, AV.flat1, backR, backV, backCell, mapO, AV.cells, AV.atom, AV.tree, fillV, repeatL, treeCell, freezeAll, eqCells, callV_T, callV_F, passV, passCell, srcCells, sliceBounds, hiB, loB, thenQ_nA, thenQ_xA, thenQ_rA, runK_nA, runK_xA, runK_rA, wrap_i64, wrap_u64, wrap_u32, wrap_u8, wrap_u16, rI, rR, e1, g, wakes_ev]
  | true =>
    have hl := good_len g
    have hn : IntKind.i64.wrap ((S.length : Int) + 1) = (S.length : Int) + 1 := wrap_i64 (by omega) (by omega)
    have h1 := held_ev x ((S.length : Int) + 1) hx.1 hx.2 (by omega)
    have h2 := held_ev y ((S.length : Int) + 1) hy.1 hy.2 (by omega)
    have h3 := held_ev z ((S.length : Int) + 1) hz.1 hz.2 (by omega)
    have i1 := held_in x ((S.length : Int) + 1) hx.1 (by omega)
    have i2 := held_in y ((S.length : Int) + 1) hy.1 (by omega)
    have i3 := held_in z ((S.length : Int) + 1) hz.1 (by omega)
    generalize x.tmod ((S.length : Int) + 1) = p at h1 i1
    generalize y.tmod ((S.length : Int) + 1) = q at h2 i2
    generalize z.tmod ((S.length : Int) + 1) = r at h3 i3
    obtain ⟨A, hA⟩ : ∃ A, min (min p q) r = A := ⟨_, rfl⟩
    obtain ⟨B, hB⟩ : ∃ A, max (min p q) (min (max p q) r) = A := ⟨_, rfl⟩
    obtain ⟨C, hC⟩ : ∃ A, max (max p q) r = A := ⟨_, rfl⟩
    have a0 : 0 ≤ A := by omega
    have ab : A ≤ B := by omega
    have bc : B ≤ C := by omega
    have cn : C ≤ S.length := by omega
    have e2 := refSize_ev S U A hS hU
    have sp := size_pos g a0 (by omega)
    have h4 := held_ev w (sizeD S U A) hw.1 hw.2 sp
    have i4 := held_in w (sizeD S U A) hw.1 sp
    generalize w.tmod (sizeD S U A) = k at h4 i4
    have f1 := liftOk_of g a0 ab (by omega) i4.1 i4.2
    have f3 := liftOk_of g a0 (show A ≤ C by omega) cn i4.1 i4.2
    have f4 := liftOk_of g a0 (Int.le_refl A) (by omega) i4.1 i4.2
    have f5 := liftOk_of g a0 (show A ≤ S.length by omega) (Int.le_refl _) i4.1 i4.2
    obtain ⟨A, rfl⟩ : ∃ n : Nat, A = n := ⟨A.toNat, by omega⟩
    obtain ⟨B, rfl⟩ : ∃ n : Nat, B = n := ⟨B.toNat, by omega⟩
    obtain ⟨C, rfl⟩ : ∃ n : Nat, C = n := ⟨C.toNat, by omega⟩
    have j1 := liftD_in g (a := A) (b := B) (m := k) (by omega) (by omega) i4.1 i4.2
    have f2 := liftOk_of g (a := B) (b := C) (m := liftD S U A B k) (by omega) (by omega) cn j1.1 j1.2
    have l1 := Lift_ev S U A B k hS hU
    have l2 := Lift_ev S U B C (liftD S U A B k) hS hU
    have l3 := Lift_ev S U A C k hS hU
    have l4 := Lift_ev S U A A k hS hU
    have l5 := Lift_ev S U A S.length k hS hU
    have q1 := liftD_comp (S := S) (U := U) (a := A) (b := B) (c := C) k (by omega) (by omega) (by omega)
    have q2 := liftD_self g (a := A) (by omega) i4.1 i4.2
    have q3 : liftD S U A S.length k = 0 := by unfold liftD; rw [if_pos rfl]
    simp only [rI, rR, f1, f2, f3, f4, f5, if_true, Int.toNat_natCast, q1, q2, q3] at l1 l2 l3 l4 l5 e2
    simp [beqI, bneI, mm_min2, mm_max2, mm_min3, mm_max3, startE, lkE, lkX, lkE_rest, sx, substE, opVA, objs0, List.replicate, XA_seq, XA_region, XOA_go, goE_someA, opV, ev, putA, layAll, XOA_nil, XA_skip_seq, XA_skip_nil, XOA_gd, goG_tA, goG_uA, binV, binInt, unV, XA_ret_nil, XA_ret_cons, endFA_r, endFA_n, endTA_r, endTA_n, endRA_r, endRA_n, fltR, resultsA, resAs, resA, XA_block, XA_cond, pickX_t, pickX_f, pickX_b, XA_skip_blk, XA_skip_lp, XA_exit_seq, XA_exit_lp, XA_exit_blk, XA_exit_nil, load1, Ev.loadCells, objCells, bodyCells, setCells, AV.flat, AV.flat1, backR, backV, backCell, mapO, AV.cells, AV.atom, AV.tree, fillV, repeatL, treeCell, freezeAll, eqCells, callV_T, callV_F, passV, passCell, srcCells, sliceBounds, hiB, loB, thenQ_nA, thenQ_xA, thenQ_rA, runK_nA, runK_xA, runK_rA, wrap_i64, wrap_u64, wrap_u32, wrap_u8, wrap_u16, rI, rR, e1, g, hn, h1, h2, h3, hA, hB, hC, e2, h4, l1, l2, l3, l4, l5, wakes_ev]
def gA3 : GT := .arr 3 (.int .u8)
theorem hierTwice_law (l : List AV) (h : RDargs [gDim, gA3, .int .u8] l) : ∃ H1, cfT tab 4 l [] = some (.bool true, H1) := by
  obtain ⟨d, r, rfl, hd, t, r, rfl, ht, w, r, rfl, hw, rfl⟩ := h
  obtain ⟨S, U, rfl, hD⟩ := rdarg_dim hd
  obtain ⟨w, rfl, hw'⟩ := rdarg_u8 hw
  simp only [RDarg, gA3, isAggG, if_true] at ht
  obtain ⟨cs, rfl, L, hL, rfl, hx⟩ := ht
  match L, hL, hx with
  | [l1, l2, l3], _, hx =>
    obtain ⟨a, rfl, ha⟩ := rd_u8 (hx l1 (by simp))
    obtain ⟨b, rfl, hb⟩ := rd_u8 (hx l2 (by simp))
    obtain ⟨c, rfl, hc⟩ := rd_u8 (hx l3 (by simp))
    exact cvF_bool (hierTwice_ev S U a b c w hD ha hb hc hw')
theorem hierTwice_lifted (os : Os) (started : os.Started) (H : Type) (enc : TypeId × Value → H) :
    ReturnsInHanded {} Try.checked os 4 .any (Rows.hierTwiceSpec.pre6 enc Try.prog Try.f4 Rows.hierTwiceRow.domain false) (Rows.hierTwiceSpec.post enc Try.prog Try.f4 false true false false) := by
  refine returnsInHanded_of_change (C := Try.checked) Try.own started (by kernel_rfl) Try.func4
    (ChangeSpec.witness6 (enc := enc) (C := Try.checked) false ⟨#[], #[.agg #[.slice none 0 0, .slice none 0 0], .agg #[.int .u8 0, .int .u8 0, .int .u8 0], .int .u8 0], []⟩ 8 (by kernel_rfl) (by kernel_rfl) (by kernel_rfl) (by kernel_rfl)) ?_
  intro W base args ds gs before hval hW hcnd _
  have hval' : ∀ (j : Nat) (t : TypeId) (v : Value), Try.f4.params.toList[j]? = some t → args[j]? = some v → Value.okWide Try.prog W .any base t v := fun j t v h1 h2 => hval j t v (by simpa using h1) h2
  obtain ⟨p, q, hA, hV, hpq, _, _⟩ := id hW
  have hg : gtsB Try.prog [gDim, gA3, .int .u8] Try.f4.params.toList = true := by kernel_rfl
  refine (law_calls' tab_ok hg hierTwice_law hval' hA).mono fun e W' ⟨he, hb⟩ => ?_
  subst he
  refine ⟨_, rfl, post_true Try.laidOut (rt := 4) (fun ds h => ?_) rfl (by kernel_rfl) (by kernel_rfl) (by kernel_rfl) hW hb⟩
  match ds, h with
  | [_, _, _], _ => rfl
theorem hierTwice_holds : Rows.HierTwiceSaid :=
  OpenClaim.holds_of_wide 4 Try.f4 rfl rfl rfl rfl rfl rfl rfl ⟨rfl, rfl, rfl, rfl, rfl⟩ rfl rfl rfl rfl rfl (by kernel_rfl) Try.func4 (by kernel_rfl)
    (of_decide_eq_true (by kernel_rfl)) (by unfold Func.isWrapper; first | (rw [if_pos (by decide +kernel)]; kernel_rfl) | (rw [if_neg (by decide +kernel)]; exact ⟨rfl, rfl⟩))
    (fun os started H enc _ => hierTwice_lifted os started H enc)
end Go.Proofs.Ytgijhnaplifpdaa
