/- Of two rows that are unlike one is less; what is less than one that is less is less. -/
import Derived.Test.YtnlihobhbbopfaaRowCom
set_option linter.unusedSimpArgs false
set_option linter.unusedVariables false
set_option maxHeartbeats 4000000
set_option maxRecDepth 100000
namespace Go.Proofs.Ytnlihobhbbopfaa
open Go.Ev
theorem rowLess_ev (r s t : Rw) (hr : okW r) (hs : okW s) (ht : okW t) : cvF tab 3 [.agg (rowC r), .agg (rowC s), .agg (rowC t)] = some (.bool true) := by
  refine cvFA_R (mf := Mf.f3) rfl rfl (by kernel_rfl) ?_
  simp only [Mf.f3]
  have e1 := less_ev r s hr hs
  have e2 := less_ev s r hs hr
  have e3 := less_ev s t hs ht
  have e4 := less_ev r t hr ht
  have e5 := less_ev r r hr hr
  have e6 := eq_rowB r s
  have i1 := ltR_irrefl r
  have i2 : r ≠ s → ltR r s ∨ ltR s r := ltR_tri hr hs
  have i3 : ltR r s → ltR s t → ltR r t := ltR_trans
  have i4 : ltR r s → ltR s r → False := fun h1 h2 => ltR_irrefl r (ltR_trans h1 h2)
  have i5 : r = s → ¬ ltR r s ∧ ¬ ltR s r := by
    rintro rfl
    exact ⟨i1, i1⟩
  generalize hA : decide (ltR r s) = A at *
  generalize hB : decide (ltR s r) = B at *
  generalize hC : decide (ltR s t) = C at *
  generalize hD : decide (ltR r t) = D at *
  generalize hE : decide (ltR r r) = E at *
  generalize hF : decide (r = s) = F at *
  have hE' : E = false := by rw [← hE]; exact decide_eq_false i1
  have f1 : (A != B) = !F := by
    rw [← hA, ← hB, ← hF]
    by_cases c : r = s
    · have := i5 c
      simp [this.1, this.2, c]
    · rcases i2 c with h | h
      · have : ¬ ltR s r := fun h2 => i4 h h2
        simp [h, this, c]
      · have : ¬ ltR r s := fun h2 => i4 h2 h
        simp [h, this, c]
  have f2 : (A && B) = false := by
    rw [← hA, ← hB]
    by_cases h : ltR r s
    · have : ¬ ltR s r := fun h2 => i4 h h2
      simp [this]
    · simp [h]
  have f3 : A = true → C = true → D = true := by
    rw [← hA, ← hC, ← hD]
    simpa using i3
  clear i1 i2 i3 i4 i5 hA hB hC hD hE hF
  subst hE'
  simp only [rowC] at *
  cases A <;> cases B <;> cases C <;> cases D <;> cases F <;> simp at f1 f2 f3 <;> simp [beqI, bneI, mm_min2, mm_max2, mm_min3, mm_max3, startE, lkE, lkX, lkE_rest, sx, substE, opVA, objs0, List.replicate, XA_seq, XA_region, XOA_go, goE_someA, opV, ev, putA, layAll, XOA_nil, XA_skip_seq, XA_skip_nil, XOA_gd, goG_tA, goG_uA, binV, bi_add, bi_sub, bi_mul, bi_quo, bi_rem, bi_eql, bi_neq, bi_lss, bi_leq, bi_gtr, bi_geq, bi_shl, bi_shr, bi_and, bi_or, bi_xor, unV, XA_ret_nil, XA_ret_cons, endFA_r, endFA_n, endTA_r, endTA_n, endRA_r, endRA_n, fltR, resultsA, resAs, resA, XA_block, XA_cond, pickX_t, pickX_f, pickX_b, XA_skip_blk, XA_skip_lp, XA_exit_seq, XA_exit_lp, XA_exit_blk, XA_exit_nil, load1, Ev.loadCells, objCells, bodyCells, setCells, AV.flat, AV.flat1, backR, backV, backCell, mapO, AV.cells, AV.atom, AV.tree, fillV, repeatL, treeCell, freezeAll, eqCells, callV_T, callV_F, passV, passCell, srcCells, sliceBounds, hiB, loB, thenQ_nA, thenQ_xA, thenQ_rA, runK_nA, runK_xA, runK_rA, wrap_i64, wrap_u64, wrap_u32, wrap_u8, wrap_u16, e1, e2, e3, e4, e5, e6, wakes_ev]
theorem rowLess_law (l : List AV) (h : RDargs [gRow, gRow, gRow] l) : ∃ H1, cfT tab 3 l [] = some (.bool true, H1) := by
  obtain ⟨x, r, rfl, hx, y, r, rfl, hy, t, r, rfl, ht, rfl⟩ := h
  obtain ⟨r, rfl, hr⟩ := rdarg_row hx
  obtain ⟨s, rfl, hs⟩ := rdarg_row hy
  obtain ⟨t, rfl, hq⟩ := rdarg_row ht
  exact cvF_bool (rowLess_ev r s t hr hs hq)
theorem rowLess_lifted (os : Os) (started : os.Started) (H : Type) (enc : TypeId × Value → H) :
    ReturnsInHanded {} Try.checked os 3 .any (Rows.rowLessSpec.pre6 enc Try.prog Try.f3 Rows.rowLessRow.domain false) (Rows.rowLessSpec.post enc Try.prog Try.f3 false true false false) := by
  refine returnsInHanded_of_change (C := Try.checked) Try.own started (by kernel_rfl) Try.func3
    (ChangeSpec.witness6 (enc := enc) (C := Try.checked) false ⟨#[], #[.agg #[.int .u8 0, .int .u8 0, .int .u8 0, .int .u8 0, .int .i64 0, .int .i64 0], .agg #[.int .u8 0, .int .u8 0, .int .u8 0, .int .u8 0, .int .i64 0, .int .i64 0], .agg #[.int .u8 0, .int .u8 0, .int .u8 0, .int .u8 0, .int .i64 0, .int .i64 0]], []⟩ 8 (by kernel_rfl) (by kernel_rfl) (by kernel_rfl) (by kernel_rfl)) ?_
  intro W base args ds gs before hval hW hcnd _
  have hval' : ∀ (j : Nat) (t : TypeId) (v : Value), Try.f3.params.toList[j]? = some t → args[j]? = some v → Value.okWide Try.prog W .any base t v := fun j t v h1 h2 => hval j t v (by simpa using h1) h2
  obtain ⟨p, q, hA, hV, hpq, _, _⟩ := id hW
  have hg : gtsB Try.prog [gRow, gRow, gRow] Try.f3.params.toList = true := by kernel_rfl
  refine (law_calls' tab_ok hg rowLess_law hval' hA).mono fun e W' ⟨he, hb⟩ => ?_
  subst he
  refine ⟨_, rfl, post_true Try.laidOut (rt := 4) (fun ds h => ?_) rfl (by kernel_rfl) (by kernel_rfl) (by kernel_rfl) hW hb⟩
  match ds, h with
  | [_, _, _], _ => rfl
theorem rowLess_holds : Rows.RowLessSaid :=
  OpenClaim.holds_of_wide 3 Try.f3 rfl rfl rfl rfl rfl rfl rfl ⟨rfl, rfl, rfl, rfl, rfl⟩ rfl rfl rfl rfl rfl (by kernel_rfl) Try.func3 (by kernel_rfl)
    (of_decide_eq_true (by kernel_rfl)) (by unfold Func.isWrapper; first | (rw [if_pos (by decide +kernel)]; kernel_rfl) | (rw [if_neg (by decide +kernel)]; exact ⟨rfl, rfl⟩))
    (fun os started H enc _ => rowLess_lifted os started H enc)
end Go.Proofs.Ytnlihobhbbopfaa
