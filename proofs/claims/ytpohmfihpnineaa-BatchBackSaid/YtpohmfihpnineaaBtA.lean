/- Batches: the table with a clone of nil, and the chapter's example. -/
import Derived.Test.YtpohmfihpnineaaBaL
set_option linter.unusedSimpArgs false
set_option linter.unusedVariables false
set_option maxHeartbeats 16000000
set_option maxRecDepth 100000
namespace Go.Proofs.Ytpohmfihpnineaa
open Go.Ev
theorem clone_post_nil {P : Program} {f : FuncId} {fn : Func} {mf : MFun} (hf : P.funcs[f]? = some fn) (hc : chkFun P mf fn = true) {sz : Nat} (hn : evalFun (tab1 f mf) 2 f [.nilsl] [] = some (.nilsl, [⟨0, .none⟩])) :
    CallOk P f ∧ ∀ (E : Env) (vals : Array Value), WRel E → E.H = [] → LRel E [.nilsl] vals.toList → Calls P f vals E.w (CfPost E (.own 0 2 0 0 sz) [⟨2, .row true sz []⟩]) := by
  have hM := tab1_ok hf hc
  obtain ⟨hok, hC⟩ := evalFun_sound hM 2 f _ _ _ _ hn
  refine ⟨hok, fun E vals hw hH hv => ?_⟩
  refine Calls.mono (hC E vals hw hH hv) ?_
  rintro e w' ⟨v, rfl, E', rfl, hH', hw', hv', hst⟩
  have hnm : ∀ (i b : Nat), ¬ Env.mutAt ⟨E'.F, [⟨2, .row true sz []⟩], [none], E'.w⟩ i b := by
    rintro i b ⟨o, base, _, _, h3⟩
    cases i with
    | zero => simp at h3
    | succ i => simp at h3
  refine ⟨v, rfl, ⟨E'.F, [⟨2, .row true sz []⟩], [none], E'.w⟩, rfl, rfl, ?_, ?_, ?_⟩
  · refine ⟨rfl, fun i o ho => ?_, fun i j b h => absurd h (hnm i b), fun i b h => absurd h (hnm i b), hw'.fOld⟩
    cases i with
    | zero =>
      simp only [List.getElem?_cons_zero, Option.some.injEq] at ho
      subst ho
      exact .inl ⟨rfl, rfl⟩
    | succ i => simp at ho
  · simp only [VRel] at hv'
    subst hv'
    exact ⟨none, 0, rfl, Nat.le_refl _, fun h => by omega, ⟨2, .row true sz []⟩, rfl, Nat.le_refl _, fun _ => ⟨by simp, .inr ⟨rfl, rfl, rfl, rfl⟩⟩⟩
  · refine ⟨hst.F, fun i o ho => ?_, ⟨hst.w.os, hst.w.tape, hst.w.output, hst.w.size, fun b hb hn => ⟨(hst.w.keep b hb hn).1, ?_⟩, hst.w.blk, hst.w.drawn⟩⟩
    · rw [hH] at ho; simp at ho
    · rintro ⟨i, h⟩; exact hnm i b h
def nilX : CallF := fun f args H => if f = 53 then (match args, H with
    | [.nilsl], [] => some (.own 0 2 0 0 1, [⟨2, .row true 1 []⟩])
    | _, _ => none) else none
theorem nilX_sound : CfSound Try.prog nilX := fun f args H r H1 h => by
  unfold nilX at h
  split at h
  · rename_i e
    subst e
    split at h
    · cases h
      exact clone_post_nil Try.func53 mf53_ok (by kernel_rfl)
    · cases h
  · cases h
def tabC : Go.Ev.Tab := ⟨tabB.fn, orX tabB.ext nilX⟩
theorem tabC_ok : TabOk Try.prog tabC := ⟨tabB_ok.fn, orX_sound tabB_ok.ext nilX_sound⟩
theorem tabC_le : Le tabB.ext tabC.ext := fun f a H r h => by
  show orX _ _ f a H = _
  unfold orX
  rw [h]
theorem cfC {f : FuncId} {a : List AV} {H : List AObj} {r : AV × List AObj} (h : cfT tabB f a H = some r) : cfT tabC f a H = some r := cfT_more tabC_le h
theorem cvFC {f : FuncId} {a : List AV} {r : AV} (h : cvF tabB f a = some r) : cvF tabC f a = some r := by
  unfold cvF at h ⊢
  obtain ⟨p, h1, h2⟩ := Option.bind_eq_some_iff.1 h
  rw [cfC h1]
  exact h2
theorem cvTC {f : FuncId} {a : List AV} {r : AV} (h : cvT tabB f a = some r) : cvT tabC f a = some r := by
  unfold cvT at h ⊢
  obtain ⟨p, h1, h2⟩ := Option.bind_eq_some_iff.1 h
  rw [cfC h1]
  exact h2
theorem clone_nil : cfT tabC 53 [.nilsl] [] = some (.own 0 2 0 0 1, [⟨2, .row true 1 []⟩]) := by
  refine cfT_ext rfl ?_
  rfl
theorem wakeC_ev : cvF tabC 9 [] = some (.bool true) := by
  have h : (evalFun tabC 4000 9 [] []).map (fun p => match p.1 with | .bool b => b | _ => false) = some true := by kernel_rfl
  obtain ⟨⟨r, H1⟩, h1, h2⟩ := Option.map_eq_some_iff.1 h
  have h3 := cfT_of h1
  unfold cvF
  rw [h3]
  cases r <;> simp at h2
  subst h2
  rfl
theorem put_nil (u : Int) (h0 : 0 ≤ u) (h : u < 128) : cfT tabC 33 [.nilsl, .int .u64 u] [] = some (.own 0 1 0 1 1, [⟨1, .row true 1 [.int .u8 u]⟩]) := by
  have e1 := clone_nil
  have c1 : ¬ 128 ≤ u := by omega
  have w1 : IntKind.u8.wrap u = u := wrap_u8 (by omega) (by omega)
  refine cfTA_R (mf := Mf.f33) rfl rfl (by kernel_rfl) ?_
  simp only [Mf.f33]
  simp [beqI, bneI, mm_min2, mm_max2, mm_min3, mm_max3, startE, lkE, lkX, lkE_rest, sx, substE, opVA, objs0, List.replicate, XA_seq, XA_region, XOA_go, goE_someA, opV, ev, putA, layAll, XOA_nil, XA_skip_seq, XA_skip_nil, XOA_gd, goG_tA, goG_uA, binV, bi_add, bi_sub, bi_mul, bi_quo, bi_rem, bi_eql, bi_neq, bi_lss, bi_leq, bi_gtr, bi_geq, bi_shl, bi_shr, bi_and, bi_or, bi_xor, unV, XA_ret_nil, XA_ret_cons, endFA_r, endFA_n, endTA_r, endTA_n, endRA_r, endRA_n, endEA_r, endEA_n, List.take, fltR, resultsA, resAs, resA, XA_block, XA_cond, pickX_t, pickX_f, pickX_b, XA_skip_blk, XA_skip_lp, XA_exit_seq, XA_exit_lp, XA_exit_blk, XA_exit_nil, load1, Ev.loadCells, objCells, bodyCells, setCells, AV.flat, AV.flat1, backR, backV, backCell, mapO, AV.cells, AV.atom, AV.tree, fillV, repeatL, treeCell, freezeAll, eqCells, callV_T, callV_F, passN, passV, passCell, srcCells, sliceBounds, hiB, loB, thenQ_nA, thenQ_xA, thenQ_rA, runK_nA, runK_xA, runK_rA, wrap_i64, wrap_u64, wrap_u32, wrap_u8, wrap_u16, callV_O, okIds, passObjs, passBody, backObjs, backBody, adopts, List.idxOf?, List.findIdx?, List.findIdx?.go, isNilP, mapLook, mapGet, keyGet, adopts, List.lookup, callV_R, e1]
  refine XA_loop (fun _ : Unit => ⟨[(1, .int .u64 u), (5, .own 0 0 0 0 1)], [⟨0, .row true 1 []⟩]⟩) (fun _ => True) (fun _ => 0) ()
    (by simp [AV.atom, normA, lkE, fixObjs, fixBody, fixV, fixCell]) trivial ?_
  rintro _ _
  simp [beqI, bneI, mm_min2, mm_max2, mm_min3, mm_max3, startE, lkE, lkX, lkE_rest, sx, substE, opVA, objs0, List.replicate, XA_seq, XA_region, XOA_go, goE_someA, opV, ev, putA, layAll, XOA_nil, XA_skip_seq, XA_skip_nil, XOA_gd, goG_tA, goG_uA, binV, bi_add, bi_sub, bi_mul, bi_quo, bi_rem, bi_eql, bi_neq, bi_lss, bi_leq, bi_gtr, bi_geq, bi_shl, bi_shr, bi_and, bi_or, bi_xor, unV, XA_ret_nil, XA_ret_cons, endFA_r, endFA_n, endTA_r, endTA_n, endRA_r, endRA_n, endEA_r, endEA_n, List.take, fltR, resultsA, resAs, resA, XA_block, XA_cond, pickX_t, pickX_f, pickX_b, XA_skip_blk, XA_skip_lp, XA_exit_seq, XA_exit_lp, XA_exit_blk, XA_exit_nil, load1, Ev.loadCells, objCells, bodyCells, setCells, AV.flat, AV.flat1, backR, backV, backCell, mapO, AV.cells, AV.atom, AV.tree, fillV, repeatL, treeCell, freezeAll, eqCells, callV_T, callV_F, passN, passV, passCell, srcCells, sliceBounds, hiB, loB, thenQ_nA, thenQ_xA, thenQ_rA, runK_nA, runK_xA, runK_rA, wrap_i64, wrap_u64, wrap_u32, wrap_u8, wrap_u16, callV_O, okIds, passObjs, passBody, backObjs, backBody, adopts, List.idxOf?, List.findIdx?, List.findIdx?.go, isNilP, mapLook, mapGet, keyGet, adopts, List.lookup, AV.atom, normA, lkE, fixObjs, fixBody, fixV, fixCell, c1, w1]
end Go.Proofs.Ytpohmfihpnineaa
