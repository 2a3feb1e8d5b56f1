/- All nodes, each once, rising: each is one of the catalog's, between the base and the whole. -/
import Derived.Test.YtldijlajoaddnaaLatCom
set_option linter.unusedSimpArgs false
set_option linter.unusedVariables false
set_option maxHeartbeats 4000000
set_option maxRecDepth 100000
namespace Go.Proofs.Ytldijlajoaddnaa
open Go.Ev
theorem latticeAll_ev (ds : List Dm) (m : Int) (v : List Int) (hC : okC ds) (hv : okN v) : cvF tab 3 [.agg [.ro ds.length (flatD ds), .int .i64 m], .agg (v.map (.int .u8))] = some (.bool true) := by
  refine cvFA_R (mf := Mf.f3) rfl rfl (by kernel_rfl) ?_
  simp only [Mf.f3]
  have egv := lgood_ev ds m v hC hv
  have hmemv := fun g : goodC ds m = true => allN_mem g hv
  obtain ⟨v0, v1, v2, v3, rfl, hv0, hv1, hv2, hv3⟩ := four hv
  simp only [List.map] at egv
  cases g : goodC ds m with
  | false => simp [beqI, bneI, mm_min2, mm_max2, mm_min3, mm_max3, startE, lkE, lkX, lkE_rest, sx, substE, opVA, objs0, List.replicate, XA_seq, XA_region, XOA_go, goE_someA, opV, ev, putA, layAll, XOA_nil, XA_skip_seq, XA_skip_nil, XOA_gd, goG_tA, goG_uA, binV, binInt, unV, XA_ret_nil, XA_ret_cons, endFA_r, endFA_n, endTA_r, endTA_n, endRA_r, endRA_n, fltR, resultsA, resAs, resA, XA_block, XA_cond, pickX_t, pickX_f, pickX_b, XA_skip_blk, XA_skip_lp, XA_exit_seq, XA_exit_lp, XA_exit_blk, XA_exit_nil, load1, Ev.loadCells, objCells, bodyCells, setCells, AV.flat, AV.flat1, backR, backV, backCell, mapO, AV.cells, AV.atom, AV.tree, fillV, repeatL, treeCell, freezeAll, eqCells, callV_T, callV_F, passV, passCell, srcCells, sliceBounds, hiB, loB, thenQ_nA, thenQ_xA, thenQ_rA, runK_nA, runK_xA, runK_rA, wrap_i64, wrap_u64, wrap_u32, wrap_u8, wrap_u16, rgood_ev ds m hC, g, wakes_ev]
  | true =>
    have b0 := wOf_le g 0
    have b1 := wOf_le g 1
    have b2 := wOf_le g 2
    have b3 := wOf_le g 3
    have eall := all_ev ds m hC
    have ecnt := count_ev ds m hC
    have hcnt := count_all ds m
    have hmemv := hmemv g
    have hall : allN ds m = allQ (wOf ds 0) (wOf ds 1) (wOf ds 2) (wOf ds 3) := by unfold allN; rw [if_pos g]
    have hsort := allQ_sorted (w0 := wOf ds 0) (w1 := wOf ds 1) (w2 := wOf ds 2) (w3 := wOf ds 3) (by omega) (by omega) (by omega) (by omega)
    have hlen := allQ_le b0 b1 b2 b3
    have hel : ∀ x ∈ allN ds m, ∃ a b c d : Nat, x = [(a : Int), (b : Int), (c : Int), (d : Int)] ∧ a ≤ wOf ds 0 ∧ b ≤ wOf ds 1 ∧ c ≤ wOf ds 2 ∧ d ≤ wOf ds 3 := fun x hx => by
      rw [hall] at hx
      exact mem_allQ.1 hx
    rw [← hall] at hsort hlen
    generalize allN ds m = all at *
    have h4 : ∀ x ∈ all, x.length = 4 := fun x hx => by
      obtain ⟨a, b, c, d, rfl, _⟩ := hel x hx
      rfl
    have ewh := whole_ev ds m hC
    unfold wholeN at ewh
    rw [if_pos g] at ewh
    simp only [List.map] at ewh
    simp only [rN] at eall
    simp [beqI, bneI, mm_min2, mm_max2, mm_min3, mm_max3, startE, lkE, lkX, lkE_rest, sx, substE, opVA, objs0, List.replicate, XA_seq, XA_region, XOA_go, goE_someA, opV, ev, putA, layAll, XOA_nil, XA_skip_seq, XA_skip_nil, XOA_gd, goG_tA, goG_uA, binV, binInt, unV, XA_ret_nil, XA_ret_cons, endFA_r, endFA_n, endTA_r, endTA_n, endRA_r, endRA_n, fltR, resultsA, resAs, resA, XA_block, XA_cond, pickX_t, pickX_f, pickX_b, XA_skip_blk, XA_skip_lp, XA_exit_seq, XA_exit_lp, XA_exit_blk, XA_exit_nil, load1, Ev.loadCells, objCells, bodyCells, setCells, AV.flat, AV.flat1, backR, backV, backCell, mapO, AV.cells, AV.atom, AV.tree, fillV, repeatL, treeCell, freezeAll, eqCells, callV_T, callV_F, passV, passCell, srcCells, sliceBounds, hiB, loB, thenQ_nA, thenQ_xA, thenQ_rA, runK_nA, runK_xA, runK_rA, wrap_i64, wrap_u64, wrap_u32, wrap_u8, wrap_u16, rgood_ev ds m hC, g, eall]
    refine XA_for (fun i => ⟨[(2, .ptr 0 0 0), (3, .ptr 1 0 0), (5, .ro all.length (flatN all)), (6, .bool (decide ([v0, v1, v2, v3] ∈ all.take i))), (7, .int .i64 i)], [⟨0, .var [.ro ds.length (flatD ds), .int .i64 m]⟩, ⟨0, .var [.int .u8 v0, .int .u8 v1, .int .u8 v2, .int .u8 v3]⟩]⟩)
      (fun _ => True) all.length 0 (Nat.zero_le _) (by simp [AV.atom, normA, lkE, fixObjs, fixBody, fixV, fixCell]) trivial ?_ ?_
    · intro i _ hi _
      have hi' : (i : Int) < all.length := by omega
      obtain ⟨a, b, c, d, hx, ha, hb, hc, hd⟩ := hel _ (gR_mem hi)
      have hdr := dropN h4 hi
      rw [hx] at hdr
      simp [gI] at hdr
      have hox : okN [(a : Int), (b : Int), (c : Int), (d : Int)] := okN4 ⟨by omega, by omega⟩ ⟨by omega, by omega⟩ ⟨by omega, by omega⟩ ⟨by omega, by omega⟩
      have how : okN [(wOf ds 0 : Int), (wOf ds 1 : Int), (wOf ds 2 : Int), (wOf ds 3 : Int)] := okN4 ⟨by omega, by omega⟩ ⟨by omega, by omega⟩ ⟨by omega, by omega⟩ ⟨by omega, by omega⟩
      have f1 := lgood_ev ds m _ hC hox
      have f2 := below_ev zero4 _ ok_zero4 hox
      have f3 := below_ev _ _ hox how
      have f1' : goodN ds m [(a : Int), (b : Int), (c : Int), (d : Int)] = true := by
        rw [goodN_iff g hox]
        simp only [gI, List.getD_cons_zero, List.getD_cons_succ]
        omega
      have f2' : belowN zero4 [(a : Int), (b : Int), (c : Int), (d : Int)] = true := by
        simp [belowN, zero4]
      have f3' : belowN [(a : Int), (b : Int), (c : Int), (d : Int)] [(wOf ds 0 : Int), (wOf ds 1 : Int), (wOf ds 2 : Int), (wOf ds 3 : Int)] = true := by
        simp [belowN]; omega
      rw [f1'] at f1
      rw [f2'] at f2
      rw [f3'] at f3
      simp only [List.map, zero4] at f1 f2 f3
      have htake : all.take (i + 1) = all.take i ++ [[(a : Int), (b : Int), (c : Int), (d : Int)]] := by
        rw [List.take_succ_eq_append_getElem hi, ← gR_get _ _ hi, hx]
      have hws := wrap_succ i all.length hi (by omega)
      have hin : ∀ p : Bool, p = decide ([v0, v1, v2, v3] ∈ all.take i) → (if p = true then True else True) := fun _ _ => by split <;> trivial
      have hstep : decide ([v0, v1, v2, v3] ∈ all.take (i + 1)) = (decide ([v0, v1, v2, v3] ∈ all.take i) || (decide ((a : Int) = v0) && (decide ((b : Int) = v1) && (decide ((c : Int) = v2) && decide ((d : Int) = v3))))) := by
        rw [htake, Bool.eq_iff_iff]
        simp only [decide_eq_true_eq, List.mem_append, List.mem_singleton, List.cons.injEq, Bool.or_eq_true, Bool.and_eq_true, and_true]
        constructor
        · rintro (h | ⟨h1, h2, h3, h4⟩)
          · exact .inl h
          · exact .inr ⟨h1.symm, h2.symm, h3.symm, h4.symm⟩
        · rintro (h | ⟨h1, h2, h3, h4⟩)
          · exact .inl h
          · exact .inr ⟨h1.symm, h2.symm, h3.symm, h4.symm⟩
      by_cases c0 : 0 < i
      · obtain ⟨j, hj⟩ : ∃ j, i = j + 1 := ⟨i - 1, by omega⟩
        have c0' : (0 : Int) < (i : Int) := by omega
        have hjl : j < all.length := by omega
        have hj' : (j : Int) < all.length := by omega
        have hwi : IntKind.i64.wrap ((i : Int) - 1) = (j : Int) := by rw [wrap_i64 (by omega) (by omega)]; omega
        obtain ⟨a', b', c', d', hx', ha', hb', hc', hd'⟩ := hel _ (gR_mem hjl)
        have hdr' := dropN h4 hjl
        rw [hx'] at hdr'
        simp [gI] at hdr'
        have hless := List.pairwise_iff_getElem.1 hsort j i hjl hi (by omega)
        rw [← gR_get _ _ hjl, ← gR_get _ _ hi, hx, hx'] at hless
        simp only [bytesN, List.map, Int.toNat_natCast] at hless
        cases hin : decide ([v0, v1, v2, v3] ∈ all.take i) with
        | true =>
          rw [hin] at hstep
          simp [beqI, bneI, mm_min2, mm_max2, mm_min3, mm_max3, startE, lkE, lkX, lkE_rest, sx, substE, opVA, objs0, List.replicate, XA_seq, XA_region, XOA_go, goE_someA, opV, ev, putA, layAll, XOA_nil, XA_skip_seq, XA_skip_nil, XOA_gd, goG_tA, goG_uA, binV, binInt, unV, XA_ret_nil, XA_ret_cons, endFA_r, endFA_n, endTA_r, endTA_n, endRA_r, endRA_n, fltR, resultsA, resAs, resA, XA_block, XA_cond, pickX_t, pickX_f, pickX_b, XA_skip_blk, XA_skip_lp, XA_exit_seq, XA_exit_lp, XA_exit_blk, XA_exit_nil, load1, Ev.loadCells, objCells, bodyCells, setCells, AV.flat, AV.flat1, backR, backV, backCell, mapO, AV.cells, AV.atom, AV.tree, fillV, repeatL, treeCell, freezeAll, eqCells, callV_T, callV_F, passV, passCell, srcCells, sliceBounds, hiB, loB, thenQ_nA, thenQ_xA, thenQ_rA, runK_nA, runK_xA, runK_rA, wrap_i64, wrap_u64, wrap_u32, wrap_u8, wrap_u16, AV.atom, normA, lkE, fixObjs, fixBody, fixV, fixCell, hi', hdr, f1, f2, f3, ewh, base_ev, c0, c0', hwi, hj', hdr', Ev.bytesOf, hless, hws]
          simpa using hstep
        | false =>
          rw [hin, Bool.false_or, eq_comm] at hstep
          simp [beqI, bneI, mm_min2, mm_max2, mm_min3, mm_max3, startE, lkE, lkX, lkE_rest, sx, substE, opVA, objs0, List.replicate, XA_seq, XA_region, XOA_go, goE_someA, opV, ev, putA, layAll, XOA_nil, XA_skip_seq, XA_skip_nil, XOA_gd, goG_tA, goG_uA, binV, binInt, unV, XA_ret_nil, XA_ret_cons, endFA_r, endFA_n, endTA_r, endTA_n, endRA_r, endRA_n, fltR, resultsA, resAs, resA, XA_block, XA_cond, pickX_t, pickX_f, pickX_b, XA_skip_blk, XA_skip_lp, XA_exit_seq, XA_exit_lp, XA_exit_blk, XA_exit_nil, load1, Ev.loadCells, objCells, bodyCells, setCells, AV.flat, AV.flat1, backR, backV, backCell, mapO, AV.cells, AV.atom, AV.tree, fillV, repeatL, treeCell, freezeAll, eqCells, callV_T, callV_F, passV, passCell, srcCells, sliceBounds, hiB, loB, thenQ_nA, thenQ_xA, thenQ_rA, runK_nA, runK_xA, runK_rA, wrap_i64, wrap_u64, wrap_u32, wrap_u8, wrap_u16, AV.atom, normA, lkE, fixObjs, fixBody, fixV, fixCell, hi', hdr, f1, f2, f3, ewh, base_ev, c0, c0', hwi, hj', hdr', Ev.bytesOf, hless, hws]
          simpa using hstep
      · have c0' : ¬ (0 : Int) < (i : Int) := by omega
        cases hin : decide ([v0, v1, v2, v3] ∈ all.take i) with
        | true =>
          rw [hin] at hstep
          simp [beqI, bneI, mm_min2, mm_max2, mm_min3, mm_max3, startE, lkE, lkX, lkE_rest, sx, substE, opVA, objs0, List.replicate, XA_seq, XA_region, XOA_go, goE_someA, opV, ev, putA, layAll, XOA_nil, XA_skip_seq, XA_skip_nil, XOA_gd, goG_tA, goG_uA, binV, binInt, unV, XA_ret_nil, XA_ret_cons, endFA_r, endFA_n, endTA_r, endTA_n, endRA_r, endRA_n, fltR, resultsA, resAs, resA, XA_block, XA_cond, pickX_t, pickX_f, pickX_b, XA_skip_blk, XA_skip_lp, XA_exit_seq, XA_exit_lp, XA_exit_blk, XA_exit_nil, load1, Ev.loadCells, objCells, bodyCells, setCells, AV.flat, AV.flat1, backR, backV, backCell, mapO, AV.cells, AV.atom, AV.tree, fillV, repeatL, treeCell, freezeAll, eqCells, callV_T, callV_F, passV, passCell, srcCells, sliceBounds, hiB, loB, thenQ_nA, thenQ_xA, thenQ_rA, runK_nA, runK_xA, runK_rA, wrap_i64, wrap_u64, wrap_u32, wrap_u8, wrap_u16, AV.atom, normA, lkE, fixObjs, fixBody, fixV, fixCell, hi', hdr, f1, f2, f3, ewh, base_ev, c0, c0', hws]
          simpa using hstep
        | false =>
          rw [hin, Bool.false_or, eq_comm] at hstep
          simp [beqI, bneI, mm_min2, mm_max2, mm_min3, mm_max3, startE, lkE, lkX, lkE_rest, sx, substE, opVA, objs0, List.replicate, XA_seq, XA_region, XOA_go, goE_someA, opV, ev, putA, layAll, XOA_nil, XA_skip_seq, XA_skip_nil, XOA_gd, goG_tA, goG_uA, binV, binInt, unV, XA_ret_nil, XA_ret_cons, endFA_r, endFA_n, endTA_r, endTA_n, endRA_r, endRA_n, fltR, resultsA, resAs, resA, XA_block, XA_cond, pickX_t, pickX_f, pickX_b, XA_skip_blk, XA_skip_lp, XA_exit_seq, XA_exit_lp, XA_exit_blk, XA_exit_nil, load1, Ev.loadCells, objCells, bodyCells, setCells, AV.flat, AV.flat1, backR, backV, backCell, mapO, AV.cells, AV.atom, AV.tree, fillV, repeatL, treeCell, freezeAll, eqCells, callV_T, callV_F, passV, passCell, srcCells, sliceBounds, hiB, loB, thenQ_nA, thenQ_xA, thenQ_rA, runK_nA, runK_xA, runK_rA, wrap_i64, wrap_u64, wrap_u32, wrap_u8, wrap_u16, AV.atom, normA, lkE, fixObjs, fixBody, fixV, fixCell, hi', hdr, f1, f2, f3, ewh, base_ev, c0, c0', hws]
          simpa using hstep
    · intro _
      rw [List.take_length]
      have hq : decide ([v0, v1, v2, v3] ∈ all) = goodN ds m [v0, v1, v2, v3] := by
        rw [Bool.eq_iff_iff, decide_eq_true_eq]
        exact hmemv
      rw [hq]
      simp [beqI, bneI, mm_min2, mm_max2, mm_min3, mm_max3, startE, lkE, lkX, lkE_rest, sx, substE, opVA, objs0, List.replicate, XA_seq, XA_region, XOA_go, goE_someA, opV, ev, putA, layAll, XOA_nil, XA_skip_seq, XA_skip_nil, XOA_gd, goG_tA, goG_uA, binV, binInt, unV, XA_ret_nil, XA_ret_cons, endFA_r, endFA_n, endTA_r, endTA_n, endRA_r, endRA_n, fltR, resultsA, resAs, resA, XA_block, XA_cond, pickX_t, pickX_f, pickX_b, XA_skip_blk, XA_skip_lp, XA_exit_seq, XA_exit_lp, XA_exit_blk, XA_exit_nil, load1, Ev.loadCells, objCells, bodyCells, setCells, AV.flat, AV.flat1, backR, backV, backCell, mapO, AV.cells, AV.atom, AV.tree, fillV, repeatL, treeCell, freezeAll, eqCells, callV_T, callV_F, passV, passCell, srcCells, sliceBounds, hiB, loB, thenQ_nA, thenQ_xA, thenQ_rA, runK_nA, runK_xA, runK_rA, wrap_i64, wrap_u64, wrap_u32, wrap_u8, wrap_u16, AV.atom, normA, lkE, fixObjs, fixBody, fixV, fixCell, egv, ecnt, hcnt, wakes_ev]
theorem latticeAll_law (l : List AV) (h : RDargs [gCat, gN] l) : ∃ H1, cfT tab 3 l [] = some (.bool true, H1) := by
  obtain ⟨c, r, rfl, hc, v, r, rfl, hv, rfl⟩ := h
  obtain ⟨ds, m, rfl, hC, hm⟩ := rdarg_cat hc
  obtain ⟨v, rfl, hv'⟩ := rdarg_n hv
  exact cvF_bool (latticeAll_ev ds m v hC hv')
theorem latticeAll_lifted (os : Os) (started : os.Started) (H : Type) (enc : TypeId × Value → H) :
    ReturnsInHanded {} Try.checked os 3 .any (Rows.latticeAllSpec.pre6 enc Try.prog Try.f3 Rows.latticeAllRow.domain false) (Rows.latticeAllSpec.post enc Try.prog Try.f3 false true false false) := by
  refine returnsInHanded_of_change (C := Try.checked) Try.own started (by kernel_rfl) Try.func3
    (ChangeSpec.witness6 (enc := enc) (C := Try.checked) false ⟨#[], #[.agg #[.slice none 0 0, .int .i64 0], .agg #[.int .u8 0, .int .u8 0, .int .u8 0, .int .u8 0]], []⟩ 8 (by kernel_rfl) (by kernel_rfl) (by kernel_rfl) (by kernel_rfl)) ?_
  intro W base args ds gs before hval hW hcnd _
  have hval' : ∀ (j : Nat) (t : TypeId) (v : Value), Try.f3.params.toList[j]? = some t → args[j]? = some v → Value.okWide Try.prog W .any base t v := fun j t v h1 h2 => hval j t v (by simpa using h1) h2
  obtain ⟨p, q, hA, hV, hpq, _, _⟩ := id hW
  have hg : gtsB Try.prog [gCat, gN] Try.f3.params.toList = true := by kernel_rfl
  refine (law_calls' tab_ok hg latticeAll_law hval' hA).mono fun e W' ⟨he, hb⟩ => ?_
  subst he
  refine ⟨_, rfl, post_true Try.laidOut (rt := 4) (fun ds h => ?_) rfl (by kernel_rfl) (by kernel_rfl) (by kernel_rfl) hW hb⟩
  match ds, h with
  | [_, _], _ => rfl
theorem latticeAll_holds : Rows.LatticeAllSaid :=
  OpenClaim.holds_of_wide 3 Try.f3 rfl rfl rfl rfl rfl rfl rfl ⟨rfl, rfl, rfl, rfl, rfl⟩ rfl rfl rfl rfl rfl (by kernel_rfl) Try.func3 (by kernel_rfl)
    (of_decide_eq_true (by kernel_rfl)) (by unfold Func.isWrapper; first | (rw [if_pos (by decide +kernel)]; kernel_rfl) | (rw [if_neg (by decide +kernel)]; exact ⟨rfl, rfl⟩))
    (fun os started H enc _ => latticeAll_lifted os started H enc)
end Go.Proofs.Ytldijlajoaddnaa
